/- Part 15 of the proof: Lnest Lret Lstabd Lstx0 Lstx1 Lstx2 Lstx3 Lstabp Lstabq Lstabr Lstabs Lstx4 Lput. -/
import Derived.Maps.AppendAt
import Derived.OneCell
import Derived.Laws.OwnMore
import Derived.Sort.Defs
import Derived.Sort.Statements
import Derived.Shelf.SlSortCmp.Kit1
import Derived.WalkKit
import Derived.Lib.QuietBelow
import Derived.Deep.LoopGhost
import Derived.Sort.WalkB2
import Derived.Sort.WalkB12
import Derived.Sort.WalkA
import Derived.Sort.Grow
import Derived.Test.YtjfpbchdcbhfgaaGreatNjo14
set_option linter.unusedVariables false
set_option linter.unusedSimpArgs false
namespace Go.Proofs.YtjfpbchdcbhfgaaGreat
namespace B
open Go Go.RowKit
set_option linter.unusedVariables false
structure Nest(w:World)(base:Nat)(te ti:TypeId)(k q z:Nat)(v:Value)(cs:List Value)(ys:List (Nat×List Value)):Prop where
 outer:w.ownsRow base te k v ys.length cs
 inner:∀i m zs,ys[i]?=some (m,zs)→∃u,cs[i*k+q]?=some u∧w.ownsRow base ti z u m zs∧(u.ownBlock=none∨u.ownBlock≠v.ownBlock)
 apart:∀i j u u',i≠j→i<ys.length→j<ys.length→cs[i*k+q]?=some u→cs[j*k+q]?=some u'→u.ownBlock=none∨u.ownBlock≠u'.ownBlock
theorem Nest.nil(w:World)(base:Nat)(te ti:TypeId)(k q z:Nat):Nest w base te ti k q z (.slice none 0 0) [] []:=
 ⟨⟨by simp,.inl ⟨rfl,rfl⟩⟩,fun i m zs h=>by simp at h,fun i j u u' _ h=>by simp at h⟩
section
variable {w w':World} {base:Nat} {te ti:TypeId} {k q z:Nat} {v v':Value} {cs:List Value} {ys:List (Nat×List Value)}
theorem Nest.kept{row:Option Nat}(h:Nest w base te ti k q z v cs ys)(hg:w.grownBy w' row)(hr:∀b,row=some b→b<base):Nest w' base te ti k q z v cs ys:=by
 have ne:∀{e:TypeId}{s:Nat}{x:Value}{n:Nat}{l:List Value},w.ownsRow base e s x n l→x.ownBlock=none∨x.ownBlock≠row:=fun{e s x n l} ho=>by
  cases hx:x.ownBlock with
  |none=>exact .inl rfl
  |some g=>
   refine .inr fun e2=>?_;have h1:=(ho.lt g hx).1;have h2:=hr g e2.symm;omega
 refine⟨h.outer.kept hg (ne h.outer),fun i m zs hi=>?_,h.apart⟩;obtain⟨u,h1,h2,h3⟩:=h.inner i m zs hi;exact⟨u,h1,h2.kept hg (ne h2),h3⟩
theorem Nest.push(h:Nest w base te ti k q z v cs ys)(es:List Value){u0:Value}(hes:es.length=k)(hq:es[q]?=some u0)(h0:w'.ownsRow base ti z u0 0 [])(hf:∀b,u0.ownBlock=some b→w.heap.size≤b∧v'.ownBlock≠some b)
  (ho:w'.ownsRow base te k v' (ys.length+1) (cs++es))(hg:w.grownBy w' v.ownBlock)
  (hb:v'.ownBlock=v.ownBlock∨∃b,v'.ownBlock=some b∧w.heap.size≤b):Nest w' base te ti k q z v' (cs++es) (ys++[(0,[])]):=by
 have hcl:cs.length=ys.length*k:=h.outer.1;have hqk:q<k:=by rw[←hes];exact(yl.1 hq).1
 have at1:∀i,i<ys.length→(cs++es)[i*k+q]?=cs[i*k+q]?:=fun i hi=>by
  refine y1a ?_;have:(i+1)*k≤ys.length*k:=y1e _ hi;rw[y1k]at this;omega
 have at2:(cs++es)[ys.length*k+q]?=some u0:=by
  rw[y1i (by omega),hcl,Nat.add_sub_cancel_left];exact hq
 have low:∀{i:Nat}{u:Value},i<ys.length→cs[i*k+q]?=some u→∀g,u.ownBlock=some g→g<w.heap.size:=fun{i u} hi hu g hx=>by
  obtain⟨p,hp⟩:∃p,ys[i]?=some p:=⟨_,ya hi⟩;obtain⟨y,y1,y2,_⟩:=h.inner i p.1 p.2 hp;rw[hu]at y1;obtain rfl:=yk y1;exact(y2.lt g hx).2
 refine⟨by rw[y9,yf];exact ho,fun i m zs hi=>?_,fun i j u u' hne hi hj h1 h2=>?_⟩
 ·by_cases hl:i<ys.length
  ·rw[y1a hl]at hi;obtain⟨u,g1,g2,g3⟩:=h.inner i m zs hi;refine⟨u,by rw[at1 i hl];exact g1,g2.kept hg g3,?_⟩;rcases hb with e|⟨b,e,hbl⟩
   ·rw[e];exact g3
   ·cases hx:u.ownBlock with
    |none=>exact .inl rfl
    |some g=>
     refine .inr fun e2=>?_;rw[e]at e2;have:=(g2.lt g hx).2;have:=yk e2;omega
  ·have hl2:i=ys.length:=by
    have:=(yl.1 hi).1;rw[y9,yf]at this;omega
   subst hl2;rw[y1i (y6 _),y3g]at hi;simp only[y38,y8,ym]at hi;obtain⟨rfl,rfl⟩:=hi;refine⟨u0,at2,h0,?_⟩;cases hx:u0.ownBlock with
   |none=>exact .inl rfl
   |some g=>exact .inr fun e=>(hf g hx).2 e.symm
 ·rw[y9,yf]at hi hj;have far:∀{i:Nat}{u:Value},i<ys.length→cs[i*k+q]?=some u→u.ownBlock=none∨u.ownBlock≠u0.ownBlock:=fun{i u} hi hu=>by
   cases hx:u.ownBlock with
   |none=>exact .inl rfl
   |some g=>
    refine .inr fun e=>?_;have h1:=low hi hu g hx;have h2:=(hf g e.symm).1;omega
  by_cases hli:i<ys.length
  ·rw[at1 i hli]at h1;by_cases hlj:j<ys.length
   ·rw[at1 j hlj]at h2;exact h.apart i j u u' hne hli hlj h1 h2
   ·have:j=ys.length:=by omega
    subst this;rw[at2]at h2;obtain rfl:=yk h2;exact far hli h1
  ·have:i=ys.length:=by omega
   subst this;rw[at2]at h1;obtain rfl:=yk h1;rw[at1 j (by omega)]at h2;rcases far (by omega) h2 with e|e
   ·cases hx:u0.ownBlock with
    |none=>exact .inl rfl
    |some g=>rw[e];exact .inr (by simp)
   ·exact .inr fun e2=>e e2.symm
theorem Nest.get(h:Nest w base te ti k q z v cs ys)(hk:0<k)(hq:q<k){i m:Nat}{zs:List Value}(hi:ys[i]?=some (m,zs)):
  ∃g cap u,v=.slice (some ⟨g,0,none⟩) ys.length cap∧base≤g∧cs[i*k+q]?=some u∧w.cell? ⟨g,i*k+q,none⟩=some u∧w.frozen? ⟨g,i*k+q,none⟩=false∧w.ownsRow base ti z u m zs∧(u.ownBlock=none∨u.ownBlock≠v.ownBlock):=by
 obtain⟨u,h1,h2,h3⟩:=h.inner i m zs hi;have hl:=(yl.1 hi).1;have ho:=h.outer;obtain⟨hcl,⟨rfl,h0⟩|⟨g,cap,cur,rfl,hge,_⟩⟩:=ho
 ·omega
 ·have hlt:i*k+q<ys.length*k:=by
   have:(i+1)*k≤ys.length*k:=y1e _ hl;rw[y1k]at this;omega
  exact⟨g,cap,u,rfl,hge,h1,by rw[h.outer.cellAt _ hlt];exact h1,h.outer.frozenAt _,h2,h3⟩
theorem Nest.app(h:Nest w base te ti k q z v cs ys)(hk:0<k)(hqk:q<k){i m m':Nat}{zs zs':List Value}{g cap:Nat}{u u':Value}(hi:ys[i]?=some (m,zs))(hv:v=.slice (some ⟨g,0,none⟩) ys.length cap)(hu:cs[i*k+q]?=some u)
  (ho:w'.ownsRow base ti z u' m' zs')(hg:w.grownBy w' u.ownBlock)(hb:u'.ownBlock=u.ownBlock∨u'.ownBlock=some w.heap.size):
  Nest (w'.setCell ⟨g,i*k+q,none⟩ u') base te ti k q z v (cs.set (i*k+q) u') (ys.set i (m',zs')):=by
 obtain⟨u0,g1,g2,g3⟩:=h.inner i m zs hi;rw[hu]at g1;obtain rfl:=yk g1;have hl:=(yl.1 hi).1;have hvb:v.ownBlock=some g:=by rw[hv];rfl
 have hgl:=(h.outer.lt g hvb).2;have hne:v.ownBlock=none∨v.ownBlock≠u.ownBlock:=by
  rcases g3 with e|e
  ·rw[e,hvb];exact .inr (by simp)
  ·exact .inr fun e2=>e e2.symm
 have hsz:=hg.size;have hu':∀{x:Value},(x.ownBlock=none∨x.ownBlock≠u.ownBlock)→(∀b,x.ownBlock=some b→b<w.heap.size)→x.ownBlock=none∨x.ownBlock≠u'.ownBlock:=fun{x} hx hlt=>by
  rcases hb with e|e
  ·rw[e];exact hx
  ·cases hxb:x.ownBlock with
   |none=>exact .inl rfl
   |some b=>
    refine .inr fun e2=>?_;rw[e]at e2;have:=hlt b hxb;have:=yk e2;omega
 have hug:u'.ownBlock≠some g:=fun e2=>by
  rcases hu' hne (fun b hb2=>(h.outer.lt b hb2).2)with e|e
  ·rw[hvb]at e;exact absurd e (by simp)
  ·rw[hvb]at e;exact e e2.symm
 have hpos:∀j,j<ys.length→j*k+q<cs.length:=fun j hj=>by
  rw[h.outer.1];have:(j+1)*k≤ys.length*k:=y1e _ hj;rw[y1k]at this;omega
 have hinj:∀j,j≠i→j*k+q≠i*k+q:=fun j hj e=>hj (Nat.eq_of_mul_eq_mul_right hk (by omega));have hcs:∀j,(cs.set (i*k+q) u')[j*k+q]?=if j=i then some u' else cs[j*k+q]?:=fun j=>by
  rw[y24];by_cases e:j=i
  ·subst e;rw[if_pos rfl,if_pos rfl,if_pos (hpos j hl)]
  ·rw[if_neg (fun e2=>hinj j e e2.symm),if_neg e]
 refine⟨?_,fun j n ws hj=>?_,fun j j' x x' hne2 hj hj' h1 h2=>?_⟩
 ·rw[y1s];have h1:=h.outer.kept hg hne;rw[hv]at h1 ⊢;exact(h1.stored _ _).1
 ·rw[y24]at hj;by_cases e:i=j
  ·subst e;rw[if_pos rfl,if_pos hl]at hj;simp only[y8,ym]at hj;obtain⟨rfl,rfl⟩:=hj;refine⟨u',by rw[hcs,if_pos rfl],ownsRow_setCell_other ho hug u',?_⟩;rw[hvb];exact .inr hug
  ·rw[if_neg e]at hj;obtain⟨x,x1,x2,x3⟩:=h.inner j n ws hj;have hlj:=(yl.1 hj).1;refine⟨x,by rw[hcs,if_neg (fun e2=>e e2.symm)];exact x1,?_,x3⟩;refine ownsRow_setCell_other (x2.kept hg (h.apart j i x u (fun e2=>e e2.symm) hlj hl x1 hu)) (fun e2=>?_) u';rcases x3 with e3|e3
   ·rw[e3]at e2;simp at e2
   ·rw[hvb]at e3;exact e3 e2
 ·rw[y1s]at hj hj';rw[hcs]at h1 h2;by_cases e:j=i
  ·rw[if_pos e]at h1;have hj2:j'≠i:=fun e2=>hne2 (e.trans e2.symm);rw[if_neg hj2]at h2;obtain rfl:=yk h1;subst e;obtain⟨p,hp⟩:∃p,ys[j']?=some p:=⟨_,ya hj'⟩;obtain⟨y,y1,y2,_⟩:=h.inner j' p.1 p.2 hp;rw[h2]at y1;obtain rfl:=yk y1;have:=hu' (h.apart j' j x' u (fun e2=>hj2 e2) hj' hj h2 hu) (fun b hb2=>(y2.lt b hb2).2);rcases this with e3|e3
   ·cases hx:u'.ownBlock with
    |none=>exact .inl rfl
    |some b=>rw[e3];exact .inr (by simp)
   ·exact .inr fun e4=>e3 e4.symm
  ·rw[if_neg e]at h1;by_cases e':j'=i
   ·rw[if_pos e']at h2;obtain rfl:=yk h2;subst e';obtain⟨p,hp⟩:∃p,ys[j]?=some p:=⟨_,ya hj⟩;obtain⟨y,y1,y2,_⟩:=h.inner j p.1 p.2 hp;rw[h1]at y1;obtain rfl:=yk y1;exact hu' (h.apart j j' x u e hj hj' h1 hu) (fun b hb2=>(y2.lt b hb2).2)
   ·rw[if_neg e']at h2;exact h.apart j j' x x' hne2 hj hj' h1 h2
end
end B
namespace B
open Go Go.RowKit Go.Shelf
set_option maxRecDepth 1000000
set_option linter.unusedVariables false
def StN(St:Nat→Nat→Prop)(w w':World)(v:Value)(b o:Nat):Prop:=(b<w.heap.size∧St b o)∨(w.heap.size≤b∧b<w'.heap.size∧v.ownBlock≠some b)
open Classical in
theorem z2nh{St:Nat→Nat→Prop}{w w':World}{v:Value}{τ:Ty}{xs:List (Den τ)}(hext:Ext w w')(hbd:∀b o,St b o→b<w.heap.size)(h:VRel En (StN St w w' .nilFunc) w' v (.dat τ xs)):
  Ret Tryz.prog En St w w' v [.c (.sl (U:=Un) τ xs false)] []:=by
 refine⟨hext,⟨fun _=>0,fun _=>False,fun b o=>if StN St w w' .nilFunc b o then some .st else none,fun _=>(none,0)⟩,fun _ h=>h,?_,?_,?_,?_⟩
 ·intro b o x hb hx;have hx':(if StN St w w' .nilFunc b o then some Own.st else none)=some x:=hx;split at hx'
  ·rename_i hs;simp at hx';rcases hs with⟨_,h2⟩|⟨h1,_⟩
   ·exact⟨hx'.symm,h2⟩
   ·omega
  ·simp at hx'
 ·intro b o x hx;have hx':(if StN St w w' .nilFunc b o then some Own.st else none)=some x:=hx;split at hx'
  ·rename_i hs;rcases hs with⟨h1,_⟩|⟨_,h2,_⟩
   ·exact yn h1 hext.le
   ·exact h2
  ·simp at hx'
 ·refine⟨h.mono fun b o hs=>⟨?_,rfl⟩,fun h=>by simp at h⟩;show(if StN St w w' .nilFunc b o then some Own.st else none)=some .st;rw[if_pos hs]
 ·intro k o ho;simp at ho
theorem zwt{w w':World}(h:Ext w w'):w.grownBy w' none:=⟨h.os,h.tape,h.output,h.size,fun k hk _=>Below.block h k hk⟩
theorem z1ym{w W W5:World}{row:Option Nat}(hx:Ext w W)(hg:W.grownBy W5 row)(hr:∀b,row=some b→w.heap.size≤b):Ext w W5:=
 Below.trans hx ⟨hg.os,hg.tape,hg.output,hg.size,fun k hk=>hg.block k (yn hk hx.size) (fun e=>by have:=hr k e.symm;omega)⟩
theorem z2l4{f:FuncId}{F:FnC Un}(hok:FnOK f F){args:List (D Un)}{ob:List Prop}{k:IntKind}{n:Int}(hF:F args=some (ob,[.c (.s (.int k n))],[]))(hob:∀p∈ob,p){w:World}{St:Nat→Nat→Prop}{vs:List Value}(hbd:∀b o,St b o→b<w.heap.size)(hrel:All2 (DRel Tryz.prog En St w) vs args)(hld:Laid w):
  Calls Tryz.prog f vs.toArray w fun e w'=>e=.returned (.int k n)∧Ext w w':=by
 refine((hok args ob _ [] hF hob).1 w St vs hbd hrel hld).mono ?_;rintro e w' ⟨v,rfl,hx,g,-,-,-,hr,-⟩;exact⟨by rw[show v=.int k n from hr.1],hx⟩
theorem z2er{St:Nat→Nat→Prop}{w:World}{v:Value}{keys:List (List Val)}(h:VRel En St w v (.dat (U:=Un) Ty.row keys)):
  ∃(a:Option Addr)(b off cap:Nat)(kv:Nat→Value),v=.slice a keys.length cap∧(keys≠[]→a=some ⟨b,off,none⟩∧keys.length≤cap)∧∀i,i<keys.length→St b (off+i)∧w.cell? ⟨b,off+i,none⟩=some (kv i)∧VRel En St w (kv i) (.dat (U:=Un) Ty.val (keys.getD i [])):=by
 rcases h.inv with⟨rfl,a,cap,rfl⟩|⟨b,o,cap,cv,rfl,hcap,h1,h2⟩
 ·exact⟨a,0,0,cap,fun _=>undef,rfl,fun h=>(h rfl).elim,fun i hi=>by simp at hi⟩
 ·refine⟨_,b,o,cap,fun i=>cv i 0,rfl,fun _=>⟨rfl,hcap.1⟩,fun i hi=>?_⟩;obtain⟨g1,g2⟩:=h1 i 0 hi (show(0:Nat)<1 from Nat.one_pos);have e:o+i*Un.sz Ty.row+0=o+i:=by show o+i*1+0=_;omega
  rw[e]at g1 g2;have g3:=h2 i hi 0 (.dat (U:=Un) Ty.val keys[i]) rfl;have e2:keys.getD i []=keys[i]:=by rw[yd,ya hi];rfl
  exact⟨g1,g2,by rw[e2];exact g3⟩
theorem z26d{St:Nat→Nat→Prop}{w w':World}(hx:Ext w w')(hbd:∀b o,St b o→b<w.heap.size):Keeps St w St w':=fun b o hs=>⟨hs,hx.cell (p:=⟨b,o,none⟩) (hbd b o hs)⟩
end B
namespace B
open Go Go.Sort
set_option linter.unusedVariables false
variable {α:Type} [Inhabited α]
def swR(d:Array α)(a b:Nat):Nat→Array α
 |0=>d
 |n+1=>swR (swp d a b) (a+1) (b+1) n
def rotL:Nat→Array α→Nat→Nat→Nat→Array α
 |0,d,m,i,_=>swR d (m- i) m i
 |f+1,d,m,i,j=>if i=j then swR d (m- i) m i else if j<i then rotL f (swR d (m- i) m j) m (i- j) j else rotL f (swR d (m- i) (m+j- i) i) m i (j- i)
def rotF(d:Array α)(a m b:Nat):Array α:=rotL (b- a) d m (m- a) (b- m)
def bsL(p:Nat→Bool)(i j:Nat):Nat:=if i<j then(if p ((i+j)/2)then bsL p ((i+j)/2+1) j else bsL p i ((i+j)/2))else i
termination_by j- i
decreasing_by all_goals omega
def upL(d:Array α)(k e:Nat):Array α:=if k<e then upL (swp d k (k+1)) (k+1) e else d
termination_by e- k
def dnL(d:Array α)(k i:Nat):Array α:=if i<k then dnL (swp d k (k- 1)) (k- 1) i else d
termination_by k- i
def symS(lt:α→α→Bool)(d:Array α)(a m b:Nat):Nat:=
 bsL (fun c=>!lt d[(a+b)/2+m- 1- c]! d[c]!) (if(a+b)/2<m then(a+b)/2+m- b else a) (if(a+b)/2<m then(a+b)/2 else m)
def symF(lt:α→α→Bool):Nat→Array α→Nat→Nat→Nat→Array α
 |0,d,_,_,_=>d
 |f+1,d,a,m,b=>
  if m- a=1 then upL d a (bsL (fun h=>lt d[h]! d[a]!) m b- 1)
  else if b- m=1 then dnL d m (bsL (fun h=>!lt d[m]! d[h]!) a m)
  else
   let s:=symS lt d a m b;let e:=(a+b)/2+m- s;let d1:=if s<m∧m<e then rotF d s m e else d;let d2:=if a<s∧s<(a+b)/2 then symF lt f d1 a s ((a+b)/2)else d1
   if(a+b)/2<e∧e<b then symF lt f d2 ((a+b)/2) e b else d2
def stB(lt:α→α→Bool)(d:Array α)(a n bs:Nat):Array α:=if h:0<bs∧a+bs≤n then stB lt (Sort.insertionSort lt d a (a+bs)) (a+bs) n bs else Sort.insertionSort lt d a n
termination_by n- a
def stM(lt:α→α→Bool)(d:Array α)(a n bs:Nat):Array α:=
 if h:0<bs∧a+2*bs≤n then stM lt (symF lt (2*bs) d a (a+bs) (a+2*bs)) (a+2*bs) n bs
 else if a+bs<n then symF lt (n- a) d a (a+bs) n else d
termination_by n- a
def stR(lt:α→α→Bool)(d:Array α)(n bs:Nat):Array α:=if h:0<bs∧bs<n then stR lt (stM lt d 0 n bs) n (2*bs)else d
termination_by n- bs
def stF(lt:α→α→Bool)(d:Array α)(n:Nat):Array α:=stR lt (stB lt d 0 n 20) n 20
theorem zkn:∀(n:Nat)(d:Array α)(a b:Nat),(swR d a b n).size=d.size
 |0,_,_,_=>rfl
 |n+1,d,a,b=>by rw[swR,zkn n,size_swp]
theorem z1by:∀(f:Nat)(d:Array α)(m i j:Nat),(rotL f d m i j).size=d.size
 |0,d,m,i,j=>by rw[rotL,zkn]
 |f+1,d,m,i,j=>by
  rw[rotL];split
  ·rw[zkn]
  ·split
   ·rw[z1by f,zkn]
   ·rw[z1by f,zkn]
theorem z1yn(d:Array α)(a m b:Nat):(rotF d a m b).size=d.size:=z1by _ _ _ _ _
theorem z12p(p:Nat→Bool)(i j:Nat)(h:i≤j):i≤bsL p i j∧bsL p i j≤j:=by
 induction i,j using bsL.induct (p:=p)with
 |case1 i j hlt hp ih=>rw[bsL,if_pos hlt,if_pos hp];have:=ih (by omega);omega
 |case2 i j hlt hp ih=>rw[bsL,if_pos hlt,if_neg hp];have:=ih (by omega);omega
 |case3 i j hlt=>rw[bsL,if_neg hlt];omega
theorem z2l5(d:Array α)(k e:Nat):(upL d k e).size=d.size:=by
 fun_induction upL d k e with
 |case1 d k h ih=>rw[ih,size_swp]
 |case2 d k h=>rfl
theorem z2l6(d:Array α)(k i:Nat):(dnL d k i).size=d.size:=by
 fun_induction dnL d k i with
 |case1 d k h ih=>rw[ih,size_swp]
 |case2 d k h=>rfl
theorem zlc(lt:α→α→Bool):∀(f:Nat)(d:Array α)(a m b:Nat),(symF lt f d a m b).size=d.size
 |0,_,_,_,_=>rfl
 |f+1,d,a,m,b=>by
  rw[symF];split
  ·rw[z2l5]
  ·split
   ·rw[z2l6]
   ·simp only;split<;>split<;>split<;>simp only[zlc lt f,z1yn]
end B
namespace B
open Go Go.RowKit Go.Shelf Go.Lib Go.Sort
set_option linter.unusedVariables false
variable {P:Program} {α:Type} [Inhabited α] {enc:α→Value} {w0 W:World} {blk off:Nat} {dk d0:Array α}
def SX(enc:α→Value)(w0:World)(blk off:Nat)(dk:Array α)(W:World):Prop:=Below w0.heap.size (putRow enc w0 blk off dk) W
def CmpX(P:Program)(g:Nat)(cb:Array Value)(enc:α→Value)(cf:α→α→Int)(blk off size:Nat)(w:World):Prop:=
 ∀(W:World)(dk:Array α),dk.size=size→SX enc w blk off dk W→∀x y:α,Calls P g (#[enc x,enc y]++cb) W fun e w'=>e=.returned (.int .i64 (cf x y))∧Below W.heap.size W w'
theorem SX.le(h:SX enc w0 blk off dk W):w0.heap.size≤W.heap.size:=by have:=h.size;rwa[size_putRow]at this
theorem SX.below{W':World}(h:SX enc w0 blk off dk W)(hb:Below W.heap.size W W'):SX enc w0 blk off dk W':=Below.trans h (hb.mono h.le)
theorem SX.drew(h:SX enc w0 blk off dk W):SX enc w0 blk off dk W.drew:=Below.drew h
theorem SX.regrown(h:SX enc w0 blk off dk W)(d:Nat)(os:Array Obj):SX enc w0 blk off dk (grow (redrawn W d) os):=h.below (below_regrown W d os)
theorem SX.holds(h:SX enc w0 blk off dk W)(R:Row1 enc w0 blk off d0)(hs:dk.size=d0.size):Holds enc W blk off dk:=fun j hj=>by
 obtain⟨h1,h2⟩:=holds_putRow enc w0 blk off d0 dk R.hH hs j hj;exact⟨(Below.cell h R.hblk).trans h1,(Below.frozen h R.hblk).trans h2⟩
theorem SX.c1(h:SX enc w0 blk off dk W)(R:Row1 enc w0 blk off d0)(hs:dk.size=d0.size)(i:Nat)(hi:i<dk.size):W.cell? ⟨blk,off+i,none⟩=some (enc dk[i]!):=(h.holds R hs i hi).1
theorem SX.f1(h:SX enc w0 blk off dk W)(R:Row1 enc w0 blk off d0)(hs:dk.size=d0.size)(i:Nat)(hi:i<dk.size):W.frozen? ⟨blk,off+i,none⟩=false:=(h.holds R hs i hi).2
theorem SX.cl(h:SX enc w0 blk off dk W)(R:Row1 enc w0 blk off d0)(hs:dk.size=d0.size)(i:Nat)(hi:i<dk.size)(n:Nat)(os:Array Obj):(grow (redrawn W n) os).cell? ⟨blk,off+i,none⟩=some (enc dk[i]!):=(h.regrown n os).c1 R hs i hi
theorem SX.cmp{g:Nat}{cb:Array Value}{cf:α→α→Int}{size:Nat}(h:SX enc w0 blk off dk W)(hC:CmpX P g cb enc cf blk off size w0)(hs:dk.size=size)(x y:α)(n:Nat)(os:Array Obj):
  Calls P g (#[enc x,enc y]++cb) (grow (redrawn W n) os) fun e w'=>e=.returned (.int .i64 (cf x y))∧Below (grow (redrawn W n) os).heap.size (grow (redrawn W n) os) w':=hC _ dk hs (h.regrown n os) x y
theorem SX.c2(h:SX enc w0 blk off dk W)(R:Row1 enc w0 blk off d0)(hs:dk.size=d0.size)(i j:Nat)(hi:i<dk.size)(hj:j<dk.size)(v:Value):
  ∃u,(W.setCell ⟨blk,off+i,none⟩ v).cell? ⟨blk,off+j,none⟩=some u:=by
 by_cases e:i=j
 ·subst e;exact⟨v,World.cell?_setCell_same _ _ _ (h.c1 R hs i hi)⟩
 ·exact⟨_,(World.cell?_setCell_other _ _ _ _ (by intro e';simp only[Addr.mk.injEq]at e';omega)).trans (h.c1 R hs j hj)⟩
theorem z12q{B:Nat}{A W:World}(h:Below B A W)(p:Addr)(v:Value):Below B (A.setCell p v) (W.setCell p v):=by
 refine⟨h.os,h.tape,h.output,by simpa using h.size,fun k hk=>?_⟩;have hb:=h.block k hk;simp only[World.setCell,y3w];rw[hb]
theorem SX.swapped(h:SX enc w0 blk off dk W)(R:Row1 enc w0 blk off d0)(i j:Nat)(hi:i<dk.size)(hj:j<dk.size):
  SX enc w0 blk off (swp dk i j) ((W.setCell ⟨blk,off+i,none⟩ (enc dk[j]!)).setCell ⟨blk,off+j,none⟩ (enc dk[i]!)).drew:=by
 refine SX.drew ?_;unfold SX;rw[←putRow_swp enc w0 blk off dk i j hi hj];exact z12q (z12q h _ _) _ _
end B
namespace B
open Go Go.RowKit Go.Shelf Go.Lib Go.Sort
set_option maxRecDepth 1000000
set_option linter.unusedVariables false
noncomputable section
variable {α:Type} [Inhabited α]
set_option maxHeartbeats 4000000 in
theorem z10h(enc:α→Value)(g:Nat)(cb:Array Value)(blk off cap a b n:Nat)(d0 d:Array α)(w0 w:World)
  (R:Row1 enc w0 blk off d0)(hs:d0.size=d.size)(S:SX enc w0 blk off d w)(ha:a+n≤d.size)(hb:b+n≤d.size)(hsz:d.size<4611686018427387904):
  Calls Tryz.prog 250 #[.slice (some ⟨blk,off,none⟩) d.size cap,.int .i64 a,.int .i64 b,.int .i64 n,.func (.func g) #[] cb] w fun e w'=>e=.returned (.tuple #[])∧SX enc w0 blk off (swR d a b n) w':=by
 have mixed:Tryz.prog.follows .mixedOrders=true:=by kernel_rfl
 have hcl0:=R.hO.cells;simp only[Value.cells]at hcl0;have hst:=R.hO.store Tryz.prog;have S0:Aside (SX enc w0 blk off d w):=S;clear S
 go_enter Tryz.func250,Tryz.ntmps250
 go_wp2
 go_loopg [10] (n) (fun kx s10 wr=>∃(i:Nat)(dk:Array α),s10=.int .i64 i∧i≤n∧n- i≤kx∧dk.size=d.size∧Aside (SX enc w0 blk off dk wr)∧swR dk (a+i) (b+i) (n- i)=swR d a b n)
 case atStart=>exact⟨0,d,rfl,yb _,by omega,rfl,S0,rfl⟩
 case round=>
  clear S0;obtain⟨i,dk,rfl,hi,hkx,hds,S1,heq⟩:=hrel;by_cases hlt:i<n
  ·have hltz:(i:Int)<(n:Int):=by omega
   go_wp2_with fail
   obtain⟨iN1,hiN1⟩:∃q,q=a+i:=⟨_,rfl⟩;obtain⟨jN1,hjN1⟩:∃q,q=b+i:=⟨_,rfl⟩;have ea1:((a:Int)+(i:Int)).toNat=iN1:=by omega
   have pa1:(0:Int)≤(a:Int)+(i:Int):=by omega
   have ba1:(a:Int)+(i:Int)<(d.size:Int):=by omega
   have ra1:IntKind.i64.wrap ((a:Int)+(i:Int))=(a:Int)+(i:Int):=by rw[IntKind.wrap_i64];omega
   have ec1:((b:Int)+(i:Int)).toNat=jN1:=by omega
   have pc1:(0:Int)≤(b:Int)+(i:Int):=by omega
   have bc1:(b:Int)+(i:Int)<(d.size:Int):=by omega
   have rc1:IntKind.i64.wrap ((b:Int)+(i:Int))=(b:Int)+(i:Int):=by rw[IntKind.wrap_i64];omega
   obtain⟨x1,hx1⟩:∃x,x=dk[a+i]!:=⟨_,rfl⟩;obtain⟨y1,hy1⟩:∃x,x=dk[b+i]!:=⟨_,rfl⟩;have S2:Aside (SX enc w0 blk off (swp dk (a+i) (b+i)) ((wr.setCell ⟨blk,off+iN1,none⟩ (enc y1)).setCell ⟨blk,off+jN1,none⟩ (enc x1)).drew):=by rw[hiN1,hjN1,hx1,hy1];exact S1.out.swapped R (a+i) (b+i) (by omega) (by omega)
   have c1a:=S1.out.c1 R (by omega) (a+i) (by omega);have c1b:=S1.out.c1 R (by omega) (b+i) (by omega);have f1a:=S1.out.f1 R (by omega) (a+i) (by omega);have f1b:=S1.out.f1 R (by omega) (b+i) (by omega);obtain⟨u1,c1c⟩:=S1.out.c2 R (by omega) (a+i) (b+i) (by omega) (by omega) (enc y1);rw[←hjN1,←hiN1]at c1c;rw[←hx1,←hiN1]at c1a;rw[←hy1,←hjN1]at c1b;rw[←hiN1]at f1a;rw[←hjN1]at f1b;clear S1 hx1 hy1 hiN1 hjN1
   go_wp2_with fail
   go_big_region_o
   clear c1a c1b c1c f1a f1b;generalize((wr.setCell ⟨blk,off+iN1,none⟩ (enc y1)).setCell ⟨blk,off+jN1,none⟩ (enc x1)).drew=w2 at S2 ⊢;clear ea1 ec1
   go_wp2
   go_roundg (n- (i+1))
   case measure=>omega
   case rel=>
    refine⟨i+1,swp dk (a+i) (b+i),by go_num,by omega,y6 _,by rw[size_swp];exact hds,S2,?_⟩;rw[←heq,show n- i=(n- (i+1))+1 by omega,swR];rfl
  ·have hltz:¬(i:Int)<(n:Int):=by omega
   go_wp2
   go_end0
   refine⟨rfl,?_⟩;rw[show n- i=0 by omega,swR]at heq;rw[←heq];exact S1.out
set_option maxHeartbeats 4000000 in
theorem z2l7(enc:α→Value)(g:Nat)(cb:Array Value)(blk off cap a m b:Nat)(d0 d:Array α)(w0 w:World)
  (R:Row1 enc w0 blk off d0)(hs:d0.size=d.size)(S:SX enc w0 blk off d w)(ham:a<m)(hmb:m<b)(hb:b≤d.size)(hsz:d.size<4611686018427387904):
  Calls Tryz.prog 244 #[.slice (some ⟨blk,off,none⟩) d.size cap,.int .i64 a,.int .i64 m,.int .i64 b,.func (.func g) #[] cb] w fun e w'=>e=.returned (.tuple #[])∧SX enc w0 blk off (rotF d a m b) w':=by
 have mixed:Tryz.prog.follows .mixedOrders=true:=by kernel_rfl
 have S0:Aside (SX enc w0 blk off d w):=S;clear S
 go_enter Tryz.func244,Tryz.ntmps244
 go_wp2
 go_loopg [10,11] (b- a) (fun kx s10 s11 wr=>∃(f i j:Nat)(dk:Array α),s10=.int .i64 i∧s11=.int .i64 j∧0<i∧0<j∧i≤m∧m+j≤d.size∧i+j≤f∧i+j≤kx∧dk.size=d.size∧Aside (SX enc w0 blk off dk wr)∧rotL f dk m i j=rotF d a m b)
 case atStart=>exact⟨b- a,m- a,b- m,d,by go_num,by go_num,by omega,by omega,by omega,by omega,by omega,by omega,rfl,S0,rfl⟩
 case round=>
  clear S0;obtain⟨f,i,j,dk,rfl,rfl,hi,hj,him,hjm,hf,hkx,hds,S1,heq⟩:=hrel;obtain⟨f,rfl⟩:∃q,f=q+1:=⟨f- 1,by omega⟩;rw[rotL]at heq;by_cases he:i=j
  ·rw[if_pos he]at heq;subst he;have hne:((i:Int) !=(i:Int))=false:=by simp
   go_wp2_with (first
    |(go_at_call 250;rw[show((m:Int)- (i:Int))=((m- i:Nat):Int) by omega];rw[←hds];refine(z10h enc g cb blk off cap (m- i) m i d0 dk w0 _ R (by omega) S1.out (by omega) (by omega) (by omega)).mono ?_;rintro e w' ⟨rfl,S2⟩;have S3:=Lib.hid S2;clear S2)
    |fail)
   go_end0
   exact⟨rfl,by rw[←heq];exact S3.out⟩
  ·rw[if_neg he]at heq;have hne:((i:Int) !=(j:Int))=true:=by simp;omega
   by_cases hij:j<i
   ·rw[if_pos hij]at heq;have hgt:(j:Int)<(i:Int):=by omega
    go_wp2_with (first
     |(go_at_call 250;rw[show((m:Int)- (i:Int))=((m- i:Nat):Int) by omega];rw[←hds];refine(z10h enc g cb blk off cap (m- i) m j d0 dk w0 _ R (by omega) S1.out (by omega) (by omega) (by omega)).mono ?_;rintro e w' ⟨rfl,S2⟩;have S3:=Lib.hid S2;clear S2)
     |fail)
    go_roundg (i- j+j)
    case measure=>omega
    case rel=>exact⟨f,i- j,j,_,by go_num,rfl,by omega,by omega,by omega,by omega,by omega,by omega,by rw[zkn];exact hds,S3.out,heq⟩
   ·rw[if_neg hij]at heq;have hgt:¬(j:Int)<(i:Int):=by omega
    go_wp2_with (first
     |(go_at_call 250;rw[show((m:Int)- (i:Int))=((m- i:Nat):Int) by omega];rw[show((m:Int)+(j:Int)- (i:Int))=((m+j- i:Nat):Int) by omega];rw[←hds];refine(z10h enc g cb blk off cap (m- i) (m+j- i) i d0 dk w0 _ R (by omega) S1.out (by omega) (by omega) (by omega)).mono ?_;rintro e w' ⟨rfl,S2⟩;have S3:=Lib.hid S2;clear S2)
     |fail)
    go_roundg (i+(j- i))
    case measure=>omega
    case rel=>exact⟨f,i,j- i,_,rfl,by go_num,by omega,by omega,by omega,by omega,by omega,by omega,by rw[zkn];exact hds,S3.out,heq⟩
end
end B
namespace B
open Go Go.RowKit Go.Shelf Go.Lib Go.Sort
set_option maxRecDepth 1000000
set_option linter.unusedVariables false
noncomputable section
variable {α:Type} [Inhabited α]
set_option maxHeartbeats 8000000 in
theorem z2oy(enc:α→Value)(cf:α→α→Int)(g:Nat)(cb:Array Value)(blk off cap a m b:Nat)(d0 d:Array α)(w0 w:World)
  (eg:∀args w,(callFunc g args).run Tryz.prog w=.ok (.enter g args) w)(hcmp:CmpX Tryz.prog g cb enc cf blk off d0.size w0)
  (R:Row1 enc w0 blk off d0)(hs:d0.size=d.size)(S:SX enc w0 blk off d w)(ham:m=a+1)(hmb:m<b)(hb:b≤d.size)(hsz:d.size<4611686018427387904):
  Calls Tryz.prog 227 #[.slice (some ⟨blk,off,none⟩) d.size cap,.int .i64 a,.int .i64 m,.int .i64 b,.func (.func g) #[] cb] w fun e w'=>e=.returned (.tuple #[])∧SX enc w0 blk off (upL d a (bsL (fun h=>ltOf cf d[h]! d[a]!) m b- 1)) w':=by
 have mixed:Tryz.prog.follows .mixedOrders=true:=by kernel_rfl
 have hcl0:=R.hO.cells;simp only[Value.cells]at hcl0;have hst:=R.hO.store Tryz.prog;have S0:Aside (SX enc w0 blk off d w):=S;have HC:Aside _:=hcmp;clear S hcmp;obtain⟨r,hr⟩:∃r,r=bsL (fun h=>ltOf cf d[h]! d[a]!) m b:=⟨_,rfl⟩;have hrb:=z12p (fun h=>ltOf cf d[h]! d[a]!) m b (by omega);rw[←hr]at hrb ⊢;have HR:=Lib.hid hr;clear hr;have h1:((m:Int)- (a:Int)==1)=true:=by simp;omega
 have hma:a<m:=by omega
 have HAM:=Lib.hid ham;clear ham
 go_enter Tryz.func227,Tryz.ntmps227
 go_wp2
 go_loopg [10,11] (b- a) (fun kx s10 s11 wr=>∃(i j:Nat),s10=.int .i64 i∧s11=.int .i64 j∧m≤i∧i≤j∧j≤b∧j- i≤kx∧Aside (SX enc w0 blk off d wr)∧bsL (fun h=>ltOf cf d[h]! d[a]!) i j=r)
 case atStart=>exact⟨m,b,rfl,rfl,y6 _,by omega,y6 _,by omega,S0,HR.out.symm⟩
 case round=>
  clear S0;obtain⟨i,j,rfl,rfl,hmi,hij,hjb,hkx,S1,heq⟩:=hrel;rw[bsL]at heq;have HQ:=Lib.hid heq;clear heq;by_cases hlt:i<j
  ·have hltz:(i:Int)<(j:Int):=by omega
   go_wp2_with fail
   obtain⟨k,hk⟩:∃q,q=(i+j)/2:=⟨_,rfl⟩;have ek:((i:Int)+(j:Int))/2=(k:Int):=by omega
   simp only[ek];clear ek;obtain⟨x1,hx1⟩:∃x,x=d[k]!:=⟨_,rfl⟩;obtain⟨y1,hy1⟩:∃x,x=d[a]!:=⟨_,rfl⟩;have ea1:((k:Int)).toNat=k:=by omega
   have pa1:(0:Int)≤(k:Int):=by omega
   have ba1:(k:Int)<(d.size:Int):=by omega
   have ec1:((a:Int)).toNat=a:=by omega
   have pc1:(0:Int)≤(a:Int):=by omega
   have bc1:(a:Int)<(d.size:Int):=by omega
   have l1a:=S1.out.cl R (by omega) k (by omega);have l1b:=S1.out.cl R (by omega) a (by omega);rw[←hx1]at l1a;rw[←hy1]at l1b;have hc1:=S1.out.cmp HC.out (by omega) x1 y1;have hlt1:ltOf cf d[k]! d[a]! =decide (cf x1 y1<0):=by rw[hx1,hy1];rfl
   have HL:=Lib.hid hlt1;have HK:=Lib.hid hk;clear hx1 hy1 hlt1 hk;by_cases hv:cf x1 y1<0
   ·have hd1:decide (cf x1 y1<0)=true:=decide_eq_true hv;refine wp_region_quiet_below (by assumption) (by kernel_rfl) ?_
    repeat(quiet_step (first|(go_at_fn g;refine Calls.regrown_of (hc1 _ _))))
    refine wpQuiet_nil ?_;intro _ hw';obtain⟨⟨nq,osq⟩,hw''⟩:=hw';subst hw'';have S2:Aside (SX enc w0 blk off d (grow (redrawn wr nq) osq)):=S1.out.regrown nq osq;clear l1a l1b hc1 S1;generalize grow (redrawn wr nq) osq=w2 at S2 ⊢;clear nq osq
    go_wp2_with fail
    have e1:=HK.out
    go_roundg (j- (k+1))
    case measure=>omega
    case rel=>exact⟨k+1,j,by go_num,rfl,by omega,by omega,by omega,y6 _,S2,by rw[←HQ.out,if_pos hlt,←e1,if_pos (by rw[HL.out,hd1])]⟩
   ·have hd1:decide (cf x1 y1<0)=false:=decide_eq_false hv;refine wp_region_quiet_below (by assumption) (by kernel_rfl) ?_
    repeat(quiet_step (first|(go_at_fn g;refine Calls.regrown_of (hc1 _ _))))
    refine wpQuiet_nil ?_;intro _ hw';obtain⟨⟨nq,osq⟩,hw''⟩:=hw';subst hw'';have S2:Aside (SX enc w0 blk off d (grow (redrawn wr nq) osq)):=S1.out.regrown nq osq;clear l1a l1b hc1 S1;generalize grow (redrawn wr nq) osq=w2 at S2 ⊢;clear nq osq
    go_wp2_with fail
    have e1:=HK.out
    go_roundg (k- i)
    case measure=>omega
    case rel=>exact⟨i,k,rfl,rfl,by omega,by omega,by omega,y6 _,S2,by rw[←HQ.out,if_pos hlt,←e1,if_neg (by rw[HL.out,hd1];simp)]⟩
  ·have hltz:¬(i:Int)<(j:Int):=by omega
   have er:i=r:=by rw[←HQ.out,if_neg hlt]
   clear HQ;subst er
   go_wp2_with fail
   have z1:((i:Int)- 1)=((i- 1:Nat):Int):=by omega
   go_loopg [13] (i- 1- a) (fun kx s13 wr2=>∃(k:Nat)(dk:Array α),s13=.int .i64 k∧a≤k∧i- 1- k≤kx∧dk.size=d.size∧Aside (SX enc w0 blk off dk wr2)∧upL dk k (i- 1)=upL d a (i- 1))
   case atStart=>exact⟨a,d,rfl,y6 _,by omega,rfl,S1,rfl⟩
   case round=>
    clear S1;obtain⟨k,dk,rfl,hak,hkx2,hds,S2,heq⟩:=hrel;have HE:=Lib.hid heq;clear heq;by_cases hlt2:k<i- 1
    ·have hltz2:(k:Int)<((i- 1:Nat):Int):=by omega
     go_wp2_with fail
     obtain⟨jN1,hjN1⟩:∃q,q=k+1:=⟨_,rfl⟩;have ea1:((k:Int)).toNat=k:=by omega
     have pa1:(0:Int)≤(k:Int):=by omega
     have ba1:(k:Int)<(d.size:Int):=by omega
     have ec1:((k:Int)+1).toNat=jN1:=by omega
     have pc1:(0:Int)≤(k:Int)+1:=by omega
     have bc1:(k:Int)+1<(d.size:Int):=by omega
     have rc1:IntKind.i64.wrap ((k:Int)+1)=(k:Int)+1:=by rw[IntKind.wrap_i64];omega
     obtain⟨x1,hx1⟩:∃x,x=dk[k]!:=⟨_,rfl⟩;obtain⟨y1,hy1⟩:∃x,x=dk[k+1]!:=⟨_,rfl⟩;have S3:Aside (SX enc w0 blk off (swp dk k (k+1)) ((wr.setCell ⟨blk,off+k,none⟩ (enc y1)).setCell ⟨blk,off+jN1,none⟩ (enc x1)).drew):=by rw[hjN1,hx1,hy1];exact S2.out.swapped R k (k+1) (by omega) (by omega)
     have c1a:=S2.out.c1 R (by omega) k (by omega);have c1b:=S2.out.c1 R (by omega) (k+1) (by omega);have f1a:=S2.out.f1 R (by omega) k (by omega);have f1b:=S2.out.f1 R (by omega) (k+1) (by omega);obtain⟨u1,c1c⟩:=S2.out.c2 R (by omega) k (k+1) (by omega) (by omega) (enc y1);rw[←hjN1]at c1c;rw[←hx1]at c1a;rw[←hy1,←hjN1]at c1b;rw[←hjN1]at f1b;clear S2 hx1 hy1 hjN1
     go_wp2_with fail
     go_big_region_o
     clear c1a c1b c1c f1a f1b;generalize((wr.setCell ⟨blk,off+k,none⟩ (enc y1)).setCell ⟨blk,off+jN1,none⟩ (enc x1)).drew=w2 at S3 ⊢;clear ea1 ec1
     go_wp2
     go_roundg (i- 1- (k+1))
     case measure=>omega
     case rel=>
      refine⟨k+1,swp dk k (k+1),by go_num,by omega,y6 _,by rw[size_swp];exact hds,S3,?_⟩;rw[←HE.out];conv=>rhs;rw[upL,if_pos hlt2]
    ·have hltz2:¬(k:Int)<((i- 1:Nat):Int):=by omega
     go_wp2_with fail
     (try simp only[Exit.inBlock,Exit.then]);refine bodyPost_ret (results_none rfl _ _ _) rfl ?_
     refine⟨rfl,?_⟩;rw[←HE.out,upL,if_neg hlt2];exact S2.out
set_option maxHeartbeats 8000000 in
theorem z2oz(enc:α→Value)(cf:α→α→Int)(g:Nat)(cb:Array Value)(blk off cap a m b:Nat)(d0 d:Array α)(w0 w:World)
  (eg:∀args w,(callFunc g args).run Tryz.prog w=.ok (.enter g args) w)(hcmp:CmpX Tryz.prog g cb enc cf blk off d0.size w0)
  (R:Row1 enc w0 blk off d0)(hs:d0.size=d.size)(S:SX enc w0 blk off d w)(ham:a<m)(hm1:m- a≠1)(hmb:b=m+1)(hb:b≤d.size)(hsz:d.size<4611686018427387904):
  Calls Tryz.prog 227 #[.slice (some ⟨blk,off,none⟩) d.size cap,.int .i64 a,.int .i64 m,.int .i64 b,.func (.func g) #[] cb] w fun e w'=>e=.returned (.tuple #[])∧SX enc w0 blk off (dnL d m (bsL (fun h=>!ltOf cf d[m]! d[h]!) a m)) w':=by
 have mixed:Tryz.prog.follows .mixedOrders=true:=by kernel_rfl
 have hcl0:=R.hO.cells;simp only[Value.cells]at hcl0;have hst:=R.hO.store Tryz.prog;have S0:Aside (SX enc w0 blk off d w):=S;have HC:Aside _:=hcmp;clear S hcmp;obtain⟨r,hr⟩:∃r,r=bsL (fun h=>!ltOf cf d[m]! d[h]!) a m:=⟨_,rfl⟩;have hrb:=z12p (fun h=>!ltOf cf d[m]! d[h]!) a m (by omega);rw[←hr]at hrb ⊢;have HR:=Lib.hid hr;clear hr;have h1:((m:Int)- (a:Int)==1)=false:=by simp;omega
 have h2:((b:Int)- (m:Int)==1)=true:=by simp;omega
 have hmb1:m<b:=by omega
 have HAM:=Lib.hid hmb;clear hmb
 go_enter Tryz.func227,Tryz.ntmps227
 go_wp2
 go_loopg [14,15] (m- a) (fun kx s10 s11 wr=>∃(i j:Nat),s10=.int .i64 i∧s11=.int .i64 j∧a≤i∧i≤j∧j≤m∧j- i≤kx∧Aside (SX enc w0 blk off d wr)∧bsL (fun h=>!ltOf cf d[m]! d[h]!) i j=r)
 case atStart=>exact⟨a,m,rfl,rfl,y6 _,by omega,y6 _,by omega,S0,HR.out.symm⟩
 case round=>
  clear S0;obtain⟨i,j,rfl,rfl,hmi,hij,hjb,hkx,S1,heq⟩:=hrel;rw[bsL]at heq;have HQ:=Lib.hid heq;clear heq;by_cases hlt:i<j
  ·have hltz:(i:Int)<(j:Int):=by omega
   go_wp2_with fail
   obtain⟨k,hk⟩:∃q,q=(i+j)/2:=⟨_,rfl⟩;have ek:((i:Int)+(j:Int))/2=(k:Int):=by omega
   simp only[ek];clear ek;obtain⟨x1,hx1⟩:∃x,x=d[m]!:=⟨_,rfl⟩;obtain⟨y1,hy1⟩:∃x,x=d[k]!:=⟨_,rfl⟩;have ea1:((k:Int)).toNat=k:=by omega
   have pa1:(0:Int)≤(k:Int):=by omega
   have ba1:(k:Int)<(d.size:Int):=by omega
   have ec1:((m:Int)).toNat=m:=by omega
   have pc1:(0:Int)≤(m:Int):=by omega
   have bc1:(m:Int)<(d.size:Int):=by omega
   have l1a:=S1.out.cl R (by omega) m (by omega);have l1b:=S1.out.cl R (by omega) k (by omega);rw[←hx1]at l1a;rw[←hy1]at l1b;have hc1:=S1.out.cmp HC.out (by omega) x1 y1;have hlt1:ltOf cf d[m]! d[k]! =decide (cf x1 y1<0):=by rw[hx1,hy1];rfl
   have HL:=Lib.hid hlt1;have HK:=Lib.hid hk;clear hx1 hy1 hlt1 hk;by_cases hv:cf x1 y1<0
   ·have hd1:decide (cf x1 y1<0)=true:=decide_eq_true hv;refine wp_region_quiet_below (by assumption) (by kernel_rfl) ?_
    repeat(quiet_step (first|(go_at_fn g;refine Calls.regrown_of (hc1 _ _))))
    refine wpQuiet_nil ?_;intro _ hw';obtain⟨⟨nq,osq⟩,hw''⟩:=hw';subst hw'';have S2:Aside (SX enc w0 blk off d (grow (redrawn wr nq) osq)):=S1.out.regrown nq osq;clear l1a l1b hc1 S1;generalize grow (redrawn wr nq) osq=w2 at S2 ⊢;clear nq osq
    go_wp2_with fail
    have e1:=HK.out
    go_roundg (k- i)
    case measure=>omega
    case rel=>exact⟨i,k,rfl,rfl,by omega,by omega,by omega,y6 _,S2,by rw[←HQ.out,if_pos hlt,←e1,if_neg (by rw[HL.out,hd1];simp)]⟩
   ·have hd1:decide (cf x1 y1<0)=false:=decide_eq_false hv;refine wp_region_quiet_below (by assumption) (by kernel_rfl) ?_
    repeat(quiet_step (first|(go_at_fn g;refine Calls.regrown_of (hc1 _ _))))
    refine wpQuiet_nil ?_;intro _ hw';obtain⟨⟨nq,osq⟩,hw''⟩:=hw';subst hw'';have S2:Aside (SX enc w0 blk off d (grow (redrawn wr nq) osq)):=S1.out.regrown nq osq;clear l1a l1b hc1 S1;generalize grow (redrawn wr nq) osq=w2 at S2 ⊢;clear nq osq
    go_wp2_with fail
    have e1:=HK.out
    go_roundg (j- (k+1))
    case measure=>omega
    case rel=>exact⟨k+1,j,by go_num,rfl,by omega,by omega,by omega,y6 _,S2,by rw[←HQ.out,if_pos hlt,←e1,if_pos (by rw[HL.out,hd1];rfl)]⟩
  ·have hltz:¬(i:Int)<(j:Int):=by omega
   have er:i=r:=by rw[←HQ.out,if_neg hlt]
   clear HQ;subst er
   go_wp2_with fail
   go_loopg [17] (m- i) (fun kx s13 wr2=>∃(k:Nat)(dk:Array α),s13=.int .i64 k∧i≤k∧k≤m∧k- i≤kx∧dk.size=d.size∧Aside (SX enc w0 blk off dk wr2)∧dnL dk k i=dnL d m i)
   case atStart=>exact⟨m,d,rfl,by omega,y6 _,y6 _,rfl,S1,rfl⟩
   case round=>
    clear S1;obtain⟨k,dk,rfl,hak,hkm,hkx2,hds,S2,heq⟩:=hrel;have HE:=Lib.hid heq;clear heq;by_cases hlt2:i<k
    ·have hltz2:(i:Int)<(k:Int):=by omega
     go_wp2_with fail
     obtain⟨jN1,hjN1⟩:∃q,q=k- 1:=⟨_,rfl⟩;have ea1:((k:Int)).toNat=k:=by omega
     have pa1:(0:Int)≤(k:Int):=by omega
     have ba1:(k:Int)<(d.size:Int):=by omega
     have ec1:((k:Int)- 1).toNat=jN1:=by omega
     have pc1:(0:Int)≤(k:Int)- 1:=by omega
     have bc1:(k:Int)- 1<(d.size:Int):=by omega
     have rc1:IntKind.i64.wrap ((k:Int)- 1)=(k:Int)- 1:=by rw[IntKind.wrap_i64];omega
     obtain⟨x1,hx1⟩:∃x,x=dk[k]!:=⟨_,rfl⟩;obtain⟨y1,hy1⟩:∃x,x=dk[k- 1]!:=⟨_,rfl⟩;have S3:Aside (SX enc w0 blk off (swp dk k (k- 1)) ((wr.setCell ⟨blk,off+k,none⟩ (enc y1)).setCell ⟨blk,off+jN1,none⟩ (enc x1)).drew):=by rw[hjN1,hx1,hy1];exact S2.out.swapped R k (k- 1) (by omega) (by omega)
     have c1a:=S2.out.c1 R (by omega) k (by omega);have c1b:=S2.out.c1 R (by omega) (k- 1) (by omega);have f1a:=S2.out.f1 R (by omega) k (by omega);have f1b:=S2.out.f1 R (by omega) (k- 1) (by omega);obtain⟨u1,c1c⟩:=S2.out.c2 R (by omega) k (k- 1) (by omega) (by omega) (enc y1);rw[←hjN1]at c1c;rw[←hx1]at c1a;rw[←hy1,←hjN1]at c1b;rw[←hjN1]at f1b;clear S2 hx1 hy1 hjN1
     go_wp2_with fail
     go_big_region_o
     clear c1a c1b c1c f1a f1b;generalize((wr.setCell ⟨blk,off+k,none⟩ (enc y1)).setCell ⟨blk,off+jN1,none⟩ (enc x1)).drew=w2 at S3 ⊢;clear ea1 ec1
     go_wp2
     go_roundg (k- 1- i)
     case measure=>omega
     case rel=>
      refine⟨k- 1,swp dk k (k- 1),by go_num,by omega,by omega,y6 _,by rw[size_swp];exact hds,S3,?_⟩;rw[←HE.out];conv=>rhs;rw[dnL,if_pos hlt2]
    ·have hltz2:¬(i:Int)<(k:Int):=by omega
     go_wp2_with fail
     (try simp only[Exit.inBlock,Exit.then]);refine bodyPost_ret (results_none rfl _ _ _) rfl ?_
     refine⟨rfl,?_⟩;rw[←HE.out,dnL,if_neg hlt2];exact S2.out
end
end B
namespace B
open Go Go.RowKit Go.Shelf Go.Lib Go.Sort
set_option maxRecDepth 1000000
set_option linter.unusedVariables false
noncomputable section
variable {α:Type} [Inhabited α]
theorem z2es(lt:α→α→Bool)(f:Nat)(d:Array α)(a m b mid s e:Nat)(h1:m- a≠1)(h2:b- m≠1)(hmid:mid=(a+b)/2)(hs:s=symS lt d a m b)(he:e=mid+m- s):
  symF lt (f+1) d a m b=if mid<e∧e<b then symF lt f (if a<s∧s<mid then symF lt f (if s<m∧m<e then rotF d s m e else d) a s mid else(if s<m∧m<e then rotF d s m e else d)) mid e b
   else(if a<s∧s<mid then symF lt f (if s<m∧m<e then rotF d s m e else d) a s mid else(if s<m∧m<e then rotF d s m e else d)):=by
 subst hs;subst hmid;subst he;rw[symF,if_neg h1,if_neg h2]
attribute [local irreducible] rotF symF in
set_option maxHeartbeats 4000000 in
theorem z2pw (enc:α→Value) (cf:α→α→Int) (g:Nat) (cb:Array Value) (blk off cap:Nat) (d0:Array α) (w0:World)
    (eg:∀ args w,(callFunc g args).run Tryz.prog w=.ok (.enter g args) w) (hcmp:CmpX Tryz.prog g cb enc cf blk off d0.size w0)
    (R:Row1 enc w0 blk off d0) (hsz:d0.size<4611686018427387904) : ∀ (f:Nat) (d:Array α) (w:World) (a m b:Nat),d0.size=d.size→SX enc w0 blk off d w→a<m→m<b→b≤d.size→b - a≤f →
    Calls Tryz.prog 227 #[.slice (some ⟨blk,off,none⟩) d.size cap,.int .i64 a,.int .i64 m,.int .i64 b,.func (.func g) #[] cb] w fun e w'=>e=.returned (.tuple #[])∧SX enc w0 blk off (symF (ltOf cf) f d a m b) w':=by
  intro f
  induction f with
  | zero=>intro d w a m b _ _ h1 h2 _ h3;omega
  | succ f ih =>
    intro d w a m b hs S ham hmb hb hf;by_cases hm1 : m - a=1
    · rw[symF,if_pos hm1];exact z2oy enc cf g cb blk off cap a m b d0 d w0 w eg hcmp R hs S (by omega) hmb hb (by omega)
    by_cases hb1 : b - m=1
    · rw[symF,if_neg hm1,if_pos hb1];exact z2oz enc cf g cb blk off cap a m b d0 d w0 w eg hcmp R hs S ham hm1 (by omega) hb (by omega)
    have mixed:Tryz.prog.follows .mixedOrders=true:=by kernel_rfl
    have hcl0:=R.hO.cells;simp only[Value.cells] at hcl0;have hst:=R.hO.store Tryz.prog;have S0:Aside (SX enc w0 blk off d w):=S;have HC:Aside _:=hcmp
    have hrec:∀ (dk:Array α) (W:World) (x y z:Nat),dk.size=d.size→SX enc w0 blk off dk W→x<y→y<z→z≤d.size→z - x≤f →
        Calls Tryz.prog 227 #[.slice (some ⟨blk,off,none⟩) d.size cap,.int .i64 x,.int .i64 y,.int .i64 z,.func (.func g) #[] cb] W fun e w'=>e=.returned (.tuple #[])∧SX enc w0 blk off (symF (ltOf cf) f dk x y z) w':=fun dk W x y z h1 h2 h3 h4 h5 h6=>by
      have:=ih dk W x y z (by omega) h2 h3 h4 (by omega) h6;rwa [h1] at this
    have HREC:=Lib.hid hrec;clear S ih hrec;obtain⟨mid,hmid⟩ : ∃ q,q=(a+b) / 2:=⟨_,rfl⟩;obtain⟨s,hsd⟩ : ∃ q,q=symS (ltOf cf) d a m b:=⟨_,rfl⟩;obtain⟨e,hed⟩ : ∃ q,q=mid+m - s:=⟨_,rfl⟩;have HF:=Lib.hid (z2es (ltOf cf) f d a m b mid s e hm1 hb1 hmid hsd hed);obtain⟨lo,hi,hlo⟩ : ∃ lo hi,(mid<m∧lo=mid+m - b∧hi=mid)∨(m≤mid∧lo=a∧hi=m):=by
      by_cases h : mid<m
      · exact⟨_,_,.inl ⟨h,rfl,rfl⟩⟩
      · exact⟨_,_,.inr ⟨by omega,rfl,rfl⟩⟩
    have hss:s=bsL (fun c=>!ltOf cf d[mid+m - 1 - c]! d[c]!) lo hi:=by
      rw[hsd];unfold symS;rw[← hmid];rcases hlo with ⟨h,rfl,rfl⟩ | ⟨h,rfl,rfl⟩
      · rw[if_pos h,if_pos h]
      · rw[if_neg (by omega),if_neg (by omega)]
    have hsb:=z12p (fun c=>!ltOf cf d[mid+m - 1 - c]! d[c]!) lo hi (by omega);rw[← hss] at hsb;have g1:((m:Int) - (a:Int) == 1)=false:=by simp;omega
    have g2:((b:Int) - (m:Int) == 1)=false:=by simp;omega
    have HSS:=Lib.hid hss;have HMID:=Lib.hid hmid;have HED:=Lib.hid hed;have hle:lo≤hi:=by omega
    have hlb:∀ c,lo≤c→c<hi→c<d.size∧c+1≤mid+m∧mid+m - 1 - c<d.size:=fun c h1 h2=>by omega
    have LB:=Lib.hid hlb;have he1:mid+m=e+s:=by omega
    have HE1:=Lib.hid he1;clear he1;have eb:((a:Int)+(b:Int)) / 2=(mid:Int):=by omega
    have mb:mid+m<9223372036854775807:=by omega
    have md:mid<d.size:=by omega
    have hib:hi<d.size:=by omega
    have hsz2:d.size<4611686018427387904:=by omega
    clear hss hed hmid hlb hsd;rcases hlo with ⟨hA,hlo,hhi⟩ | ⟨hA,hlo,hhi⟩
    all_goals
      have HLO:=Lib.hid hlo;have HHI:=Lib.hid hhi;clear hlo hhi;have k1:mid<m→((mid:Int)+(m:Int) - (b:Int))=((mid+m - b:Nat):Int):=fun _=>by omega
      first
        | have hAz:(mid:Int)<(m:Int):=by omega
        | have hAz:¬ (mid:Int)<(m:Int):=by omega
      first
        | have hAy:¬ mid<m:=by omega
        | skip
      go_enter Tryz.func227,Tryz.ntmps227
      go_wp2_with fail
      go_loopg [20,21] (hi - lo) (fun kx s20 s21 wr=>∃ (i j:Nat),s20=.int .i64 i∧s21=.int .i64 j∧lo≤i∧i≤j∧j≤hi∧j - i≤kx∧Aside (SX enc w0 blk off d wr)∧bsL (fun c=>!ltOf cf d[mid+m - 1 - c]! d[c]!) i j=s)
      case atStart=>exact⟨lo,hi,by rw[HLO.out],by rw[HHI.out],y6 _,hle,y6 _,y6 _,S0,HSS.out.symm⟩
      case round =>
        clear S0;obtain⟨i,j,rfl,rfl,hmi,hij,hjb,hkx,S1,heq⟩:=hrel;rw[bsL] at heq;have HQ:=Lib.hid heq;clear heq;by_cases hlt : i<j
        · have hltz:(i:Int)<(j:Int):=by omega
          go_wp2_with fail
          obtain⟨k,hk⟩ : ∃ q,q=(i+j) / 2:=⟨_,rfl⟩;have ek:((i:Int)+(j:Int)) / 2=(k:Int):=by omega
          simp only[ek];clear ek;obtain⟨q1,q2,q3⟩:=LB.out k (by omega) (by omega);obtain⟨iN1,hiN1⟩ : ∃ q,q=mid+m - 1 - k:=⟨_,rfl⟩;obtain⟨x1,hx1⟩ : ∃ x,x=d[iN1]!:=⟨_,rfl⟩;obtain⟨y1,hy1⟩ : ∃ x,x=d[k]!:=⟨_,rfl⟩;have ez1:((mid:Int)+(m:Int) - 1 - (k:Int))=(iN1:Int):=by omega
          have ra1:IntKind.i64.wrap ((mid:Int)+(m:Int) - 1 - (k:Int))=(iN1:Int):=by rw[IntKind.wrap_i64];omega
          have rb1:IntKind.i64.wrap (iN1:Int)=(iN1:Int):=by rw[IntKind.wrap_i64];omega
          have ea1:((iN1:Int)).toNat=iN1:=by omega
          have pa1:(0:Int)≤(iN1:Int):=by omega
          have ba1:(iN1:Int)<(d.size:Int):=by omega
          have ec1:((k:Int)).toNat=k:=by omega
          have pc1:(0:Int)≤(k:Int):=by omega
          have bc1:(k:Int)<(d.size:Int):=by omega
          have l1a:=S1.out.cl R (by omega) iN1 (by omega);have l1b:=S1.out.cl R (by omega) k (by omega);rw[← hx1] at l1a;rw[← hy1] at l1b;have hc1:=S1.out.cmp HC.out (by omega) x1 y1;have hlt1:ltOf cf d[mid+m - 1 - k]! d[k]! = decide (cf x1 y1<0):=by rw[← hiN1,hx1,hy1];rfl
          have HL:=Lib.hid hlt1;have HK:=Lib.hid hk;clear hx1 hy1 hlt1 hk hiN1;by_cases hv : cf x1 y1<0
          · have hd1:decide (cf x1 y1<0)=true:=decide_eq_true hv;refine wp_region_quiet_below (by assumption) (by kernel_rfl) ?_
            repeat (quiet_step (first | (go_at_fn g;refine Calls.regrown_of (hc1 _ _))))
            refine wpQuiet_nil ?_;intro _ hw';obtain⟨⟨nq,osq⟩,hw''⟩:=hw';subst hw'';have S2:Aside (SX enc w0 blk off d (grow (redrawn wr nq) osq)):=S1.out.regrown nq osq;clear l1a l1b hc1 S1;generalize grow (redrawn wr nq) osq=w2 at S2 ⊢;clear nq osq
            go_wp2_with fail
            have e1:=HK.out
            go_roundg (k - i)
            case measure=>omega
            case rel=>exact⟨i,k,rfl,rfl,by omega,by omega,by omega,y6 _,S2,by rw[← HQ.out,if_pos hlt,← e1,if_neg (by rw[HL.out,hd1];simp)]⟩
          · have hd1:decide (cf x1 y1<0)=false:=decide_eq_false hv;refine wp_region_quiet_below (by assumption) (by kernel_rfl) ?_
            repeat (quiet_step (first | (go_at_fn g;refine Calls.regrown_of (hc1 _ _))))
            refine wpQuiet_nil ?_;intro _ hw';obtain⟨⟨nq,osq⟩,hw''⟩:=hw';subst hw'';have S2:Aside (SX enc w0 blk off d (grow (redrawn wr nq) osq)):=S1.out.regrown nq osq;clear l1a l1b hc1 S1;generalize grow (redrawn wr nq) osq=w2 at S2 ⊢;clear nq osq
            go_wp2_with fail
            have e1:=HK.out
            go_roundg (j - (k+1))
            case measure=>omega
            case rel=>exact⟨k+1,j,by go_num,rfl,by omega,by omega,by omega,y6 _,S2,by rw[← HQ.out,if_pos hlt,← e1,if_pos (by rw[HL.out,hd1];rfl)]⟩
        · have hltz:¬ (i:Int)<(j:Int):=by omega
          have er:i=s:=by rw[← HQ.out,if_neg hlt]
          clear HQ;subst er;have he1:=HE1.out;have ee:((mid:Int)+(m:Int) - (i:Int))=(e:Int):=by omega
          have heb:e≤b:=by have:=HLO.out;have:=HHI.out;omega
          have hai:a≤i:=by have:=HLO.out;omega
          have him:i≤m:=by have:=HHI.out;omega
          clear he1;rcases yj i m with c1 | c1<;>rcases yj m e with c2 | c2<;>rcases yj a i with c3 | c3<;>rcases yj i mid with c4 | c4<;>rcases yj mid e with c5 | c5<;>rcases yj e b with c6 | c6
          all_goals first
            | (exfalso;have:=HE1.out;have:=HLO.out;have:=HHI.out;omega)
            | skip
          all_goals
            have hff:=HF.out
            first | rw[if_pos (show i<m∧m<e from ⟨by omega,by omega⟩)] at hff | rw[if_neg (show ¬ (i<m∧m<e) by omega)] at hff
            first | rw[if_pos (show a<i∧i<mid from ⟨by omega,by omega⟩)] at hff | rw[if_neg (show ¬ (a<i∧i<mid) by omega)] at hff
            first | rw[if_pos (show mid<e∧e<b from ⟨by omega,by omega⟩)] at hff | rw[if_neg (show ¬ (mid<e∧e<b) by omega)] at hff
            have HFF:=Lib.hid hff;clear hff
            first | have x1:(i:Int)<(m:Int):=by omega | have x1:¬ (i:Int)<(m:Int):=by omega
            first | have x2:(m:Int)<(e:Int):=by omega | have x2:¬ (m:Int)<(e:Int):=by omega
            first | have x3:(a:Int)<(i:Int):=by omega | have x3:¬ (a:Int)<(i:Int):=by omega
            first | have x4:(i:Int)<(mid:Int):=by omega | have x4:¬ (i:Int)<(mid:Int):=by omega
            first | have x5:(mid:Int)<(e:Int):=by omega | have x5:¬ (mid:Int)<(e:Int):=by omega
            first | have x6:(e:Int)<(b:Int):=by omega | have x6:¬ (e:Int)<(b:Int):=by omega
            go_wp2_with (first
              | (go_at_call 244;refine (z2l7 enc g cb blk off cap i m e d0 d w0 _ R hs S1.out (by omega) (by omega) (by omega) (by omega)).mono ?_;rintro e1 w1 ⟨rfl,T⟩;have S1:=Lib.hid T;clear T)
              | (go_at_call 227
                 refine (HREC.out _ _ _ _ _ ?_ S1.out ?_ ?_ ?_ ?_).mono ?_
                 · first | exact hs.symm | (simp only[z1yn,zlc])
                 · omega
                 · omega
                 · omega
                 · omega
                 rintro e1 w1 ⟨rfl,T⟩;have S1:=Lib.hid T;clear T)
              | fail)
            go_end0
            exact⟨rfl,by rw[HFF.out];exact S1.out⟩
end
end B
namespace B
open Go Go.Sort
set_option linter.unusedVariables false
section
variable {α:Type}
structure Pre(le:α→α→Bool):Prop where
 trans:∀a b c,le a b=true→le b c=true→le a c=true
 total:∀a b,le a b=true∨le b a=true
theorem Pre.refl{le:α→α→Bool}(h:Pre le)(a:α):le a a=true:=(h.total a a).elim id id
def insS(le:α→α→Bool)(l:List α)(x:α):List α:=(l.takeWhile fun y=>le y x)++x::l.dropWhile fun y=>le y x
def z27(le:α→α→Bool)(l:List α):List α:=l.foldl (insS le) []
def SrtS(le:α→α→Bool)(l:List α):Prop:=l.Pairwise fun a b=>le a b=true
variable {le:α→α→Bool}
theorem z1yo(l:List α)(x:α):(insS le l x).Perm (x::l):=by
 have e:(l.takeWhile fun y=>le y x)++(l.dropWhile fun y=>le y x)=l:=y35;unfold insS;refine y3y.trans ?_;rw[e]
theorem z1ve(h:Pre le){l:List α}(hs:SrtS le l)(x:α):∀y∈l.dropWhile (fun y=>le y x),le y x=false:=by
 induction l with
 |nil=>simp
 |cons z r ih=>
  obtain⟨h1,h2⟩:=y2j.1 hs;intro y hy;by_cases hz:le z x=true
  ·rw[y3f,if_pos hz]at hy;exact ih h2 y hy
  ·rw[y3f,if_neg hz]at hy;rcases yg.1 hy with rfl|hy
   ·simpa using hz
   ·cases hyx:le y x with
    |false=>rfl
    |true=>exact(hz (h.trans z y x (h1 y hy) hyx)).elim
theorem z1vf(l:List α)(x:α):∀y∈l.takeWhile (fun y=>le y x),le y x=true:=by
 intro y hy;have:=List.all_takeWhile (p:=fun y=>le y x) (l:=l);exact y1f.1 this y hy
theorem Pre.lt(h:Pre le){a b:α}(hn:le a b=false):le b a=true:=by
 rcases h.total a b with e|e
 ·rw[hn]at e;simp at e
 ·exact e
theorem z26e(h:Pre le){l:List α}(hs:SrtS le l)(x:α):SrtS le (insS le l x):=by
 have e:(l.takeWhile fun y=>le y x)++(l.dropWhile fun y=>le y x)=l:=y35;have hs':=hs;unfold SrtS at hs';rw[←e]at hs';obtain⟨t1,t2,t3⟩:=y26.1 hs';have hd:=z1ve h hs x;have ht:=z1vf (le:=le) l x;unfold insS SrtS;refine y26.2 ⟨t1,y2j.2 ⟨fun y hy=>h.lt (hd y hy),t2⟩,fun a ha b hb=>?_⟩;rcases yg.1 hb with rfl|hb
 ·exact ht a ha
 ·exact t3 a ha b hb
theorem z1ku(h:Pre le):∀(l s:List α),SrtS le s→SrtS le (l.foldl (insS le) s)∧(l.foldl (insS le) s).Perm (l++s)
 |[],s,hs=>⟨hs,List.Perm.refl _⟩
 |x::l,s,hs=>by
  obtain⟨h1,h2⟩:=z1ku h l (insS le s x) (z26e h hs x);exact⟨h1,h2.trans (((z1yo s x).append_left l).trans y3y)⟩
theorem zld(h:Pre le)(l:List α):SrtS le (z27 le l):=(z1ku h l [] List.Pairwise.nil).1
theorem z1r6(h:Pre le)(l:List α):(z27 le l).Perm l:=by
 have:=(z1ku h l [] List.Pairwise.nil).2;rw[y13]at this;exact this
theorem z78(h:Pre le)(l:List α):(z27 le l).length=l.length:=(z1r6 h l).length_eq
theorem z1r7(l:List α)(x:α):z27 le (l++[x])=insS le (z27 le l) x:=by unfold z27;rw[y2e];rfl
theorem z2ie:∀(n:Nat)(A1 A2 B1 B2:List α),A1.length+B1.length=n→(∀x∈A1,∀y∈B2,le x y=true)→(∀y∈B1,∀x∈A2,le x y=false)→(A1++A2).merge (B1++B2) le=A1.merge B1 le++A2.merge B2 le:=by
 intro n
 induction n with
 |zero=>
  intro A1 A2 B1 B2 hn _ _;obtain rfl:A1=[]:=yz (by omega);obtain rfl:B1=[]:=yz (by omega);simp
 |succ n ih=>
  intro A1 A2 B1 B2 hn h1 h2;cases A1 with
  |nil=>
   cases B1 with
   |nil=>simp at hn
   |cons b B1=>
    have e:=ih [] A2 B1 B2 (by simp at hn ⊢;omega) (by simp) (fun y hy x hx=>h2 y (y12 _ hy) x hx);cases A2 with
    |nil=>simp
    |cons x A2=>
     have hb:=h2 b y10 x y10;simp only[yw,y15,y3h]at e ⊢;rw[y3z,if_neg (by rw[hb];simp),e]
  |cons a A1=>
   cases B1 with
   |nil=>
    have e:=ih A1 A2 [] B2 (by simp at hn ⊢;omega) (fun x hx y hy=>h1 x (y12 _ hx) y hy) (by simp);cases B2 with
    |nil=>simp
    |cons y B2=>
     have hb:=h1 a y10 y y10;simp only[yw,y15,y3i]at e ⊢;rw[y3z,if_pos hb,e]
   |cons b B1=>
    simp only[y15];rw[y3z,y3z];by_cases hab:le a b=true
    ·rw[if_pos hab,if_pos hab];have e:=ih A1 A2 (b::B1) B2 (by simp at hn ⊢;omega) (fun x hx y hy=>h1 x (y12 _ hx) y hy) h2;rw[←y15 (a:=b),e];rfl
    ·rw[if_neg hab,if_neg hab];have e:=ih (a::A1) A2 B1 B2 (by simp at hn ⊢;omega) h1 (fun y hy x hx=>h2 y (y12 _ hy) x hx);rw[←y15 (a:=a),e];rfl
theorem z9n{A1 A2 B1 B2:List α}(h1:∀x∈A1,∀y∈B2,le x y=true)(h2:∀y∈B1,∀x∈A2,le x y=false):(A1++A2).merge (B1++B2) le=A1.merge B1 le++A2.merge B2 le:=z2ie _ _ _ _ _ rfl h1 h2
theorem z2if(h:Pre le){A B:List α}(hA:SrtS le A)(hB:SrtS le B)(y:α):A.merge (insS le B y) le=insS le (A.merge B le) y:=by
 have eA:(A.takeWhile fun z=>le z y)++(A.dropWhile fun z=>le z y)=A:=y35;have eB:(B.takeWhile fun z=>le z y)++(B.dropWhile fun z=>le z y)=B:=y35;have a1:=z1vf (le:=le) A y;have b1:=z1vf (le:=le) B y;have a2:=z1ve h hA y;have b2:=z1ve h hB y;generalize(A.takeWhile fun z=>le z y)=A1 at eA a1;generalize(A.dropWhile fun z=>le z y)=A2 at eA a2;unfold insS;generalize(B.takeWhile fun z=>le z y)=B1 at eB b1 ⊢;generalize(B.dropWhile fun z=>le z y)=B2 at eB b2 ⊢;have h12:∀x∈A1,∀z∈B2,le x z=true:=fun x hx z hz=>h.trans x y z (a1 x hx) (h.lt (b2 z hz));have h21:∀z∈B1,∀x∈A2,le x z=false:=fun z hz x hx=>by
  cases e:le x z with
  |false=>rfl
  |true=>have:=h.trans x z y e (b1 z hz);rw[a2 x hx]at this;simp at this
 have m1:A.merge B le=A1.merge B1 le++A2.merge B2 le:=by rw[←eA,←eB];exact z9n h12 h21
 have m2:A.merge (B1++y::B2) le=A1.merge B1 le++y::A2.merge B2 le:=by
  have e1:A.merge (B1++y::B2) le=A1.merge (B1++[y]) le++A2.merge B2 le:=by
   rw[←eA,show B1++y::B2=(B1++[y])++B2 by simp];refine z9n h12 fun z hz x hx=>?_;rcases yc.1 hz with hz|hz
   ·exact h21 z hz x hx
   ·rw[yi]at hz;subst hz;exact a2 x hx
  have e2:A1.merge (B1++[y]) le=A1.merge B1 le++[y]:=by
   have:=z9n (le:=le) (A1:=A1) (A2:=[]) (B1:=B1) (B2:=[y]) (fun x hx z hz=>by rw[yi]at hz;subst hz;exact a1 x hx) (by simp);rw[y13,y3h]at this;exact this
  rw[e1,e2];simp
 have hm1:∀z∈A1.merge B1 le,le z y=true:=fun z hz=>by
  rcases List.mem_merge.1 hz with hz|hz
  ·exact a1 z hz
  ·exact b1 z hz
 have hm2:∀z∈A2.merge B2 le,le z y=false:=fun z hz=>by
  rcases List.mem_merge.1 hz with hz|hz
  ·exact a2 z hz
  ·exact b2 z hz
 rw[m2,m1];generalize A1.merge B1 le=M1 at hm1;generalize A2.merge B2 le=M2 at hm2;have t1:(M1++M2).takeWhile (fun z=>le z y)=M1:=by
  rw[y50 hm1];cases M2 with
  |nil=>simp
  |cons z M2=>rw[y3u,if_neg (by rw[hm2 z y10];simp)];simp
 have t2:(M1++M2).dropWhile (fun z=>le z y)=M2:=by
  rw[y51 hm1];cases M2 with
  |nil=>simp
  |cons z M2=>rw[y3f,if_neg (by rw[hm2 z y10];simp)]
 rw[t1,t2]
theorem z26f{P:List α→Prop}(h0:P [])(h1:∀l x,P l→P (l++[x])):∀l,P l:=by
 intro l;have:∀n(l:List α),l.length=n→P l:=by
  intro n
  induction n with
  |zero=>intro l hl;rw[yz hl];exact h0
  |succ n ih=>
   intro l hl;rcases y4g l with rfl|⟨r,x,rfl⟩
   ·exact h0
   ·rw[y4h]at hl ⊢;exact h1 r x (ih r (by simpa using hl))
 exact this _ l rfl
theorem z1hq(h:Pre le)(X Y:List α):(z27 le X).merge (z27 le Y) le=z27 le (X++Y):=by
 refine z26f (P:=fun Y=>(z27 le X).merge (z27 le Y) le=z27 le (X++Y)) ?_ ?_ Y
 ·show(z27 le X).merge [] le=_;rw[y3i,y13]
 ·intro Y y ih;rw[z1r7,z2if h (zld h X) (zld h Y),ih,←y11,z1r7]
end
end B
namespace B
open Go Go.Sort
set_option linter.unusedVariables false
section
variable {α:Type} [Inhabited α]
theorem zf9{d:Array α}{P Q:List α}{x:α}(h:d.toList=P++x::Q){i:Nat}(hi:i=P.length):d[i]! =x:=by
 subst hi;have hl:P.length<d.size:=by rw[←y1n,h];simp
 rw[getElem!_pos d _ hl,←Array.getElem_toList hl,List.getElem_of_eq h];simp
omit [Inhabited α] in
theorem z1r8(x y:α):∀(P Q:List α),(P++x::Q).set P.length y=P++y::Q
 |[],Q=>rfl
 |a::P,Q=>by simp[z1r8 x y P Q]
omit [Inhabited α] in
theorem z2bm(x y:α)(P M Q:List α)(z:α):(P++z::(M++x::Q)).set (P.length+1+M.length) y=P++z::(M++y::Q):=by
 have:=z1r8 x y (P++z::M) Q;rw[y9,yt,y11,y15,y11,y15]at this;rw[show P.length+1+M.length=P.length+(M.length+1) by omega];exact this
theorem z26g{d:Array α}{P M Q:List α}{x y:α}(h:d.toList=P++x::(M++y::Q)){i j:Nat}(hi:i=P.length)(hj:j=P.length+1+M.length):(swp d i j).toList=P++y::(M++x::Q):=by
 have hx:d[i]! =x:=zf9 h hi;have hy:d[j]! =y:=zf9 (P:=P++x::M) (Q:=Q) (by rw[h];simp) (by simp[hj];omega);unfold swp;rw[hx,hy,y2x,y2x,h,hi,hj,z1r8,z2bm]
theorem z1yp{d:Array α}{P M Q:List α}{x y:α}(h:d.toList=P++x::(M++y::Q)){i j:Nat}(hi:i=P.length)(hj:j=P.length+1+M.length):(swp d j i).toList=P++y::(M++x::Q):=by
 have hx:d[i]! =x:=zf9 h hi;have hy:d[j]! =y:=zf9 (P:=P++x::M) (Q:=Q) (by rw[h];simp) (by simp[hj];omega);unfold swp;rw[hx,hy,y2x,y2x,h,hi,hj,z2bm,z1r8]
theorem z154:∀(n:Nat)(d:Array α)(P A M B Q:List α)(a b:Nat),A.length=n→B.length=n→a=P.length→b=P.length+n+M.length→d.toList=P++(A++(M++(B++Q)))→(swR d a b n).toList=P++(B++(M++(A++Q)))
 |0,d,P,A,M,B,Q,a,b,hA,hB,_,_,h=>by
  rw[yz hA,yz hB]at h ⊢;exact h
 |n+1,d,P,A,M,B,Q,a,b,hA,hB,ha,hb,h=>by
  cases A with
  |nil=>simp at hA
  |cons x A=>
   cases B with
   |nil=>simp at hB
   |cons y B=>
    have s:=z26g (d:=d) (P:=P) (M:=A++M) (Q:=B++Q) (x:=x) (y:=y) (by rw[h];simp) (i:=a) (j:=b) ha (by simp at hA ⊢;omega);have:=z154 n (swp d a b) (P++[y]) A (M++[x]) B Q (a+1) (b+1) (by simpa using hA) (by simpa using hB) (by simp[ha]) (by simp at hA ⊢;omega) (by rw[s];simp);rw[swR,this];simp
theorem z1bz:∀(f:Nat)(d:Array α)(P A B Q:List α)(m i j:Nat),A.length=i→B.length=j→0<i→0<j→i+j≤f→m=P.length+i→d.toList=P++(A++(B++Q))→(rotL f d m i j).toList=P++(B++(A++Q))
 |0,_,_,_,_,_,_,_,_,_,_,h1,_,h2,_,_=>by omega
 |f+1,d,P,A,B,Q,m,i,j,hA,hB,hi,hj,hf,hm,h=>by
  rw[rotL];by_cases e:i=j
  ·rw[if_pos e];exact z154 i d P A [] B Q _ _ hA (by omega) (by omega) (by simp;omega) h
  ·rw[if_neg e];by_cases l:j<i
   ·rw[if_pos l];have eA:=y1m j A;have s:=z154 j d P (A.take j) (A.drop j) B Q (m- i) m (by rw[yq];omega) hB (by omega) (by rw[yr];omega) (by rw[h,←y11 (A.take j),eA]);have:=z1bz f (swR d (m- i) m j) (P++B) (A.drop j) (A.take j) Q m (i- j) j (by rw[yr];omega) (by rw[yq];omega) (by omega) hj (by omega) (by rw[y9];omega) (by rw[s];simp);rw[this,y11,←y11 (A.take j),eA]
   ·rw[if_neg l];have eB:=y1m (j- i) B;have s:=z154 i d P A (B.take (j- i)) (B.drop (j- i)) Q (m- i) (m+j- i) hA (by rw[yr];omega) (by omega) (by rw[yq];omega) (by rw[h,←y11 (B.take (j- i)),eB]);have:=z1bz f (swR d (m- i) (m+j- i) i) P (B.drop (j- i)) (B.take (j- i)) (A++Q) m i (j- i) (by rw[yr];omega) (by rw[yq];omega) hi (by omega) (by omega) hm (by rw[s]);rw[this,←y11 (B.take (j- i)),eB]
theorem z2ig{d:Array α}{P A B Q:List α}{a m b:Nat}(ha:a=P.length)(hm:m=P.length+A.length)(hb:b=P.length+A.length+B.length)(hA:0<A.length)(hB:0<B.length)(h:d.toList=P++(A++(B++Q))):(rotF d a m b).toList=P++(B++(A++Q)):=by
 unfold rotF;exact z1bz _ d P A B Q m _ _ (by omega) (by omega) (by omega) (by omega) (by omega) (by omega) h
theorem z26h:∀(L:List α)(d:Array α)(P Q:List α)(x:α)(k e:Nat),k=P.length→e=P.length+L.length→d.toList=P++x::(L++Q)→(upL d k e).toList=P++(L++x::Q)
 |[],d,P,Q,x,k,e,hk,he,h=>by
  rw[upL,if_neg (by simp at he;omega)];exact h
 |y::L,d,P,Q,x,k,e,hk,he,h=>by
  have s:=z26g (d:=d) (P:=P) (M:=[]) (Q:=L++Q) (x:=x) (y:=y) (by rw[h];simp) (i:=k) (j:=k+1) hk (by simp[hk]);have:=z26h L (swp d k (k+1)) (P++[y]) Q x (k+1) e (by simp[hk]) (by simp at he ⊢;omega) (by rw[s];simp);rw[upL,if_pos (by simp at he;omega),this];simp
theorem z26i:∀(n:Nat)(L:List α)(d:Array α)(P Q:List α)(x:α)(k i:Nat),L.length=n→i=P.length→k=P.length+L.length→d.toList=P++(L++x::Q)→(dnL d k i).toList=P++x::(L++Q)
 |0,L,d,P,Q,x,k,i,hn,hi,hk,h=>by
  rw[yz hn]at h ⊢;rw[dnL,if_neg (by omega)];exact h
 |n+1,L,d,P,Q,x,k,i,hn,hi,hk,h=>by
  rcases y4g L with rfl|⟨L',y,rfl⟩
  ·simp at hn
  rw[y4h]at*;simp at hn hk;have s:=z1yp (d:=d) (P:=P++L') (M:=[]) (Q:=Q) (x:=y) (y:=x) (by rw[h];simp) (i:=k- 1) (j:=k) (by simp;omega) (by simp;omega);have:=z26i n L' (swp d k (k- 1)) P (y::Q) x (k- 1) i hn hi (by omega) (by rw[s];simp);rw[dnL,if_pos (by omega),this];simp
theorem z1vg(p:Nat→Bool)(i j:Nat)(h:i≤j)(hm:∀k k',i≤k→k≤k'→k'<j→p k'=true→p k=true):(∀k,i≤k→k<bsL p i j→p k=true)∧∀k,bsL p i j≤k→k<j→p k=false:=by
 fun_induction bsL p i j with
 |case1 i j hlt hp ih=>
  obtain⟨h1,h2⟩:=ih (by omega) fun k k' a b c d=>hm k k' (by omega) b c d;refine⟨fun k a b=>?_,h2⟩;by_cases e:k≤(i+j)/2
  ·exact hm k _ a e (by omega) hp
  ·exact h1 k (by omega) b
 |case2 i j hlt hp ih=>
  obtain⟨h1,h2⟩:=ih (by omega) fun k k' a b c d=>hm k k' a b (by omega) d;refine⟨h1,fun k a b=>?_⟩;by_cases e:k<(i+j)/2
  ·exact h2 k a e
  ·cases hk:p k with
   |false=>rfl
   |true=>exact(hp (hm _ k (by omega) (by omega) b hk)).elim
 |case3 i j hlt=>exact⟨fun k a b=>by omega,fun k a b=>by omega⟩
theorem z2ih{le:α→α→Bool}{d:Array α}{P A Q:List α}(hs:SrtS le A)(hr:∀a,le a a=true)(h:d.toList=P++(A++Q)){i j:Nat}(hi:P.length≤i)(hij:i≤j)(hj:j<P.length+A.length):le d[i]! d[j]! =true:=by
 have g:∀k,(hk:k<A.length)→d[P.length+k]! =A[k]:=fun k hk=>by
  have e:A=A.take k++A[k]::A.drop (k+1):=by rw[←y1l hk,y1m]
  refine zf9 (P:=P++A.take k) (Q:=A.drop (k+1)++Q) ?_ (by rw[y9,yq];omega);rw[h,y11,show A.take k++A[k]::(A.drop (k+1)++Q)=(A.take k++A[k]::A.drop (k+1))++Q by rw[y11,y15],←e]
 obtain⟨a,rfl⟩:∃a,i=P.length+a:=⟨i- P.length,by omega⟩;obtain⟨b,rfl⟩:∃b,j=P.length+b:=⟨j- P.length,by omega⟩;rw[g a (by omega),g b (by omega)];by_cases e:a=b
 ·subst e;exact hr _
 ·exact y4s.1 hs a b (by omega) (by omega) (by omega)
theorem zs1{d:Array α}{P A Q:List α}(h:d.toList=P++(A++Q)){x:α}(hx:x∈A):∃i,P.length≤i∧i<P.length+A.length∧d[i]! =x:=by
 obtain⟨k,hk,rfl⟩:=List.mem_iff_getElem.1 hx;have e:A=A.take k++A[k]::A.drop (k+1):=by rw[←y1l hk,y1m]
 refine⟨P.length+k,by omega,by omega,zf9 (P:=P++A.take k) (Q:=A.drop (k+1)++Q) ?_ (by rw[y9,yq];omega)⟩;rw[h,y11,show A.take k++A[k]::(A.drop (k+1)++Q)=(A.take k++A[k]::A.drop (k+1))++Q by rw[y11,y15],←e]
end
end B
namespace B
open Go Go.Sort
set_option linter.unusedVariables false
section
variable {α:Type} [Inhabited α]
omit [Inhabited α] in
theorem z1vh{le:α→α→Bool}{x:α}{B1 B2:List α}(h1:∀y∈B1,le x y=false)(h2:∀y∈B2,le x y=true):[x].merge (B1++B2) le=B1++x::B2:=by
 have e1:=z9n (le:=le) (A1:=[]) (A2:=[x]) (B1:=B1) (B2:=B2) (by simp) (fun y hy z hz=>by rw[yi]at hz;subst hz;exact h1 y hy);have e2:=z9n (le:=le) (A1:=[x]) (A2:=[]) (B1:=[]) (B2:=B2) (fun z hz y hy=>by rw[yi]at hz;subst hz;exact h2 y hy) (by simp);rw[yw,y3h]at e1;rw[y13,yw,y3i,y3h]at e2;rw[e1,e2];rfl
omit [Inhabited α] in
theorem z1r9{le:α→α→Bool}{y:α}{A1 A2:List α}(h1:∀x∈A1,le x y=true)(h2:∀x∈A2,le x y=false):(A1++A2).merge [y] le=A1++y::A2:=by
 have e1:=z9n (le:=le) (A1:=A1) (A2:=A2) (B1:=[]) (B2:=[y]) (fun x hx z hz=>by rw[yi]at hz;subst hz;exact h1 x hx) (by simp);have e2:=z9n (le:=le) (A1:=[]) (A2:=A2) (B1:=[y]) (B2:=[]) (by simp) (fun z hz x hx=>by rw[yi]at hz;subst hz;exact h2 x hx);rw[yw,y3i]at e1;rw[y13,yw,y3i,y3h]at e2;rw[e1,e2];rfl
theorem z1yq{lt le:α→α→Bool}(hle:∀x y,le x y=!lt y x)(h:Pre le):∀(f:Nat)(d:Array α)(P A B Q:List α)(a m b:Nat),a=P.length→m=P.length+A.length→b=P.length+A.length+B.length→0<A.length→0<B.length→b- a≤f→
  SrtS le A→SrtS le B→d.toList=P++(A++(B++Q))→(symF lt f d a m b).toList=P++(A.merge B le++Q):=by
 intro f
 induction f with
 |zero=>intro d P A B Q a m b _ _ _ h1 h2 h3;omega
 |succ f ih=>
  intro d P A B Q a m b ha hm hb hA0 hB0 hf sA sB hd;have ltle:∀x y,lt x y=!le y x:=fun x y=>by rw[hle];simp
  have hdB:d.toList=(P++A)++(B++Q):=by rw[hd,y11]
  have hPA:(P++A).length=m:=by rw[y9];omega
  have oA:∀i j,a≤i→i≤j→j<m→le d[i]! d[j]! =true:=fun i j h1 h2 h3=>z2ih sA h.refl hd (by omega) h2 (by omega);have oB:∀i j,m≤i→i≤j→j<b→le d[i]! d[j]! =true:=fun i j h1 h2 h3=>z2ih sB h.refl hdB (by omega) h2 (by omega);rw[symF];by_cases c1:m- a=1
  ·rw[if_pos c1];obtain⟨x,rfl⟩:∃x,A=[x]:=y52.1 (by omega);have hx:d[a]! =x:=zf9 (Q:=B++Q) (by rw[hd];rfl) ha;obtain⟨q1,q2⟩:=z1vg (fun h=>lt d[h]! d[a]!) m b (by omega) fun k k' u1 u2 u3 u4=>by
    simp only[ltle]at u4 ⊢;cases e:le d[a]! d[k]! with
    |false=>rfl
    |true=>rw[h.trans _ _ _ e (oB k k' u1 u2 u3)]at u4;simp at u4
   obtain⟨b1,b2⟩:=z12p (fun h=>lt d[h]! d[a]!) m b (by omega);generalize bsL (fun h=>lt d[h]! d[a]!) m b=r at q1 q2 b1 b2 ⊢;have eB:=y1m (r- m) B;have lB:(B.take (r- m)).length=r- m:=by rw[yq];omega
   have lB2:(B.drop (r- m)).length=b- r:=by rw[yr];omega
   generalize B.take (r- m)=B1 at eB lB;generalize B.drop (r- m)=B2 at eB lB2;subst eB;rw[z26h B1 d P (B2++Q) x a (r- 1) ha (by simp at hm;omega) (by rw[hd];simp)];rw[z1vh]
   ·simp
   ·intro y hy;obtain⟨i,i1,i2,rfl⟩:=zs1 (P:=P++[x]) (A:=B1) (Q:=B2++Q) (by rw[hd];simp) hy;have:=q1 i (by omega) (by omega);simpa[hx,ltle]using this
   ·intro y hy;obtain⟨i,i1,i2,rfl⟩:=zs1 (P:=P++[x]++B1) (A:=B2) (Q:=Q) (by rw[hd];simp) hy;have i3:(P++[x]++B1).length=r:=by simp;simp at hm;omega
    have:=q2 i (by omega) (by omega);simpa[hx,ltle]using this
  rw[if_neg c1];by_cases c2:b- m=1
  ·rw[if_pos c2];obtain⟨y,rfl⟩:∃y,B=[y]:=y52.1 (by omega);have hy:d[m]! =y:=zf9 (P:=P++A) (Q:=Q) (by rw[hdB];rfl) hPA.symm;obtain⟨q1,q2⟩:=z1vg (fun h=>!lt d[m]! d[h]!) a m (by omega) fun k k' u1 u2 u3 u4=>by
    simp only[ltle,y4i]at u4 ⊢;exact h.trans _ _ _ (oA k k' u1 u2 u3) u4
   obtain⟨b1,b2⟩:=z12p (fun h=>!lt d[m]! d[h]!) a m (by omega);generalize bsL (fun h=>!lt d[m]! d[h]!) a m=r at q1 q2 b1 b2 ⊢;have eA:=y1m (r- a) A;have lA:(A.take (r- a)).length=r- a:=by rw[yq];omega
   have lA2:(A.drop (r- a)).length=m- r:=by rw[yr];omega
   generalize A.take (r- a)=A1 at eA lA;generalize A.drop (r- a)=A2 at eA lA2;subst eA;rw[z26i _ A2 d (P++A1) Q y m r rfl (by simp;omega) (by simp;omega) (by rw[hd];simp)];rw[z1r9]
   ·simp
   ·intro x hx;obtain⟨i,i1,i2,rfl⟩:=zs1 (P:=P) (A:=A1) (Q:=A2++([y]++Q)) (by rw[hd];simp) hx;have:=q1 i (by omega) (by omega);simpa[hy,ltle]using this
   ·intro x hx;obtain⟨i,i1,i2,rfl⟩:=zs1 (P:=P++A1) (A:=A2) (Q:=[y]++Q) (by rw[hd];simp) hx;have i3:(P++A1).length=r:=by simp;omega
    have:=q2 i (by omega) (by omega);simpa[hy,ltle]using this
  rw[if_neg c2];simp only;obtain⟨mid,hmid⟩:∃q,q=(a+b)/2:=⟨_,rfl⟩;rw[←hmid];obtain⟨lo,hi,hlo⟩:∃lo hi,(mid<m∧lo=mid+m- b∧hi=mid)∨(m≤mid∧lo=a∧hi=m):=by
   by_cases h:mid<m
   ·exact⟨_,_,.inl ⟨h,rfl,rfl⟩⟩
   ·exact⟨_,_,.inr ⟨by omega,rfl,rfl⟩⟩
  have hss:symS lt d a m b=bsL (fun c=>!lt d[mid+m- 1- c]! d[c]!) lo hi:=by
   unfold symS;rw[←hmid];rcases hlo with⟨h,rfl,rfl⟩|⟨h,rfl,rfl⟩
   ·rw[if_pos h,if_pos h]
   ·rw[if_neg (by omega),if_neg (by omega)]
  rw[hss];have hloa:a≤lo:=by omega
  have hhim:hi≤m:=by omega
  have hidx:∀c,lo≤c→c<hi→m≤mid+m- 1- c∧mid+m- 1- c<b:=fun c h1 h2=>by omega
  obtain⟨q1,q2⟩:=z1vg (fun c=>!lt d[mid+m- 1- c]! d[c]!) lo hi (by omega) fun k k' u1 u2 u3 u4=>by
   simp only[ltle,y4i]at u4 ⊢;have i1:=hidx k u1 (by omega);have i2:=hidx k' (by omega) u3;exact h.trans _ _ _ (oA k k' (by omega) u2 (by omega)) (h.trans _ _ _ u4 (oB _ _ i2.1 (by omega) i1.2))
  obtain⟨b1,b2⟩:=z12p (fun c=>!lt d[mid+m- 1- c]! d[c]!) lo hi (by omega);generalize bsL (fun c=>!lt d[mid+m- 1- c]! d[c]!) lo hi=s at q1 q2 b1 b2 ⊢;simp only[ltle,y4i]at q1 q2;obtain⟨e,he⟩:∃e,e=mid+m- s:=⟨_,rfl⟩;rw[←he];have hes:mid+m=e+s:=by omega
  have hem:m≤e:=by omega
  have heb:e≤b:=by omega
  have eA:=y1m (s- a) A;have lA:(A.take (s- a)).length=s- a:=by rw[yq];omega
  have lA2:(A.drop (s- a)).length=m- s:=by rw[yr];omega
  have eB:=y1m (e- m) B;have lB:(B.take (e- m)).length=e- m:=by rw[yq];omega
  have lB2:(B.drop (e- m)).length=b- e:=by rw[yr];omega
  generalize A.take (s- a)=A1 at eA lA;generalize A.drop (s- a)=A2 at eA lA2;generalize B.take (e- m)=B1 at eB lB;generalize B.drop (e- m)=B2 at eB lB2;subst eA;subst eB;have iA1:∀x∈A1,∃i,a≤i∧i<s∧d[i]! =x:=fun x hx=>by
   obtain⟨i,i1,i2,e⟩:=zs1 (P:=P) (A:=A1) (Q:=A2++((B1++B2)++Q)) (by rw[hd];simp) hx;exact⟨i,by omega,by omega,e⟩
  have iA2:∀x∈A2,∃i,s≤i∧i<m∧d[i]! =x:=fun x hx=>by
   obtain⟨i,i1,i2,e⟩:=zs1 (P:=P++A1) (A:=A2) (Q:=(B1++B2)++Q) (by rw[hd];simp) hx;rw[y9]at i1 i2;exact⟨i,by omega,by omega,e⟩
  have iB1:∀x∈B1,∃i,m≤i∧i<e∧d[i]! =x:=fun x hx=>by
   obtain⟨i,i1,i2,e⟩:=zs1 (P:=P++(A1++A2)) (A:=B1) (Q:=B2++Q) (by rw[hd];simp) hx;rw[hPA]at i1 i2;exact⟨i,by omega,by omega,e⟩
  have iB2:∀x∈B2,∃i,e≤i∧i<b∧d[i]! =x:=fun x hx=>by
   obtain⟨i,i1,i2,e⟩:=zs1 (P:=P++(A1++A2)++B1) (A:=B2) (Q:=Q) (by rw[hd];simp) hx;rw[y9,hPA]at i1 i2;exact⟨i,by omega,by omega,e⟩
  have h12:∀x∈A1,∀y∈B2,le x y=true:=fun x hx y hy=>by
   obtain⟨i,i1,i2,rfl⟩:=iA1 x hx;obtain⟨j,j1,j2,rfl⟩:=iB2 y hy;have hc:lo<s:=by omega
   have hq:=q1 (s- 1) (by omega) (by omega);rw[show mid+m- 1- (s- 1)=e by omega]at hq;exact h.trans _ _ _ (oA i (s- 1) i1 (by omega) (by omega)) (h.trans _ _ _ hq (oB e j hem j1 j2))
  have h21:∀y∈B1,∀x∈A2,le x y=false:=fun y hy x hx=>by
   obtain⟨i,i1,i2,rfl⟩:=iA2 x hx;obtain⟨j,j1,j2,rfl⟩:=iB1 y hy;have hq:=q2 s (y6 _) (by omega);rw[show mid+m- 1- s=e- 1 by omega]at hq;cases hxy:le d[i]! d[j]! with
   |false=>rfl
   |true=>
    have:=h.trans _ _ _ (oA s i (by omega) i1 i2) (h.trans _ _ _ hxy (oB j (e- 1) j1 (by omega) (by omega)));rw[hq]at this;simp at this
  rw[z9n h12 h21];have sA1:SrtS le A1:=(y26.1 sA).1;have sA2:SrtS le A2:=(y26.1 sA).2.1;have sB1:SrtS le B1:=(y26.1 sB).1;have sB2:SrtS le B2:=(y26.1 sB).2.1;obtain⟨d1,hd1⟩:∃d1,d1=(if s<m∧m<e then rotF d s m e else d):=⟨_,rfl⟩;rw[←hd1];have t1:d1.toList=P++(A1++(B1++(A2++(B2++Q)))):=by
   rw[hd1];by_cases c:s<m∧m<e
   ·rw[if_pos c,z2ig (P:=P++A1) (A:=A2) (B:=B1) (Q:=B2++Q) (by simp;omega) (by simp;omega) (by simp;omega) (by omega) (by omega) (by rw[hd];simp)];simp
   ·rw[if_neg c,hd];by_cases c3:s<m
    ·rw[yz (l:=B1) (by omega)];simp
    ·rw[yz (l:=A2) (by omega)];simp
  clear hd1;obtain⟨d2,hd2⟩:∃d2,d2=(if a<s∧s<mid then symF lt f d1 a s mid else d1):=⟨_,rfl⟩;rw[←hd2];have t2:d2.toList=P++(A1.merge B1 le++(A2++(B2++Q))):=by
   rw[hd2];by_cases c:a<s∧s<mid
   ·rw[if_pos c,ih d1 P A1 B1 (A2++(B2++Q)) a s mid ha (by omega) (by omega) (by omega) (by omega) (by omega) sA1 sB1 t1]
   ·rw[if_neg c,t1];by_cases c3:a<s
    ·rw[yz (l:=B1) (by omega)];simp
    ·rw[yz (l:=A1) (by omega)];simp
  clear hd2;have hml:(A1.merge B1 le).length=A1.length+B1.length:=List.length_merge le A1 B1;by_cases c:mid<e∧e<b
  ·rw[if_pos c,ih d2 (P++A1.merge B1 le) A2 B2 Q mid e b (by rw[y9];omega) (by rw[y9];omega) (by rw[y9];omega) (by omega) (by omega) (by omega) sA2 sB2 (by rw[t2];simp)];simp
  ·rw[if_neg c,t2];by_cases c3:mid<e
   ·rw[yz (l:=B2) (by omega)];simp
   ·rw[yz (l:=A2) (by omega)];simp
end
end B
namespace B
open Go Go.Sort
set_option linter.unusedVariables false
section
variable {α:Type} [Inhabited α]
theorem z17d{lt le:α→α→Bool}(hle:∀x y,le x y=!lt y x)(h:Pre le):∀(n:Nat)(S:List α)(d:Array α)(P Q:List α)(x:α)(a j:Nat),S.length=n→SrtS le S→a=P.length→j=P.length+S.length→d.toList=P++(S++x::Q)→(insInner lt a j d).toList=P++(insS le S x++Q)
 |0,S,d,P,Q,x,a,j,hn,hS,ha,hj,hd=>by
  rw[yz hn]at hd ⊢;have:j=a:=by omega
  subst this;have e:insInner lt j j d=d:=by
   cases j with
   |zero=>rfl
   |succ j=>rw[insInner];simp
  rw[e,hd];rfl
 |n+1,S,d,P,Q,x,a,j,hn,hS,ha,hj,hd=>by
  rcases y4g S with rfl|⟨S',y,rfl⟩
  ·simp at hn
  rw[y4h]at*;simp at hn;have hj':j=(P.length+S'.length)+1:=by simp at hj;omega
  subst hj';have hy:d[P.length+S'.length]! =y:=zf9 (P:=P++S') (Q:=x::Q) (by rw[hd];simp) (by simp);have hx:d[P.length+S'.length+1]! =x:=zf9 (P:=P++(S'++[y])) (Q:=Q) (by rw[hd];simp) (by simp;omega);have hS':SrtS le S':=(y26.1 hS).1;rw[insInner,hx,hy];have ga:decide (P.length+S'.length+1>a)=true:=decide_eq_true (by omega);rw[ga,y1b];by_cases c:lt x y=true
  ·have hyx:le y x=false:=by rw[hle,c];rfl
   rw[if_pos c];have s:=z1yp (d:=d) (P:=P++S') (M:=[]) (Q:=Q) (x:=y) (y:=x) (by rw[hd];simp) (i:=P.length+S'.length) (j:=P.length+S'.length+1) (by simp) (by simp);rw[z17d hle h n S' _ P (y::Q) x a (P.length+S'.length) hn hS' ha rfl (by rw[s];simp)];unfold insS;have e1:(S'++[y]).takeWhile (fun z=>le z x)=S'.takeWhile fun z=>le z x:=by
    rw[List.takeWhile_append];split
    ·rename_i hl;rw[y3u,if_neg (by rw[hyx];simp),y13];exact((List.takeWhile_prefix _).eq_of_length hl).symm
    ·rfl
   have e2:(S'++[y]).dropWhile (fun z=>le z x)=S'.dropWhile (fun z=>le z x)++[y]:=by
    rw[List.dropWhile_append];split
    ·rename_i hl;rw[List.isEmpty_iff]at hl;rw[hl,y3f,if_neg (by rw[hyx];simp)];rfl
    ·rfl
   rw[e1,e2];simp
  ·have hyx:le y x=true:=by rw[hle];simpa using c
   rw[if_neg c,hd];have hall:∀z∈S'++[y],le z x=true:=fun z hz=>by
    rcases yc.1 hz with hz|hz
    ·exact h.trans z y x ((y26.1 hS).2.2 z hz y (by simp)) hyx
    ·rw[yi]at hz;subst hz;exact hyx
   unfold insS;have w1:(S'++[y]).takeWhile (fun z=>le z x)=S'++[y]:=by
    have:=y50 (p:=fun z=>le z x) (l₁:=S'++[y]) (l₂:=[]) hall;rw[y13,List.takeWhile_nil,y13]at this;exact this
   have w2:(S'++[y]).dropWhile (fun z=>le z x)=[]:=by
    have:=y51 (p:=fun z=>le z x) (l₁:=S'++[y]) (l₂:=[]) hall;rw[y13,List.dropWhile_nil]at this;exact this
   rw[w1,w2];simp
theorem z17e{lt le:α→α→Bool}(hle:∀x y,le x y=!lt y x)(h:Pre le):∀(R S:List α)(d:Array α)(P Q:List α)(a b i:Nat),SrtS le S→a=P.length→i=P.length+S.length→b=P.length+S.length+R.length→d.toList=P++(S++(R++Q))→(insOuter lt a b i d).toList=P++(R.foldl (insS le) S++Q)
 |[],S,d,P,Q,a,b,i,hS,ha,hi,hb,hd=>by
  rw[insOuter,if_neg (by simp at hb;omega),hd];simp
 |x::R,S,d,P,Q,a,b,i,hS,ha,hi,hb,hd=>by
  rw[insOuter,if_pos (by simp at hb;omega)];have e:=z17d hle h _ S d P (R++Q) x a i rfl hS ha hi (by rw[hd];simp);have hl:(insS le S x).length=S.length+1:=(z1yo S x).length_eq;rw[z17e hle h R (insS le S x) _ P Q a b (i+1) (z26e h hS x) ha (by omega) (by simp at hb;omega) e,yx]
theorem z12r{lt le:α→α→Bool}(hle:∀x y,le x y=!lt y x)(h:Pre le){d:Array α}{P L Q:List α}{a b:Nat}(ha:a=P.length)(hb:b=P.length+L.length)(hd:d.toList=P++(L++Q)):(Sort.insertionSort lt d a b).toList=P++(z27 le L++Q):=by
 unfold Sort.insertionSort;cases L with
 |nil=>
  rw[insOuter,if_neg (by simp at hb;omega),hd];rfl
 |cons x R=>
  rw[z17e hle h R [x] d P Q a b (a+1) (List.pairwise_singleton _ _) ha (by simp;omega) (by simp at hb ⊢;omega) (by rw[hd];simp)];rfl
def chS(le:α→α→Bool)(bs:Nat)(L:List α):List α:=if h:0<bs∧bs≤L.length then z27 le (L.take bs)++chS le bs (L.drop bs)else z27 le L
termination_by L.length
decreasing_by rw[yr];omega
theorem z2l8{lt le:α→α→Bool}(hle:∀x y,le x y=!lt y x)(h:Pre le)(bs n:Nat)(hb:0<bs):∀(k:Nat)(L:List α)(d:Array α)(P:List α)(a:Nat),L.length=k→a=P.length→n=P.length+L.length→d.toList=P++L→(stB lt d a n bs).toList=P++chS le bs L:=by
 intro k
 induction k using Nat.strongRecOn with
 |_ k ih=>
  intro L d P a hk ha hn hd;rw[stB,chS];by_cases c:a+bs≤n
  ·rw[dif_pos ⟨hb,c⟩,dif_pos ⟨hb,by omega⟩];have e:=z12r hle h (d:=d) (P:=P) (L:=L.take bs) (Q:=L.drop bs) (a:=a) (b:=a+bs) ha (by rw[yq];omega) (by rw[y1m];exact hd);rw[ih (L.length- bs) (by omega) (L.drop bs) _ (P++z27 le (L.take bs)) (a+bs) (by rw[yr]) (by rw[y9,z78 h,yq];omega) (by rw[y9,z78 h,yq,yr];omega) (by rw[e];simp)];simp
  ·rw[dif_neg (by omega),dif_neg (by omega)];have e:=z12r hle h (d:=d) (P:=P) (L:=L) (Q:=[]) (a:=a) (b:=n) ha hn (by rw[hd];simp);rw[e];simp
omit [Inhabited α] in
theorem z2ii{le:α→α→Bool}:z27 le ([]:List α)=[]:=rfl
omit [Inhabited α] in
theorem zs2{le:α→α→Bool}{bs:Nat}{L:List α}(h:L.length≤bs)(hb:0<bs):chS le bs L=z27 le L:=by
 rw[chS];by_cases c:bs≤L.length
 ·rw[dif_pos ⟨hb,c⟩,y36 h,y23 h,chS,dif_neg (by simp;omega),z2ii,y13]
 ·rw[dif_neg (by omega)]
theorem z2l9{lt le:α→α→Bool}(hle:∀x y,le x y=!lt y x)(h:Pre le)(bs n:Nat)(hb:0<bs):∀(k:Nat)(L:List α)(d:Array α)(P:List α)(a:Nat),L.length=k→a=P.length→n=P.length+L.length→d.toList=P++chS le bs L→(stM lt d a n bs).toList=P++chS le (2*bs) L:=by
 intro k
 induction k using Nat.strongRecOn with
 |_ k ih=>
  intro L d P a hk ha hn hd;rw[stM];by_cases c:a+2*bs≤n
  ·rw[dif_pos ⟨hb,c⟩];have e1:chS le bs L=z27 le (L.take bs)++(z27 le ((L.drop bs).take bs)++chS le bs (L.drop (2*bs))):=by
    rw[chS,dif_pos ⟨hb,by omega⟩,chS,dif_pos ⟨hb,by rw[yr];omega⟩,y3m,show bs+bs=2*bs by omega]
   have l1:(z27 le (L.take bs)).length=bs:=by rw[z78 h,yq];omega
   have l2:(z27 le ((L.drop bs).take bs)).length=bs:=by rw[z78 h,yq,yr];omega
   have e:=z1yq hle h (2*bs) d P (z27 le (L.take bs)) (z27 le ((L.drop bs).take bs)) (chS le bs (L.drop (2*bs))) a (a+bs) (a+2*bs) ha (by omega) (by omega) (by omega) (by omega) (by omega) (zld h _) (zld h _) (by rw[hd,e1]);rw[z1hq h,show L.take bs++(L.drop bs).take bs=L.take (2*bs) by rw[show 2*bs=bs+bs by omega,List.take_add]]at e;rw[ih (L.length- 2*bs) (by omega) (L.drop (2*bs)) _ (P++z27 le (L.take (2*bs))) (a+2*bs) (by rw[yr]) (by rw[y9,z78 h,yq];omega) (by rw[y9,z78 h,yq,yr];omega) (by rw[e];simp)]
   conv=>rhs;rw[chS,dif_pos ⟨by omega,by omega⟩]
   simp
  ·rw[dif_neg (by omega),zs2 (bs:=2*bs) (by omega) (by omega)];by_cases c2:a+bs<n
   ·rw[if_pos c2];have e1:chS le bs L=z27 le (L.take bs)++z27 le (L.drop bs):=by
     rw[chS,dif_pos ⟨hb,by omega⟩,zs2 (by rw[yr];omega) hb]
    have l1:(z27 le (L.take bs)).length=bs:=by rw[z78 h,yq];omega
    have l2:(z27 le (L.drop bs)).length=L.length- bs:=by rw[z78 h,yr]
    have e:=z1yq hle h (n- a) d P (z27 le (L.take bs)) (z27 le (L.drop bs)) [] a (a+bs) n ha (by omega) (by omega) (by omega) (by omega) (by omega) (zld h _) (zld h _) (by rw[hd,e1];simp);rw[e,z1hq h,y1m,y13]
   ·rw[if_neg c2,hd,zs2 (by omega) hb]
theorem z2la{lt le:α→α→Bool}(hle:∀x y,le x y=!lt y x)(h:Pre le)(n:Nat)(L:List α)(hn:n=L.length):∀(k bs:Nat)(d:Array α),0<bs→n- bs≤k→d.toList=chS le bs L→(stR lt d n bs).toList=z27 le L:=by
 intro k
 induction k with
 |zero=>
  intro bs d hb hk hd;rw[stR,dif_neg (by omega),hd,zs2 (by omega) hb]
 |succ k ih=>
  intro bs d hb hk hd;rw[stR];by_cases c:bs<n
  ·rw[dif_pos ⟨hb,c⟩];have e:=z2l9 hle h bs n hb _ L d [] 0 rfl rfl (by simp;omega) (by rw[hd];simp);rw[yw]at e;exact ih (2*bs) _ (by omega) (by omega) e
  ·rw[dif_neg (by omega),hd,zs2 (by omega) hb]
theorem z2lb{lt le:α→α→Bool}(hle:∀x y,le x y=!lt y x)(h:Pre le)(d:Array α):(stF lt d d.size).toList=z27 le d.toList:=by
 unfold stF;have e:=z2l8 hle h 20 d.size (by omega) _ d.toList d [] 0 rfl rfl (by simp) (by simp);rw[yw]at e;exact z2la hle h d.size d.toList (by simp) _ 20 _ (by omega) (y6 _) e
end
end B
namespace B
open Go Go.RowKit Go.Shelf Go.Lib Go.Sort
set_option maxRecDepth 1000000
set_option linter.unusedVariables false
noncomputable section
variable {α:Type} [Inhabited α]
set_option maxHeartbeats 8000000 in
theorem z2px(enc:α→Value)(cf:α→α→Int)(g:Nat)(cb:Array Value)(blk off cap a b:Nat)(d0 d:Array α)(w0 w:World)
  (eg:∀args w,(callFunc g args).run Tryz.prog w=.ok (.enter g args) w)(hcmp:CmpX Tryz.prog g cb enc cf blk off d0.size w0)
  (R:Row1 enc w0 blk off d0)(hs:d0.size=d.size)(S:SX enc w0 blk off d w)(hab:a≤b)(hb:b≤d.size)(hsz:d.size<4611686018427387904):
  Calls Tryz.prog 226 #[.slice (some ⟨blk,off,none⟩) d.size cap,.int .i64 a,.int .i64 b,.func (.func g) #[] cb] w fun e w'=>e=.returned (.tuple #[])∧SX enc w0 blk off (Sort.insertionSort (ltOf cf) d a b) w':=by
 have mixed:Tryz.prog.follows .mixedOrders=true:=by kernel_rfl
 have hcl0:=R.hO.cells;simp only[Value.cells]at hcl0;have hst:=R.hO.store Tryz.prog;have S0:Aside (SX enc w0 blk off d w):=S;have HC:Aside _:=hcmp;clear S hcmp
 go_enter Tryz.func226,Tryz.ntmps226
 go_wp2_with fail
 go_loopg [8] (b- a) (fun kx s8 wr=>∃(i:Nat)(dk:Array α),s8=.int .i64 i∧a<i∧i≤b+1∧b- i≤kx∧dk.size=d.size∧Aside (SX enc w0 blk off dk wr)∧Hid (insOuter (ltOf cf) a b i dk=Sort.insertionSort (ltOf cf) d a b))
 case atStart=>exact⟨a+1,d,by go_num,by omega,by omega,by omega,rfl,S0,rfl⟩
 case round=>
  clear S0;obtain⟨i,dk,rfl,hai,hib,hkx,hds,S1,HQ⟩:=hrel;by_cases hlt:i<b
  ·have hltz:(i:Int)<(b:Int):=by omega
   have HQ2:Hid (insOuter (ltOf cf) a b (i+1) (insInner (ltOf cf) a i dk)=Sort.insertionSort (ltOf cf) d a b):=by
    show _=_;rw[←HQ.out];conv=>rhs;rw[insOuter,if_pos hlt]
   clear HQ
   go_wp2_with fail
   go_loopg [9] i (fun ky s9 wr=>∃(j:Nat)(dj:Array α),s9=.int .i64 j∧a≤j∧j≤i∧j≤ky∧dj.size=d.size∧Aside (SX enc w0 blk off dj wr)∧Hid (insInner (ltOf cf) a j dj=insInner (ltOf cf) a i dk))
   case atStart=>exact⟨i,dk,rfl,by omega,y6 _,y6 _,hds,S1,rfl⟩
   case round=>
    clear S1;obtain⟨j,dj,rfl,haj,hji,hky,hdj,S1,HI⟩:=hrel;by_cases hja:a<j
    ·obtain⟨jN1,hjN1⟩:∃q,q=j- 1:=⟨_,rfl⟩;have hjad:decide ((j:Int)>(a:Int))=true:=decide_eq_true (by omega);have hjaz:(a:Int)<(j:Int):=by omega
     have ez1:((j:Int)- 1)=(jN1:Int):=by omega
     have rz1:IntKind.i64.wrap ((j:Int)- 1)=(jN1:Int):=by rw[IntKind.wrap_i64];omega
     have rb1:IntKind.i64.wrap (jN1:Int)=(jN1:Int):=by rw[IntKind.wrap_i64];omega
     have ea1:((j:Int)).toNat=j:=by omega
     have pa1:(0:Int)≤(j:Int):=by omega
     have ba1:(j:Int)<(d.size:Int):=by omega
     have ec1:((jN1:Int)).toNat=jN1:=by omega
     have pc1:(0:Int)≤(jN1:Int):=by omega
     have bc1:(jN1:Int)<(d.size:Int):=by omega
     obtain⟨x1,hx1⟩:∃x,x=dj[j]!:=⟨_,rfl⟩;obtain⟨y1,hy1⟩:∃x,x=dj[jN1]!:=⟨_,rfl⟩;have l1a:=S1.out.cl R (by omega) j (by omega);have l1b:=S1.out.cl R (by omega) jN1 (by omega);rw[←hx1]at l1a;rw[←hy1]at l1b;have hc1:=S1.out.cmp HC.out (by omega) x1 y1;have hlt1:ltOf cf dj[j]! dj[j- 1]! =decide (cf x1 y1<0):=by rw[←hjN1,hx1,hy1];rfl
     have HL:=Lib.hid hlt1;have HJ:=Lib.hid hjN1;have HX:=Lib.hid hx1;have HY:=Lib.hid hy1;clear hlt1 hx1 hy1 hjN1;by_cases hv:cf x1 y1<0
     ·have hd1:decide (cf x1 y1<0)=true:=decide_eq_true hv
      go_wp2_with fail
      refine wp_region_quiet_below (by assumption) (by kernel_rfl) ?_
      repeat(quiet_step (first|(go_at_fn g;refine Calls.regrown_of (hc1 _ _))))
      refine wpQuiet_nil ?_;intro _ hw';obtain⟨⟨nq,osq⟩,hw''⟩:=hw';subst hw'';have S2:Aside (SX enc w0 blk off dj (grow (redrawn wr nq) osq)):=S1.out.regrown nq osq;clear l1a l1b hc1 S1;generalize grow (redrawn wr nq) osq=w2 at S2 ⊢;clear nq osq;have S3:Aside (SX enc w0 blk off (swp dj j jN1) ((w2.setCell ⟨blk,off+j,none⟩ (enc y1)).setCell ⟨blk,off+jN1,none⟩ (enc x1)).drew):=by rw[HX.out,HY.out];exact S2.out.swapped R j jN1 (by omega) (by omega)
      have c1a:=S2.out.c1 R (by omega) j (by omega);have c1b:=S2.out.c1 R (by omega) jN1 (by omega);have f1a:=S2.out.f1 R (by omega) j (by omega);have f1b:=S2.out.f1 R (by omega) jN1 (by omega);obtain⟨u1,c1c⟩:=S2.out.c2 R (by omega) j jN1 (by omega) (by omega) (enc y1);rw[←HX.out]at c1a;rw[←HY.out]at c1b;clear S2
      go_wp2_with fail
      go_big_region_o
      clear c1a c1b c1c f1a f1b;generalize((w2.setCell ⟨blk,off+j,none⟩ (enc y1)).setCell ⟨blk,off+jN1,none⟩ (enc x1)).drew=w3 at S3 ⊢
      go_wp2_with fail
      have hjn:=HJ.out
      go_roundg jN1
      case measure=>omega
      case rel=>
       refine⟨jN1,swp dj j jN1,by first|rfl|go_num,by omega,by omega,y6 _,by rw[size_swp];exact hdj,S3,?_⟩;show _=_;rw[←HI.out,insInner_go (ltOf cf) a j dj hja (by rw[HL.out,hd1]),hjn]
     ·have hd1:decide (cf x1 y1<0)=false:=decide_eq_false hv
      go_wp2_with fail
      refine wp_region_quiet_below (by assumption) (by kernel_rfl) ?_
      repeat(quiet_step (first|(go_at_fn g;refine Calls.regrown_of (hc1 _ _))))
      refine wpQuiet_nil ?_;intro _ hw';obtain⟨⟨nq,osq⟩,hw''⟩:=hw';subst hw'';have S2:Aside (SX enc w0 blk off dj (grow (redrawn wr nq) osq)):=S1.out.regrown nq osq;clear l1a l1b hc1 S1;generalize grow (redrawn wr nq) osq=w2 at S2 ⊢;clear nq osq
      go_wp2_with fail
      go_roundg (b- (i+1))
      case measure=>omega
      case rel=>
       refine⟨i+1,dj,by go_num,by omega,by omega,y6 _,hdj,S2,?_⟩;show _=_;rw[←HQ2.out,←HI.out,insInner_stop (ltOf cf) a j dj (.inr (by rw[HL.out,hd1]))]
    ·have hjad:decide ((j:Int)>(a:Int))=false:=decide_eq_false (by omega);have hjaz:¬(a:Int)<(j:Int):=by omega
     go_wp2_with fail
     go_big_region_o
     have S2:Aside (SX enc w0 blk off dj wr.drew):=S1.out.drew;clear S1;generalize wr.drew=w2 at S2 ⊢
     go_wp2_with fail
     go_roundg (b- (i+1))
     case measure=>omega
     case rel=>
      refine⟨i+1,dj,by go_num,by omega,by omega,y6 _,hdj,S2,?_⟩;show _=_;rw[←HQ2.out,←HI.out,insInner_stop (ltOf cf) a j dj (.inl (by omega))]
  ·have hltz:¬(i:Int)<(b:Int):=by omega
   go_wp2_with fail
   go_end0
   exact⟨rfl,by rw[←HQ.out,insOuter,if_neg hlt];exact S1.out⟩
theorem z26j(lt:α→α→Bool)(d:Array α)(a b:Nat):(Sort.insertionSort lt d a b).size=d.size:=by
 have inner:∀(j:Nat)(d:Array α),(insInner lt a j d).size=d.size:=by
  intro j
  induction j with
  |zero=>intro d;rfl
  |succ j ih=>
   intro d;rw[insInner];split
   ·rw[ih,size_swp]
   ·rfl
 have outer:∀(k i:Nat)(d:Array α),b- i≤k→(insOuter lt a b i d).size=d.size:=by
  intro k
  induction k with
  |zero=>intro i d h;rw[insOuter,if_neg (by omega)]
  |succ k ih=>
   intro i d h;rw[insOuter];split
   ·rw[ih _ _ (by omega),inner]
   ·rfl
 exact outer _ _ _ (y6 _)
theorem z2lc(lt:α→α→Bool)(n bs:Nat):∀(k a:Nat)(d:Array α),n- a≤k→(stM lt d a n bs).size=d.size:=by
 intro k
 induction k with
 |zero=>intro a d h;rw[stM,dif_neg (by omega)];split<;>first|rfl|rw[zlc]
 |succ k ih=>
  intro a d h;rw[stM];split
  ·rw[ih _ _ (by omega),zlc]
  ·split<;>first|rfl|rw[zlc]
attribute [local irreducible] symF Sort.insertionSort in
set_option maxHeartbeats 4000000 in
theorem z2ld(enc:α→Value)(cf:α→α→Int)(g:Nat)(cb:Array Value)(blk off cap:Nat)(d0 d:Array α)(w0 w:World)
  (eg:∀args w,(callFunc g args).run Tryz.prog w=.ok (.enter g args) w)(hcmp:CmpX Tryz.prog g cb enc cf blk off d0.size w0)
  (R:Row1 enc w0 blk off d0)(hs:d0.size=d.size)(S:SX enc w0 blk off d w)(hsz:d.size<1152921504606846976):
  Calls Tryz.prog 191 #[.slice (some ⟨blk,off,none⟩) d.size cap,.int .i64 d.size,.func (.func g) #[] cb] w fun e w'=>e=.returned (.tuple #[])∧SX enc w0 blk off (stF (ltOf cf) d d.size) w':=by
 have mixed:Tryz.prog.follows .mixedOrders=true:=by kernel_rfl
 have HC:Aside _:=hcmp;have S0:Aside (SX enc w0 blk off d w):=S;clear S hcmp
 have hins:∀(dk:Array α)(W:World)(x y:Nat),dk.size=d.size→SX enc w0 blk off dk W→x≤y→y≤d.size→
   Calls Tryz.prog 226 #[.slice (some ⟨blk,off,none⟩) d.size cap,.int .i64 x,.int .i64 y,.func (.func g) #[] cb] W fun e w'=>e=.returned (.tuple #[])∧SX enc w0 blk off (Sort.insertionSort (ltOf cf) dk x y) w':=fun dk W x y h1 h2 h3 h4=>by
  have:=z2px enc cf g cb blk off cap x y d0 dk w0 W eg HC.out R (by omega) h2 h3 (by omega) (by omega);rwa[h1]at this
 have hsym:∀(f:Nat)(dk:Array α)(W:World)(x y z:Nat),dk.size=d.size→SX enc w0 blk off dk W→x<y→y<z→z≤d.size→z- x≤f→
   Calls Tryz.prog 227 #[.slice (some ⟨blk,off,none⟩) d.size cap,.int .i64 x,.int .i64 y,.int .i64 z,.func (.func g) #[] cb] W fun e w'=>e=.returned (.tuple #[])∧SX enc w0 blk off (symF (ltOf cf) f dk x y z) w':=fun f dk W x y z h1 h2 h3 h4 h5 h6=>by
  have:=z2pw enc cf g cb blk off cap d0 w0 eg HC.out R (by omega) f dk W x y z (by omega) h2 h3 h4 (by omega) h6;rwa[h1]at this
 have HI:=Lib.hid hins;have HS:=Lib.hid hsym;clear hins hsym;obtain⟨n,hn⟩:∃n,n=d.size:=⟨_,rfl⟩;rw[←hn]at HI HS hsz ⊢;have HN:=Lib.hid hn;clear hn
 go_enter Tryz.func191,Tryz.ntmps191
 go_wp2_with fail
 go_loopg [7,8] n (fun kx s7 s8 wr=>∃(a b:Nat)(dk:Array α),s7=.int .i64 a∧s8=.int .i64 b∧Hid (b=a+20)∧a≤n∧n- a≤kx∧dk.size=d.size∧Aside (SX enc w0 blk off dk wr)∧Hid (stB (ltOf cf) dk a n 20=stB (ltOf cf) d 0 n 20))
 case atStart=>exact⟨0,20,d,by go_num,by go_num,rfl,yb _,by omega,rfl,S0,rfl⟩
 case round=>
  clear S0;obtain⟨a,b,dk,rfl,rfl,HB,han,hkx,hds,S1,HQ⟩:=hrel;by_cases hle:b≤n
  ·have hlez:(b:Int)≤(n:Int):=by omega
   go_wp2_with (first
    |(go_at_call 226;refine(HI.out _ _ _ _ (hds.trans HN.out.symm) S1.out (by have:=HB.out;omega) hle).mono ?_;rintro e1 w1 ⟨rfl,T⟩;have S1:=Lib.hid T;clear T)
    |fail)
   have hb:=HB.out
   go_roundg (n- b)
   case measure=>omega
   case rel=>
    refine⟨b,b+20,_,rfl,by go_num,rfl,hle,y6 _,by rw[z26j];exact hds,S1.out,?_⟩;show _=_;rw[←HQ.out];conv=>rhs;rw[stB,dif_pos ⟨by omega,by omega⟩]
    rw[hb]
  ·have hlez:¬(b:Int)≤(n:Int):=by omega
   have hb:=HB.out;have hq:stB (ltOf cf) d 0 n 20=Sort.insertionSort (ltOf cf) dk a n:=by rw[←HQ.out,stB,dif_neg (by omega)]
   have HQ2:=Lib.hid hq;clear hb hq
   go_wp2_with (first
    |(go_at_call 226;refine(HI.out _ _ _ _ (hds.trans HN.out.symm) S1.out han (y6 _)).mono ?_;rintro e1 w1 ⟨rfl,T⟩;have S1:=Lib.hid T;clear T)
    |fail)
   have hd1:(Sort.insertionSort (ltOf cf) dk a n).size=d.size:=by rw[z26j];exact hds
   rw[←HQ2.out]at hd1;have S2:Aside (SX enc w0 blk off (stB (ltOf cf) d 0 n 20) w1):=by rw[HQ2.out];exact S1.out
   clear HQ2 HQ S1 hds;have hR:Hid (stR (ltOf cf) (stB (ltOf cf) d 0 n 20) n 20=stF (ltOf cf) d n):=rfl;generalize stB (ltOf cf) d 0 n 20=d1 at hd1 S2 hR
   go_loopg [6,7,8,9] n (fun kx s6 s7 s8 s9 wr=>∃(bs:Nat)(dk:Array α),s6=.int .i64 bs∧0<bs∧bs≤2*n+20∧n- bs≤kx∧dk.size=d.size∧Aside (SX enc w0 blk off dk wr)∧Hid (stR (ltOf cf) dk n bs=stF (ltOf cf) d n))
   case atStart=>exact⟨20,d1,by go_num,by omega,by omega,by omega,hd1,S2,hR⟩
   case round=>
    clear S2 hR hd1;obtain⟨bs,dk,rfl,hb0,hb2,hkx,hds,S1,HQ⟩:=hrel;by_cases c:bs<n
    ·have cz:(bs:Int)<(n:Int):=by omega
     go_wp2_with fail
     go_loopg [7,8] n (fun ky s7 s8 wr=>∃(a b:Nat)(dj:Array α),s7=.int .i64 a∧s8=.int .i64 b∧Hid (b=a+2*bs)∧a≤n∧n- a≤ky∧dj.size=d.size∧Aside (SX enc w0 blk off dj wr)∧Hid (stM (ltOf cf) dj a n bs=stM (ltOf cf) dk 0 n bs))
     case atStart=>exact⟨0,2*bs,dk,by go_num,by go_num,(show Hid _ from(by omega:2*bs=0+2*bs)),yb _,by omega,hds,S1,rfl⟩
     case round=>
      clear S1;obtain⟨a,b,dj,rfl,rfl,HB,han,hky,hdj,S1,HM⟩:=hrel;obtain⟨mm,hmm⟩:∃q,q=a+bs:=⟨_,rfl⟩;have hmz:(a:Int)+(bs:Int)=(mm:Int):=by omega
      have HMM:=Lib.hid hmm;clear hmm;by_cases hle:b≤n
      ·have hlez:(b:Int)≤(n:Int):=by omega
       go_wp2_with (first
        |(go_at_call 227;refine(HS.out (2*bs) _ _ _ _ _ (hdj.trans HN.out.symm) S1.out (by have:=HMM.out;omega) (by have:=HMM.out;have:=HB.out;omega) hle (by have:=HB.out;omega)).mono ?_;rintro e1 w1 ⟨rfl,T⟩;have S1:=Lib.hid T;clear T)
        |fail)
       have hb:=HB.out;have hm:=HMM.out
       go_roundg (n- b)
       case measure=>omega
       case rel=>
        refine⟨b,b+2*bs,_,rfl,by go_num,rfl,hle,y6 _,by rw[zlc];exact hdj,S1.out,?_⟩;show _=_;rw[←HM.out];conv=>rhs;rw[stM,dif_pos ⟨by omega,by omega⟩]
        rw[hb,hm]
      ·have hlez:¬(b:Int)≤(n:Int):=by omega
       have hb:=HB.out;have hm:=HMM.out;have hq:stM (ltOf cf) dk 0 n bs=if mm<n then symF (ltOf cf) (n- a) dj a mm n else dj:=by rw[←HM.out,stM,dif_neg (by omega),hm]
       have hq2:stR (ltOf cf) (stM (ltOf cf) dk 0 n bs) n (2*bs)=stF (ltOf cf) d n:=by rw[←HQ.out];conv=>rhs;rw[stR,dif_pos ⟨by omega,by omega⟩]
       have hma:a<mm:=by omega
       have HQ1:=Lib.hid hq;have HQ2:=Lib.hid hq2;have hsz1:(stM (ltOf cf) dk 0 n bs).size=d.size:=by rw[z2lc _ _ _ _ _ _ (y6 _)];exact hds
       clear hb hm hq hq2;by_cases c3:mm<n
       ·have c3z:(mm:Int)<(n:Int):=by omega
        go_wp2_with (first
         |(go_at_call 227;refine(HS.out (n- a) _ _ _ _ _ (hdj.trans HN.out.symm) S1.out hma c3 (y6 _) (y6 _)).mono ?_;rintro e1 w1 ⟨rfl,T⟩;have S1:=Lib.hid T;clear T)
         |fail)
        have hS:Aside (SX enc w0 blk off (stM (ltOf cf) dk 0 n bs) w1):=by rw[HQ1.out,if_pos c3];exact S1.out
        go_roundg (n- 2*bs)
        case measure=>omega
        case rel=>exact⟨2*bs,_,by go_num,by omega,by omega,y6 _,hsz1,hS,HQ2.out⟩
       ·have c3z:¬(mm:Int)<(n:Int):=by omega
        go_wp2_with fail
        have hS:Aside (SX enc w0 blk off (stM (ltOf cf) dk 0 n bs) wr):=by rw[HQ1.out,if_neg c3];exact S1.out
        go_roundg (n- 2*bs)
        case measure=>omega
        case rel=>exact⟨2*bs,_,by go_num,by omega,by omega,y6 _,hsz1,hS,HQ2.out⟩
    ·have cz:¬(bs:Int)<(n:Int):=by omega
     have hq:dk=stF (ltOf cf) d n:=by rw[←HQ.out,stR,dif_neg (by omega)]
     have HQ1:=Lib.hid hq;clear hq
     go_wp2_with fail
     go_end0
     exact⟨rfl,by rw[←HQ1.out];exact S1.out⟩
end
end B
namespace B
open Go Go.RowKit Go.Shelf Go.Sort
set_option maxRecDepth 1000000
set_option linter.unusedVariables false
structure PutR(w w':World)(b off:Nat)(us:List Value):Prop where
 os:w'.os=w.os
 tape:w'.tape=w.tape
 output:w'.output=w.output
 size:w.heap.size≤w'.heap.size
 block:∀k,k<w.heap.size→k≠b→w'.heap[k]?=w.heap[k]?
 cell:∀(i:Nat) v,us[i]?=some v→w'.cell? ⟨b,off+i,none⟩=some v
 other:∀p:Addr,p.block<w.heap.size→(p.off<off∨off+us.length≤p.off∨p.block≠b)→w'.cell? p=w.cell? p
 frozen:∀p:Addr,p.block<w.heap.size→stuck w' p=stuck w p
theorem z155(w:World)(os:Array Obj){k:Nat}(h:k<w.heap.size):(grow w os).heap[k]?=w.heap[k]?:=by
 unfold grow;exact y3t h
theorem z1yr(w:World)(os:Array Obj){p:Addr}(h:p.block<w.heap.size):(grow w os).cell? p=w.cell? p:=by
 unfold World.cell?;rw[z155 w os h]
theorem z1vi(w:World)(blk:Nat)(f:Array Value→Array Value)(hf:∀c,(f c).size=c.size)(p:Addr):stuck (mapBlock w blk f) p=stuck w p:=by
 have h1:∀a,(mapBlock w blk f).frozen? a=w.frozen? a:=fun a=>frozen?_mapBlock w blk f a;have h2:(mapBlock w blk f).shape? p.block=w.shape? p.block:=by
  simp only[mapBlock,World.shape?,y3w];by_cases hk:blk=p.block
  ·simp only[hk,if_true];cases w.heap[p.block]? with
   |none=>rfl
   |some o=>cases o<;>simp[onCells,hf]
  ·simp[hk]
 unfold stuck;rw[h1,h2];simp only[h1]
theorem z2bn{α:Type}[Inhabited α]{enc:α→Value}{w:World}{b off n:Nat}{os:Array Obj}{d0 d:Array α}(hb:b<w.heap.size)(hH:Holds enc w b off d0)(hs:d.size=d0.size):
  PutR w (grow (putRow enc (Sort.ahead w n) b off d) os) b off (d.toList.map enc):=by
 have hsz:(putRow enc (Sort.ahead w n) b off d).heap.size=w.heap.size:=by rw[size_putRow];rfl
 refine⟨rfl,rfl,rfl,?_,fun k hk hne=>?_,fun i v hv=>?_,fun p hp ho=>?_,fun p hp=>?_⟩
 ·rw[size_grow,hsz];omega
 ·rw[z155 _ _ (by rw[hsz];exact hk)];unfold putRow mapBlock Sort.ahead;simp only[y3w,if_neg (Ne.symm hne)]
 ·rw[z1yr _ _ (by rw[hsz];exact hb)];rw[y14]at hv;have hi:i<d.size:=by
   rcases yj i d.size with g|g
   ·exact g
   ·rw[y4z (by simpa using g)]at hv;simp at hv
  have hH':Holds enc (Sort.ahead w n) b off d0:=hH;rw[cell?_putRow enc (Sort.ahead w n) b off d0 d hH' hs i hi];rw[ya (by simpa using hi)]at hv;rw[getElem!_pos d i hi];simpa using hv
 ·rw[z1yr _ _ (by rw[hsz];exact hp)];rw[cell?_putRow_other enc (Sort.ahead w n) b off d p (by simp only[yu,y1n]at ho;omega)];rfl
 ·rw[z13b (z155 _ _ (by rw[hsz];exact hp))];exact z1vi (Sort.ahead w n) b _ (fun c=>by unfold putCells;simp) p
theorem FExt.put{fr:Fr}{w':World}{b off:Nat}{us:List Value}(hst:PutR fr.w0 w' b off us)(ho:∀(i:Nat),i<us.length→fr.own b (off+i))(hne:0<us.length)(hld:Laid fr.w0)(hnl:∀b o,LB b=true→¬fr.own b o):FExt fr w':=by
 refine⟨hst.os,hst.tape,hst.output,hst.size,fun k hk hn=>?_,fun b' o hk hn=>?_,fun b' o hk hn=>hst.frozen _ hk,hld.on hst.size (fun k hl=>hst.block k (hld.lt k hl) fun e=>hnl k (off+0) hl (e▸ho 0 hne)),fun b hl=>hld.lt b hl,hnl⟩
 ·by_cases e:k=b
  ·subst e;exact(hn _ (ho 0 hne)).elim
  ·exact hst.block k hk e
 ·refine hst.other _ hk ?_;by_cases e:b'=b
  ·subst e;by_cases h1:o<off
   ·exact .inl h1
   ·by_cases h2:off+us.length≤o
    ·exact .inr (.inl h2)
    ·have h3:=ho (o- off) (by omega);rw[show off+(o- off)=o from by omega]at h3;exact(hn h3).elim
  ·exact .inr (.inr e)
theorem ObRel.put{g:G}{w w':World}{k ver:Nat}{live:Bool}{τ:Ty}(h1:sz τ=1){xs ys:List (Den τ)}{b off cap:Nat}{us:List Value}(htk:g.tk k=(some ⟨b,off,none⟩,cap))(hb:b<w.heap.size)(hown:∀b o x,g.ω b o=some x→b<w.heap.size)
  (hO:ObAt En g w k ⟨ver,τ,xs,some 0,live⟩ b off cap (fun i j=>(w.cell? ⟨b,off+i*sz τ+j,none⟩).getD undef))
  (hst:PutR w w' b off us)(hul:us.length=xs.length)(hyl:ys.length≤us.length)(hcap:xs.length≤cap)(hbig:xs.length≤9223372036854775807)
  (hrel:∀i(hi:i<ys.length) d,(enc τ ys[i])[0]?=some d→∃u,us[i]?=some u∧VRel En g.St w u d):
  ObRel En g w' k ⟨ver,τ,ys,some 0,live⟩∧Keeps g.St w g.St w':=by
 have hmine:∀i,i<us.length→g.ω b (off+i)=some (.obj k)∧stuck w ⟨b,off+i,none⟩=false:=by
  intro i hi;have:=(hO.cell i 0 (by show i<xs.length;omega) (by show 0<sz τ;omega)).2;have e:off+i*Un.sz τ+0=off+i:=by show off+i*sz τ+0=_;rw[h1];omega
  rw[e]at this;exact this.2 (yb _)
 have hk:Keeps g.St w g.St w':=fun b' o hs=>⟨hs,hst.other ⟨b',o,none⟩ (hown _ _ _ hs) (by
  by_cases e:b'=b
  ·subst e;by_cases h2:o<off
   ·exact .inl h2
   ·by_cases h3:off+us.length≤o
    ·exact .inr (.inl h3)
    ·have:=(hmine (o- off) (by omega)).1;rw[show off+(o- off)=o by omega]at this;have hs':g.ω b' o=some .st:=hs;rw[this]at hs';simp at hs'
  ·exact .inr (.inr e))⟩
 refine⟨⟨⟨⟨by rw[htk];show ys.length≤cap;omega,by show ys.length≤_;omega⟩,fun f hf=>by simp at hf;subst hf;exact yb _⟩,fun _=>⟨b,off,fun i j=>us.getD i undef,by rw[htk],⟨?_,?_,?_⟩⟩⟩,hk⟩
 ·intro i j hi hj;have hi':i<ys.length:=hi;have hj':j<sz τ:=hj;obtain rfl:j=0:=by omega
  have e0:off+i*Un.sz τ+0=off+i:=by show off+i*sz τ+0=_;rw[h1];omega
  show w'.cell? ⟨b,off+i*Un.sz τ+0,none⟩=_∧Mode g w' k (some 0) i b (off+i*Un.sz τ+0);rw[e0];refine⟨?_,fun h=>absurd h (y18 _),fun _=>⟨(hmine i (by omega)).1,by rw[hst.frozen _ hb];exact(hmine i (by omega)).2⟩⟩;rw[yd,ya (by omega)];exact hst.cell _ _ (ya (by omega))
 ·intro i hi j d hd;have hj:j<sz τ:=by have h0:=(yl.1 hd).1;have:=zgx τ (ys[i]'hi);exact this▸h0
  obtain rfl:j=0:=by omega
  obtain⟨u,h2,h3⟩:=hrel i hi d hd;show VRel En g.St w' (us.getD i undef) d;rw[yd,h2];exact h3.mono hk
 ·intro hl x hx hx';rw[htk]at hx';have hx1:ys.length*sz τ≤x:=hx;have hx2:x<cap*sz τ:=hx';rw[h1]at hx1 hx2;rcases yj x us.length with g1|g1
  ·exact⟨(hmine x g1).1,⟨us[x],hst.cell _ _ (ya g1)⟩,by rw[hst.frozen _ hb];exact(hmine x g1).2⟩
  ·obtain⟨m1,⟨v,m2⟩,m3⟩:=hO.spare hl x (by show xs.length*sz τ≤x;rw[h1];omega) (by show x<cap*sz τ;rw[h1];omega);exact⟨m1,⟨v,by rw[hst.other ⟨b,off+x,none⟩ hb (.inr (.inl (by show off+us.length≤off+x;omega)))];exact m2⟩,by rw[hst.frozen _ hb];exact m3⟩
theorem ObRel.open1{g:G}{w:World}{k ver:Nat}{live:Bool}{τ:Ty}{xs:List (Den τ)}(h:ObRel En g w k ⟨ver,τ,xs,some 0,live⟩)(hne:xs≠[]):
  ∃b off,g.tk k=(some ⟨b,off,none⟩,(g.tk k).2)∧xs.length≤(g.tk k).2∧ObAt En g w k ⟨ver,τ,xs,some 0,live⟩ b off (g.tk k).2 (fun i j=>(w.cell? ⟨b,off+i*sz τ+j,none⟩).getD undef):=by
 obtain⟨⟨⟨hcap,hmax⟩,_⟩,hrow⟩:=h;have hpos:0<xs.length:=y2p.2 hne;have hc:xs.length≤(g.tk k).2:=hcap;obtain⟨b,off,cv,hbase,hA⟩:=hrow (by omega);have hcv:∀i j,i<xs.length→j<sz τ→(w.cell? ⟨b,off+i*sz τ+j,none⟩).getD undef=cv i j:=fun i j hi hj=>by
  have:=(hA.cell i j hi hj).1;have e:w.cell? ⟨b,off+i*sz τ+j,none⟩=some (cv i j):=this;rw[e];rfl
 refine⟨b,off,by rw[←hbase],hc,⟨fun i j hi hj=>?_,fun i hi j d hd=>?_,hA.spare⟩⟩
 ·have:=hA.cell i j hi hj;rw[hcv i j hi hj];exact this
 ·have hj:j<sz τ:=by have h0:=(yl.1 hd).1;have:=zgx τ (xs[i]'hi);exact this▸h0
  rw[hcv i j hi hj];exact hA.rel i hi j d hd
theorem z2ij{St:Nat→Nat→Prop}{w:World}{v x:Value}(h:VRel En St w v (.s x)):v=x∧oneC x=true:=by cases h with|s _ h=>exact⟨rfl,h⟩
theorem ObAt.holds{g:G}{w:World}{k ver:Nat}{live:Bool}{xs:List Int}{b off cap:Nat}{cv:Nat→Nat→Value}(hA:ObAt En g w k ⟨ver,.int,xs,some 0,live⟩ b off cap cv):
  Holds (Value.int .i64) w b off xs.toArray∧∀x∈xs,oneC (.int .i64 x)=true:=by
 have key:∀i(hi:i<xs.length),cv i 0=.int .i64 xs[i]∧oneC (.int .i64 xs[i])=true:=fun i hi=>by
  have:=hA.rel i hi 0 (.s (.int .i64 xs[i])) rfl;exact z2ij this
 refine⟨fun j hj=>?_,fun x hx=>?_⟩
 ·have hj':j<xs.length:=by simpa using hj
  have hc:=hA.cell j 0 hj' (show(0:Nat)<1 from Nat.one_pos);have e:off+j*Un.sz .int+0=off+j:=by show off+j*1+0=_;omega
  rw[e]at hc;refine⟨?_,zo6 (hc.2.2 (yb _)).2⟩;rw[hc.1,(key j hj').1,getElem!_pos _ j hj];simp
 ·obtain⟨i,hi,rfl⟩:=y4b hx;exact(key i hi).2
end B
end Go.Proofs.YtjfpbchdcbhfgaaGreat
