/- Part 15 of the proof: Lnest Lret Lstabd Lstx0 Lstx1 Lstx2 Lstx3 Lstabp Lstabq Lstabr Lstabs Lstx4 Lput. -/
import Derived.Maps.AppendAt
import Derived.OneCell
import Derived.Laws.OwnMore
import Derived.Sort.Defs
import Derived.Sort.Statements
import Derived.Shelf.SlSortCmp.Kit1
import Derived.WalkKit
import Derived.Lib.QuietBelow
import Derived.Deep.LoopGhost
import Derived.Sort.WalkB2
import Derived.Sort.WalkB12
import Derived.Sort.WalkA
import Derived.Sort.Grow
import Derived.Test.YtjfpbchdcbhfgaaGreatNsy14
set_option linter.unusedVariables false
set_option linter.unusedSimpArgs false
set_option linter.defProp false
set_option maxHeartbeats 8000000
namespace Go.Proofs.YtjfpbchdcbhfgaaGreat
namespace B
open Go Go.RowKit
set_option linter.unusedVariables false
structure Nest(w:World)(base:Nat)(te ti:TypeId)(k q z:Nat)(v:Value)(cs:List Value)(ys:List (Nat×List Value)):Prop where
 outer:w.ownsRow base te k v ys.length cs
 inner:∀i m zs,ys[i]?=some (m,zs)→∃u,cs[i*k+q]?=some u∧w.ownsRow base ti z u m zs∧(u.ownBlock=none∨u.ownBlock≠v.ownBlock)
 apart:∀i j u u',i≠j→i<ys.length→j<ys.length→cs[i*k+q]?=some u→cs[j*k+q]?=some u'→u.ownBlock=none∨u.ownBlock≠u'.ownBlock
def Nest.nil w base te ti k q z:Nest w base te ti k q z (.slice none 0 0) [] []:=
 ⟨⟨by simp,.inl ⟨rfl,rfl⟩⟩,fun i m zs h=>by simp at h,fun i j u u' _ h=>by simp at h⟩
section
variable {w w':World} {base:Nat} {te ti:TypeId} {k q z:Nat} {v v':Value} {cs:List Value} {ys:List (Nat×List Value)}
def Nest.kept{row}(h:Nest w base te ti k q z v cs ys)(hg:w.grownBy w' row)(hr:∀b,row=some b→b<base):Nest w' base te ti k q z v cs ys:=by
 have ne:∀{e:TypeId}{s:Nat}{x:Value}{n:Nat}{l:List Value},w.ownsRow base e s x n l→x.ownBlock=none∨x.ownBlock≠row:=fun{e s x n l} ho=>by
  cases hx:x.ownBlock with
  |none=>exact .inl rfl
  |some g=>
   refine .inr fun e2=>?_;have h1:=(ho.lt g hx).1;have h2:=hr g e2.symm;omega
 refine⟨h.outer.kept hg<|ne h.outer,fun i m zs hi=>?_,h.apart⟩;obtain⟨u,h1,h2,h3⟩:=h.inner i m zs hi;exact⟨u,h1,h2.kept hg<|ne h2,h3⟩
def Nest.push(h:Nest w base te ti k q z v cs ys) es{u0}(hes:es.length=k)(hq:es[q]?=some u0)(h0:w'.ownsRow base ti z u0 0 [])(hf:∀b,u0.ownBlock=some b→w.heap.size≤b∧v'.ownBlock≠some b)(ho:w'.ownsRow base te k v' (ys.length+1) (cs++es))(hg:w.grownBy w' v.ownBlock)(hb:v'.ownBlock=v.ownBlock∨∃b,v'.ownBlock=some b∧w.heap.size≤b):Nest w' base te ti k q z v' (cs++es) (ys++[(0,[])]):=by
 have hcl:cs.length=ys.length*k:=h.outer.1;have hqk:q<k:=by rw[←hes];exact(ym.1 hq).1
 have at1:∀i,i<ys.length→(cs++es)[i*k+q]?=cs[i*k+q]?:=fun i hi=>by
  refine d7 ?_;have:(i+1)*k≤ys.length*k:=fB _ hi;rw[iA]at this;omega
 have at2:(cs++es)[ys.length*k+q]?=some u0:=by
  rw[fC<|by omega,hcl,Nat.add_sub_cancel_left];exact hq
 have low:∀{i:Nat}{u:Value},i<ys.length→cs[i*k+q]?=some u→∀g,u.ownBlock=some g→g<w.heap.size:=fun{i u} hi hu g hx=>by
  obtain⟨p,hp⟩:∃p,ys[i]?=some p:=⟨_,ya hi⟩;obtain⟨y,y1,y2,_⟩:=h.inner i p.1 p.2 hp;rw[hu]at y1;obtain rfl:=yg y1;exact(y2.lt g hx).2
 refine⟨by rw[yb,yd];exact ho,fun i m zs hi=>?_,fun i j u u' hne hi hj h1 h2=>?_⟩
 ·by_cases hl:i<ys.length
  ·rw[d7 hl]at hi;obtain⟨u,g1,g2,g3⟩:=h.inner i m zs hi;refine⟨u,by rw[at1 i hl];exact g1,g2.kept hg g3,?_⟩;rcases hb with e|⟨b,e,hbl⟩
   ·rw[e];exact g3
   ·cases hx:u.ownBlock with
    |none=>exact .inl rfl
    |some g=>
     refine .inr fun e2=>?_;rw[e]at e2;have:=(g2.lt g hx).2;have:=yg e2;omega
  ·have hl2:i=ys.length:=by
    have:=(ym.1 hi).1;rw[yb,yd]at this;omega
   subst hl2;rw[fC<|y7 _,Bf]at hi;simp only[A7,y8,yi]at hi;obtain⟨rfl,rfl⟩:=hi;refine⟨u0,at2,h0,?_⟩;cases hx:u0.ownBlock with
   |none=>exact .inl rfl
   |some g=>exact .inr fun e=>(hf g hx).2 e.symm
 ·rw[yb,yd]at hi hj;have far:∀{i:Nat}{u:Value},i<ys.length→cs[i*k+q]?=some u→u.ownBlock=none∨u.ownBlock≠u0.ownBlock:=fun{i u} hi hu=>by
   cases hx:u.ownBlock with
   |none=>exact .inl rfl
   |some g=>
    refine .inr fun e=>?_;have h1:=low hi hu g hx;have h2:=(hf g e.symm).1;omega
  by_cases hli:i<ys.length
  ·rw[at1 i hli]at h1;by_cases hlj:j<ys.length
   ·rw[at1 j hlj]at h2;exact h.apart i j u u' hne hli hlj h1 h2
   ·have:j=ys.length:=by omega
    subst this;rw[at2]at h2;obtain rfl:=yg h2;exact far hli h1
  ·have:i=ys.length:=by omega
   subst this;rw[at2]at h1;obtain rfl:=yg h1;rw[at1 j<|by omega]at h2;rcases far (by omega) h2 with e|e
   ·cases hx:u0.ownBlock with
    |none=>exact .inl rfl
    |some g=>rw[e];exact .inr<|by simp
   ·exact .inr fun e2=>e e2.symm
def Nest.get(h:Nest w base te ti k q z v cs ys)(hk:0<k)(hq:q<k){i m zs}(hi:ys[i]?=some (m,zs)):
 ∃g cap u,v=.slice (some ⟨g,0,none⟩) ys.length cap∧base≤g∧cs[i*k+q]?=some u∧w.cell? ⟨g,i*k+q,none⟩=some u∧w.frozen? ⟨g,i*k+q,none⟩=false∧w.ownsRow base ti z u m zs∧(u.ownBlock=none∨u.ownBlock≠v.ownBlock):=by
 obtain⟨u,h1,h2,h3⟩:=h.inner i m zs hi;have hl:=(ym.1 hi).1;have ho:=h.outer;obtain⟨hcl,⟨rfl,h0⟩|⟨g,cap,cur,rfl,hge,_⟩⟩:=ho
 ·omega
 ·have hlt:i*k+q<ys.length*k:=by
   have:(i+1)*k≤ys.length*k:=fB _ hl;rw[iA]at this;omega
  exact⟨g,cap,u,rfl,hge,h1,by rw[h.outer.cellAt _ hlt];exact h1,h.outer.frozenAt _,h2,h3⟩
def Nest.app(h:Nest w base te ti k q z v cs ys)(hk:0<k)(hqk:q<k){i m m' zs zs' g cap u u'}(hi:ys[i]?=some (m,zs))(hv:v=.slice (some ⟨g,0,none⟩) ys.length cap)(hu:cs[i*k+q]?=some u)(ho:w'.ownsRow base ti z u' m' zs')(hg:w.grownBy w' u.ownBlock)(hb:u'.ownBlock=u.ownBlock∨u'.ownBlock=some w.heap.size):
 Nest (w'.setCell ⟨g,i*k+q,none⟩ u') base te ti k q z v (cs.set (i*k+q) u') (ys.set i (m',zs')):=by
 obtain⟨u0,g1,g2,g3⟩:=h.inner i m zs hi;rw[hu]at g1;obtain rfl:=yg g1;have hl:=(ym.1 hi).1;have hvb:v.ownBlock=some g:=by rw[hv];rfl
 have hgl:=(h.outer.lt g hvb).2;have hne:v.ownBlock=none∨v.ownBlock≠u.ownBlock:=by
  rcases g3 with e|e
  ·rw[e,hvb];exact .inr (by simp)
  ·exact .inr fun e2=>e e2.symm
 have hsz:=hg.size;have hu':∀{x:Value},(x.ownBlock=none∨x.ownBlock≠u.ownBlock)→(∀b,x.ownBlock=some b→b<w.heap.size)→x.ownBlock=none∨x.ownBlock≠u'.ownBlock:=fun{x} hx hlt=>by
  rcases hb with e|e
  ·rw[e];exact hx
  ·cases hxb:x.ownBlock with
   |none=>exact .inl rfl
   |some b=>
    refine .inr fun e2=>?_;rw[e]at e2;have:=hlt b hxb;have:=yg e2;omega
 have hug:u'.ownBlock≠some g:=fun e2=>by
  rcases hu' hne (fun b hb2=>(h.outer.lt b hb2).2)with e|e
  ·rw[hvb]at e;exact absurd e (by simp)
  ·rw[hvb]at e;exact e e2.symm
 have hpos:∀j,j<ys.length→j*k+q<cs.length:=fun j hj=>by
  rw[h.outer.1];have:(j+1)*k≤ys.length*k:=fB _ hj;rw[iA]at this;omega
 have hinj:∀j,j≠i→j*k+q≠i*k+q:=fun j hj e=>hj (Nat.eq_of_mul_eq_mul_right hk (by omega));have hcs:∀j,(cs.set (i*k+q) u')[j*k+q]?=if j=i then some u' else cs[j*k+q]?:=fun j=>by
  rw[j9];by_cases e:j=i
  ·subst e;rw[if_pos rfl,if_pos rfl,if_pos (hpos j hl)]
  ·rw[if_neg (fun e2=>hinj j e e2.symm),if_neg e]
 refine⟨?_,fun j n ws hj=>?_,fun j j' x x' hne2 hj hj' h1 h2=>?_⟩
 ·rw[iG];have h1:=h.outer.kept hg hne;rw[hv]at h1 ⊢;exact(h1.stored _ _).1
 ·rw[j9]at hj;by_cases e:i=j
  ·subst e;rw[if_pos rfl,if_pos hl]at hj;simp only[y8,yi]at hj;obtain⟨rfl,rfl⟩:=hj;refine⟨u',by rw[hcs,if_pos rfl],ownsRow_setCell_other ho hug u',?_⟩;rw[hvb];exact .inr hug
  ·rw[if_neg e]at hj;obtain⟨x,x1,x2,x3⟩:=h.inner j n ws hj;have hlj:=(ym.1 hj).1;refine⟨x,by rw[hcs,if_neg (fun e2=>e e2.symm)];exact x1,?_,x3⟩;refine ownsRow_setCell_other (x2.kept hg (h.apart j i x u (fun e2=>e e2.symm) hlj hl x1 hu)) (fun e2=>?_) u';rcases x3 with e3|e3
   ·rw[e3]at e2;simp at e2
   ·rw[hvb]at e3;exact e3 e2
 ·rw[iG]at hj hj';rw[hcs]at h1 h2;by_cases e:j=i
  ·rw[if_pos e]at h1;have hj2:j'≠i:=fun e2=>hne2 (e.trans e2.symm);rw[if_neg hj2]at h2;obtain rfl:=yg h1;subst e;obtain⟨p,hp⟩:∃p,ys[j']?=some p:=⟨_,ya hj'⟩;obtain⟨y,y1,y2,_⟩:=h.inner j' p.1 p.2 hp;rw[h2]at y1;obtain rfl:=yg y1;have:=hu' (h.apart j' j x' u (fun e2=>hj2 e2) hj' hj h2 hu) (fun b hb2=>(y2.lt b hb2).2);rcases this with e3|e3
   ·cases hx:u'.ownBlock with
    |none=>exact .inl rfl
    |some b=>rw[e3];exact .inr (by simp)
   ·exact .inr fun e4=>e3 e4.symm
  ·rw[if_neg e]at h1;by_cases e':j'=i
   ·rw[if_pos e']at h2;obtain rfl:=yg h2;subst e';obtain⟨p,hp⟩:∃p,ys[j]?=some p:=⟨_,ya hj⟩;obtain⟨y,y1,y2,_⟩:=h.inner j p.1 p.2 hp;rw[h1]at y1;obtain rfl:=yg y1;exact hu' (h.apart j j' x u e hj hj' h1 hu) (fun b hb2=>(y2.lt b hb2).2)
   ·rw[if_neg e']at h2;exact h.apart j j' x x' hne2 hj hj' h1 h2
end
end B
namespace B
open Go Go.RowKit Go.Shelf
set_option maxRecDepth 1000000
set_option linter.unusedVariables false
def m5(St:Nat→Nat→Prop)(w w':World)(v:Value)(b o:Nat):Prop:=(b<w.heap.size∧St b o)∨(w.heap.size≤b∧b<w'.heap.size∧v.ownBlock≠some b)
open Classical in
def asV{St:Nat→Nat→Prop}{w w':World}{v:Value}{τ:Ty}{xs:List (Den τ)}(hext:Ext w w')(hbd:∀b o,St b o→b<w.heap.size)(h:VRel En (m5 St w w' .nilFunc) w' v (.dat τ xs)):
 pQ Tryz.prog En St w w' v [.c<|.sl (U:=Un) τ xs false] []:=by
 refine⟨hext,⟨fun _=>0,fun _=>False,fun b o=>if m5 St w w' .nilFunc b o then some .st else none,fun _=>(none,0)⟩,fun _ h=>h,?_,?_,?_,?_⟩
 ·intro b o x hb hx;have hx':(if m5 St w w' .nilFunc b o then some Own.st else none)=some x:=hx;split at hx'
  ·rename_i hs;simp at hx';rcases hs with⟨_,h2⟩|⟨h1,_⟩
   ·exact⟨hx'.symm,h2⟩
   ·omega
  ·simp at hx'
 ·intro b o x hx;have hx':(if m5 St w w' .nilFunc b o then some Own.st else none)=some x:=hx;split at hx'
  ·rename_i hs;rcases hs with⟨h1,_⟩|⟨_,h2,_⟩
   ·exact yu h1 hext.le
   ·exact h2
  ·simp at hx'
 ·refine⟨h.mono fun b o hs=>⟨?_,rfl⟩,fun h=>by simp at h⟩;show(if m5 St w w' .nilFunc b o then some Own.st else none)=some .st;rw[if_pos hs]
 ·intro k o ho;simp at ho
def N4{w w'}(h:Ext w w'):w.grownBy w' none:=⟨h.os,h.tape,h.output,h.size,fun k hk _=>Below.block h k hk⟩
def aaE{w W W5 row}(hx:Ext w W)(hg:W.grownBy W5 row)(hr:∀b,row=some b→w.heap.size≤b):Ext w W5:=
 Below.trans hx ⟨hg.os,hg.tape,hg.output,hg.size,fun k hk=>hg.block k (yu hk hx.size) (fun e=>by have:=hr k e.symm;omega)⟩
def asW{f F}(hok:aj f F){args ob k n}(hF:F args=some (ob,[.c<|.s<|.int k n],[]))(hob:∀p∈ob,p){w St vs}(hbd:∀b o,St b o→b<w.heap.size)(hrel:All2 (DRel Tryz.prog En St w) vs args)(hld:Laid w):
 Calls Tryz.prog f vs.toArray w fun e w'=>e=.returned (.int k n)∧Ext w w':=by
 refine((hok args ob _ [] hF hob).1 w St vs hbd hrel hld).mono ?_;rintro e w' ⟨v,rfl,hx,g,-,-,-,hr,-⟩;exact⟨by rw[show v=.int k n from hr.1],hx⟩
def asX{St w v}{keys:List (List Val)}(h:VRel En St w v (.dat (U:=Un) Ty.row keys)):
 ∃(a:Option Addr)(b off cap:Nat)(kv:Nat→Value),v=.slice a keys.length cap∧(keys≠[]→a=some ⟨b,off,none⟩∧keys.length≤cap)∧∀i,i<keys.length→St b (off+i)∧w.cell? ⟨b,off+i,none⟩=some (kv i)∧VRel En St w (kv i) (.dat (U:=Un) Ty.val<|keys.getD i []):=by
 rcases h.inv with⟨rfl,a,cap,rfl⟩|⟨b,o,cap,cv,rfl,hcap,h1,h2⟩
 ·exact⟨a,0,0,cap,fun _=>undef,rfl,fun h=>(h rfl).elim,fun i hi=>by simp at hi⟩
 ·refine⟨_,b,o,cap,fun i=>cv i 0,rfl,fun _=>⟨rfl,hcap.1⟩,fun i hi=>?_⟩;obtain⟨g1,g2⟩:=h1 i 0 hi<|show(0:Nat)<1 from Nat.one_pos;have e:o+i*Un.sz Ty.row+0=o+i:=by show o+i*1+0=_;omega
  rw[e]at g1 g2;have g3:=h2 i hi 0 (.dat (U:=Un) Ty.val keys[i]) rfl;have e2:keys.getD i []=keys[i]:=by rw[yf,ya hi];rfl
  exact⟨g1,g2,by rw[e2];exact g3⟩
def aaF{St w w'}(hx:Ext w w')(hbd:∀b o,St b o→b<w.heap.size):Keeps St w St w':=fun b o hs=>⟨hs,hx.cell (p:=⟨b,o,none⟩)<|hbd b o hs⟩
end B
namespace B
open Go Go.Sort
set_option linter.unusedVariables false
variable {α:Type} [Inhabited α]
def gy(d:Array α)(a b:Nat):Nat→Array α
 |0=>d
 |n+1=>gy (swp d a b) (a+1) (b+1) n
def l9:Nat→Array α→Nat→Nat→Nat→Array α
 |0,d,m,i,_=>gy d (m- i) m i
 |f+1,d,m,i,j=>if i=j then gy d (m- i) m i else if j<i then l9 f (gy d (m- i) m j) m (i- j) j else l9 f (gy d (m- i) (m+j- i) i) m i (j- i)
def j5(d:Array α)(a m b:Nat):Array α:=l9 (b- a) d m (m- a)<|b- m
def bsL(p:Nat→Bool)(i j:Nat):Nat:=if i<j then(if p ((i+j)/2)then bsL p ((i+j)/2+1) j else bsL p i ((i+j)/2))else i
termination_by j- i
decreasing_by all_goals omega
def kH(d:Array α)(k e:Nat):Array α:=if k<e then kH (swp d k<|k+1) (k+1) e else d
termination_by e- k
def kI(d:Array α)(k i:Nat):Array α:=if i<k then kI (swp d k<|k- 1) (k- 1) i else d
termination_by k- i
def uX(lt:α→α→Bool)(d:Array α)(a m b:Nat):Nat:=
 bsL (fun c=>!lt d[(a+b)/2+m- 1- c]! d[c]!) (if(a+b)/2<m then(a+b)/2+m- b else a) (if(a+b)/2<m then(a+b)/2 else m)
def d5(lt:α→α→Bool):Nat→Array α→Nat→Nat→Nat→Array α
 |0,d,_,_,_=>d
 |f+1,d,a,m,b=>
  if m- a=1 then kH d a (bsL (fun h=>lt d[h]! d[a]!) m b- 1)
  else if b- m=1 then kI d m (bsL (fun h=>!lt d[m]! d[h]!) a m)
  else
   let s:=uX lt d a m b;let e:=(a+b)/2+m- s;let d1:=if s<m∧m<e then j5 d s m e else d;let d2:=if a<s∧s<(a+b)/2 then d5 lt f d1 a s ((a+b)/2)else d1
   if(a+b)/2<e∧e<b then d5 lt f d2 ((a+b)/2) e b else d2
def kJ(lt:α→α→Bool)(d:Array α)(a n bs:Nat):Array α:=if h:0<bs∧a+bs≤n then kJ lt (Sort.insertionSort lt d a<|a+bs) (a+bs) n bs else Sort.insertionSort lt d a n
termination_by n- a
def gz(lt:α→α→Bool)(d:Array α)(a n bs:Nat):Array α:=
 if h:0<bs∧a+2*bs≤n then gz lt (d5 lt (2*bs) d a (a+bs)<|a+2*bs) (a+2*bs) n bs
 else if a+bs<n then d5 lt (n- a) d a (a+bs) n else d
termination_by n- a
def m6(lt:α→α→Bool)(d:Array α)(n bs:Nat):Array α:=if h:0<bs∧bs<n then m6 lt (gz lt d 0 n bs) n (2*bs)else d
termination_by n- bs
def oX(lt:α→α→Bool)(d:Array α)(n:Nat):Array α:=m6 lt (kJ lt d 0 n 20) n 20
def tE:∀(n:Nat)(d:Array α)(a b:Nat),(gy d a b n).size=d.size
 |0,_,_,_=>rfl
 |n+1,d,a,b=>by rw[gy,tE n,size_swp]
def N6:∀(f:Nat)(d:Array α)(m i j:Nat),(l9 f d m i j).size=d.size
 |0,d,m,i,j=>by rw[l9,tE]
 |f+1,d,m,i,j=>by
  rw[l9];split
  ·rw[tE]
  ·split
   ·rw[N6 f,tE]
   ·rw[N6 f,tE]
theorem aaG(d:Array α) a m b:(j5 d a m b).size=d.size:=N6 _ _ _ _ _
def uY p i j(h:i≤j):i≤bsL p i j∧bsL p i j≤j:=by
 induction i,j using bsL.induct (p:=p)with
 |case1 i j hlt hp ih=>rw[bsL,if_pos hlt,if_pos hp];have:=ih (by omega);omega
 |case2 i j hlt hp ih=>rw[bsL,if_pos hlt,if_neg hp];have:=ih (by omega);omega
 |case3 i j hlt=>rw[bsL,if_neg hlt];omega
def asY(d:Array α) k e:(kH d k e).size=d.size:=by
 fun_induction kH d k e with
 |case1 d k h ih=>rw[ih,size_swp]
 |case2 d k h=>rfl
def asZ(d:Array α) k i:(kI d k i).size=d.size:=by
 fun_induction kI d k i with
 |case1 d k h ih=>rw[ih,size_swp]
 |case2 d k h=>rfl
theorem xz lt:∀(f:Nat)(d:Array α)(a m b:Nat),(d5 lt f d a m b).size=d.size
 |0,_,_,_,_=>rfl
 |f+1,d,a,m,b=>by
  rw[d5];split
  ·rw[asY]
  ·split
   ·rw[asZ]
   ·simp only;split<;>split<;>split<;>simp only[xz lt f,aaG]
end B
namespace B
open Go Go.RowKit Go.Shelf Go.Lib Go.Sort
set_option linter.unusedVariables false
variable {P:Program} {α:Type} [Inhabited α] {enc:α→Value} {w0 W:World} {blk off:Nat} {dk d0:Array α}
def SX(enc:α→Value)(w0:World)(blk off:Nat)(dk:Array α)(W:World):Prop:=Below w0.heap.size (putRow enc w0 blk off dk) W
def pC(P:Program)(g:Nat)(cb:Array Value)(enc:α→Value)(cf:α→α→Int)(blk off size:Nat)(w:World):Prop:=
 ∀(W:World)(dk:Array α),dk.size=size→SX enc w blk off dk W→∀x y:α,Calls P g (#[enc x,enc y]++cb) W fun e w'=>e=.returned (.int .i64<|cf x y)∧Below W.heap.size W w'
def SX.le(h:SX enc w0 blk off dk W):w0.heap.size≤W.heap.size:=by have:=h.size;rwa[size_putRow]at this
def SX.below{W'}(h:SX enc w0 blk off dk W)(hb:Below W.heap.size W W'):SX enc w0 blk off dk W':=Below.trans h<|hb.mono h.le
def SX.drew(h:SX enc w0 blk off dk W):SX enc w0 blk off dk W.drew:=Below.drew h
def SX.regrown(h:SX enc w0 blk off dk W) d os:SX enc w0 blk off dk (grow (redrawn W d) os):=h.below<|below_regrown W d os
def SX.holds(h:SX enc w0 blk off dk W)(R:Row1 enc w0 blk off d0)(hs:dk.size=d0.size):Holds enc W blk off dk:=fun j hj=>by
 obtain⟨h1,h2⟩:=holds_putRow enc w0 blk off d0 dk R.hH hs j hj;exact⟨(Below.cell h R.hblk).trans h1,(Below.frozen h R.hblk).trans h2⟩
def SX.c1(h:SX enc w0 blk off dk W)(R:Row1 enc w0 blk off d0)(hs:dk.size=d0.size) i(hi:i<dk.size):W.cell? ⟨blk,off+i,none⟩=some (enc dk[i]!):=(h.holds R hs i hi).1
theorem SX.f1(h:SX enc w0 blk off dk W)(R:Row1 enc w0 blk off d0)(hs:dk.size=d0.size) i(hi:i<dk.size):W.frozen? ⟨blk,off+i,none⟩=false:=(h.holds R hs i hi).2
def SX.cl(h:SX enc w0 blk off dk W)(R:Row1 enc w0 blk off d0)(hs:dk.size=d0.size) i(hi:i<dk.size) n os:(grow (redrawn W n) os).cell? ⟨blk,off+i,none⟩=some (enc dk[i]!):=(h.regrown n os).c1 R hs i hi
def SX.cmp{g cb cf size}(h:SX enc w0 blk off dk W)(hC:pC P g cb enc cf blk off size w0)(hs:dk.size=size) x y n os:
 Calls P g (#[enc x,enc y]++cb) (grow (redrawn W n) os) fun e w'=>e=.returned (.int .i64<|cf x y)∧Below (grow (redrawn W n) os).heap.size (grow (redrawn W n) os) w':=hC _ dk hs (h.regrown n os) x y
def SX.c2(h:SX enc w0 blk off dk W)(R:Row1 enc w0 blk off d0)(hs:dk.size=d0.size) i j(hi:i<dk.size)(hj:j<dk.size) v:
 ∃u,(W.setCell ⟨blk,off+i,none⟩ v).cell? ⟨blk,off+j,none⟩=some u:=by
 by_cases e:i=j
 ·subst e;exact⟨v,World.cell?_setCell_same _ _ _<|h.c1 R hs i hi⟩
 ·exact⟨_,(World.cell?_setCell_other _ _ _ _ (by intro e';simp only[Addr.mk.injEq]at e';omega)).trans<|h.c1 R hs j hj⟩
def aaH{B A W}(h:Below B A W) p v:Below B (A.setCell p v) (W.setCell p v):=by
 refine⟨h.os,h.tape,h.output,by simpa using h.size,fun k hk=>?_⟩;have hb:=h.block k hk;simp only[World.setCell,P9];rw[hb]
def SX.swapped(h:SX enc w0 blk off dk W)(R:Row1 enc w0 blk off d0) i j(hi:i<dk.size)(hj:j<dk.size):
 SX enc w0 blk off (swp dk i j) ((W.setCell ⟨blk,off+i,none⟩<|enc dk[j]!).setCell ⟨blk,off+j,none⟩<|enc dk[i]!).drew:=by
 refine SX.drew ?_;unfold SX;rw[←putRow_swp enc w0 blk off dk i j hi hj];exact aaH (aaH h _ _) _ _
end B
namespace B
open Go Go.RowKit Go.Shelf Go.Lib Go.Sort
set_option maxRecDepth 1000000
set_option linter.unusedVariables false
noncomputable section
variable {α:Type} [Inhabited α]
def N7(enc:α→Value)(g:Nat)(cb:Array Value)(blk off cap a b n:Nat)(d0 d:Array α)(w0 w:World)
 (R:Row1 enc w0 blk off d0)(hs:d0.size=d.size)(S:SX enc w0 blk off d w)(ha:a+n≤d.size)(hb:b+n≤d.size)(hsz:d.size<4611686018427387904):
 Calls Tryz.prog 250 #[.slice (some ⟨blk,off,none⟩) d.size cap,.int .i64 a,.int .i64 b,.int .i64 n,.func (.func g) #[] cb] w fun e w'=>e=.returned (.tuple #[])∧SX enc w0 blk off (gy d a b n) w':=by
 have mixed:Tryz.prog.follows .mixedOrders=true:=by kernel_rfl
 have hcl0:=R.hO.cells;simp only[Value.cells]at hcl0;have hst:=R.hO.store Tryz.prog;have S0:Aside (SX enc w0 blk off d w):=S;clear S
 go_enter Tryz.func250,Tryz.ntmps250
 go_wp2
 go_loopg [10] (n) (fun kx s10 wr=>∃(i:Nat)(dk:Array α),s10=.int .i64 i∧i≤n∧n- i≤kx∧dk.size=d.size∧Aside (SX enc w0 blk off dk wr)∧gy dk (a+i) (b+i) (n- i)=gy d a b n)
 case atStart=>exact⟨0,d,rfl,yc _,by omega,rfl,S0,rfl⟩
 case round=>
  clear S0;obtain⟨i,dk,rfl,hi,hkx,hds,S1,heq⟩:=hrel;by_cases hlt:i<n
  ·have hltz:(i:Int)<(n:Int):=by omega
   go_wp2_with fail
   obtain⟨iN1,hiN1⟩:∃q,q=a+i:=⟨_,rfl⟩;obtain⟨jN1,hjN1⟩:∃q,q=b+i:=⟨_,rfl⟩;have ea1:((a:Int)+(i:Int)).toNat=iN1:=by omega
   have pa1:(0:Int)≤(a:Int)+(i:Int):=by omega
   have ba1:(a:Int)+(i:Int)<(d.size:Int):=by omega
   have ra1:IntKind.i64.wrap ((a:Int)+(i:Int))=(a:Int)+(i:Int):=by rw[IntKind.wrap_i64];omega
   have ec1:((b:Int)+(i:Int)).toNat=jN1:=by omega
   have pc1:(0:Int)≤(b:Int)+(i:Int):=by omega
   have bc1:(b:Int)+(i:Int)<(d.size:Int):=by omega
   have rc1:IntKind.i64.wrap ((b:Int)+(i:Int))=(b:Int)+(i:Int):=by rw[IntKind.wrap_i64];omega
   obtain⟨x1,hx1⟩:∃x,x=dk[a+i]!:=⟨_,rfl⟩;obtain⟨y1,hy1⟩:∃x,x=dk[b+i]!:=⟨_,rfl⟩;have S2:Aside (SX enc w0 blk off (swp dk (a+i) (b+i)) ((wr.setCell ⟨blk,off+iN1,none⟩ (enc y1)).setCell ⟨blk,off+jN1,none⟩ (enc x1)).drew):=by rw[hiN1,hjN1,hx1,hy1];exact S1.out.swapped R (a+i) (b+i) (by omega) (by omega)
   have c1a:=S1.out.c1 R (by omega) (a+i) (by omega);have c1b:=S1.out.c1 R (by omega) (b+i) (by omega);have f1a:=S1.out.f1 R (by omega) (a+i) (by omega);have f1b:=S1.out.f1 R (by omega) (b+i) (by omega);obtain⟨u1,c1c⟩:=S1.out.c2 R (by omega) (a+i) (b+i) (by omega) (by omega) (enc y1);rw[←hjN1,←hiN1]at c1c;rw[←hx1,←hiN1]at c1a;rw[←hy1,←hjN1]at c1b;rw[←hiN1]at f1a;rw[←hjN1]at f1b;clear S1 hx1 hy1 hiN1 hjN1
   go_wp2_with fail
   go_big_region_o
   clear c1a c1b c1c f1a f1b;generalize((wr.setCell ⟨blk,off+iN1,none⟩ (enc y1)).setCell ⟨blk,off+jN1,none⟩ (enc x1)).drew=w2 at S2 ⊢;clear ea1 ec1
   go_wp2
   go_roundg (n- (i+1))
   case measure=>omega
   case rel=>
    refine⟨i+1,swp dk (a+i) (b+i),by go_num,by omega,y7 _,by rw[size_swp];exact hds,S2,?_⟩;rw[←heq,show n- i=(n- (i+1))+1 by omega,gy];rfl
  ·have hltz:¬(i:Int)<(n:Int):=by omega
   go_wp2
   go_end0
   refine⟨rfl,?_⟩;rw[show n- i=0 by omega,gy]at heq;rw[←heq];exact S1.out
def as0(enc:α→Value)(g:Nat)(cb:Array Value)(blk off cap a m b:Nat)(d0 d:Array α)(w0 w:World)
 (R:Row1 enc w0 blk off d0)(hs:d0.size=d.size)(S:SX enc w0 blk off d w)(ham:a<m)(hmb:m<b)(hb:b≤d.size)(hsz:d.size<4611686018427387904):
 Calls Tryz.prog 244 #[.slice (some ⟨blk,off,none⟩) d.size cap,.int .i64 a,.int .i64 m,.int .i64 b,.func (.func g) #[] cb] w fun e w'=>e=.returned (.tuple #[])∧SX enc w0 blk off (j5 d a m b) w':=by
 have mixed:Tryz.prog.follows .mixedOrders=true:=by kernel_rfl
 have S0:Aside (SX enc w0 blk off d w):=S;clear S
 go_enter Tryz.func244,Tryz.ntmps244
 go_wp2
 go_loopg [10,11] (b- a) (fun kx s10 s11 wr=>∃(f i j:Nat)(dk:Array α),s10=.int .i64 i∧s11=.int .i64 j∧0<i∧0<j∧i≤m∧m+j≤d.size∧i+j≤f∧i+j≤kx∧dk.size=d.size∧Aside (SX enc w0 blk off dk wr)∧l9 f dk m i j=j5 d a m b)
 case atStart=>exact⟨b- a,m- a,b- m,d,by go_num,by go_num,by omega,by omega,by omega,by omega,by omega,by omega,rfl,S0,rfl⟩
 case round=>
  clear S0;obtain⟨f,i,j,dk,rfl,rfl,hi,hj,him,hjm,hf,hkx,hds,S1,heq⟩:=hrel;obtain⟨f,rfl⟩:∃q,f=q+1:=⟨f- 1,by omega⟩;rw[l9]at heq;by_cases he:i=j
  ·rw[if_pos he]at heq;subst he;have hne:((i:Int) !=(i:Int))=false:=by simp
   go_wp2_with (first
    |(go_at_call 250;rw[show((m:Int)- (i:Int))=((m- i:Nat):Int) by omega];rw[←hds];refine(N7 enc g cb blk off cap (m- i) m i d0 dk w0 _ R (by omega) S1.out (by omega) (by omega)<|by omega).mono ?_;rintro e w' ⟨rfl,S2⟩;have S3:=Lib.hid S2;clear S2)
    |fail)
   go_end0
   exact⟨rfl,by rw[←heq];exact S3.out⟩
  ·rw[if_neg he]at heq;have hne:((i:Int) !=(j:Int))=true:=by simp;omega
   by_cases hij:j<i
   ·rw[if_pos hij]at heq;have hgt:(j:Int)<(i:Int):=by omega
    go_wp2_with (first
     |(go_at_call 250;rw[show((m:Int)- (i:Int))=((m- i:Nat):Int) by omega];rw[←hds];refine(N7 enc g cb blk off cap (m- i) m j d0 dk w0 _ R (by omega) S1.out (by omega) (by omega)<|by omega).mono ?_;rintro e w' ⟨rfl,S2⟩;have S3:=Lib.hid S2;clear S2)
     |fail)
    go_roundg (i- j+j)
    case measure=>omega
    case rel=>exact⟨f,i- j,j,_,by go_num,rfl,by omega,by omega,by omega,by omega,by omega,by omega,by rw[tE];exact hds,S3.out,heq⟩
   ·rw[if_neg hij]at heq;have hgt:¬(j:Int)<(i:Int):=by omega
    go_wp2_with (first
     |(go_at_call 250;rw[show((m:Int)- (i:Int))=((m- i:Nat):Int) by omega];rw[show((m:Int)+(j:Int)- (i:Int))=((m+j- i:Nat):Int) by omega];rw[←hds];refine(N7 enc g cb blk off cap (m- i) (m+j- i) i d0 dk w0 _ R (by omega) S1.out (by omega) (by omega)<|by omega).mono ?_;rintro e w' ⟨rfl,S2⟩;have S3:=Lib.hid S2;clear S2)
     |fail)
    go_roundg (i+(j- i))
    case measure=>omega
    case rel=>exact⟨f,i,j- i,_,rfl,by go_num,by omega,by omega,by omega,by omega,by omega,by omega,by rw[tE];exact hds,S3.out,heq⟩
end
end B
namespace B
open Go Go.RowKit Go.Shelf Go.Lib Go.Sort
set_option maxRecDepth 1000000
set_option linter.unusedVariables false
noncomputable section
variable {α:Type} [Inhabited α]
def as1(enc:α→Value)(cf:α→α→Int)(g:Nat)(cb:Array Value)(blk off cap a m b:Nat)(d0 d:Array α)(w0 w:World)
 (eg:∀args w,(callFunc g args).run Tryz.prog w=.ok (.enter g args) w)(hcmp:pC Tryz.prog g cb enc cf blk off d0.size w0)
 (R:Row1 enc w0 blk off d0)(hs:d0.size=d.size)(S:SX enc w0 blk off d w)(ham:m=a+1)(hmb:m<b)(hb:b≤d.size)(hsz:d.size<4611686018427387904):
 Calls Tryz.prog 227 #[.slice (some ⟨blk,off,none⟩) d.size cap,.int .i64 a,.int .i64 m,.int .i64 b,.func (.func g) #[] cb] w fun e w'=>e=.returned (.tuple #[])∧SX enc w0 blk off (kH d a (bsL (fun h=>ltOf cf d[h]! d[a]!) m b- 1)) w':=by
 have mixed:Tryz.prog.follows .mixedOrders=true:=by kernel_rfl
 have hcl0:=R.hO.cells;simp only[Value.cells]at hcl0;have hst:=R.hO.store Tryz.prog;have S0:Aside (SX enc w0 blk off d w):=S;have HC:Aside _:=hcmp;clear S hcmp;obtain⟨r,hr⟩:∃r,r=bsL (fun h=>ltOf cf d[h]! d[a]!) m b:=⟨_,rfl⟩;have hrb:=uY (fun h=>ltOf cf d[h]! d[a]!) m b (by omega);rw[←hr]at hrb ⊢;have HR:=Lib.hid hr;clear hr;have h1:((m:Int)- (a:Int)==1)=true:=by simp;omega
 have hma:a<m:=by omega
 have HAM:=Lib.hid ham;clear ham
 go_enter Tryz.func227,Tryz.ntmps227
 go_wp2
 go_loopg [10,11] (b- a) (fun kx s10 s11 wr=>∃(i j:Nat),s10=.int .i64 i∧s11=.int .i64 j∧m≤i∧i≤j∧j≤b∧j- i≤kx∧Aside (SX enc w0 blk off d wr)∧bsL (fun h=>ltOf cf d[h]! d[a]!) i j=r)
 case atStart=>exact⟨m,b,rfl,rfl,y7 _,by omega,y7 _,by omega,S0,HR.out.symm⟩
 case round=>
  clear S0;obtain⟨i,j,rfl,rfl,hmi,hij,hjb,hkx,S1,heq⟩:=hrel;rw[bsL]at heq;have HQ:=Lib.hid heq;clear heq;by_cases hlt:i<j
  ·have hltz:(i:Int)<(j:Int):=by omega
   go_wp2_with fail
   obtain⟨k,hk⟩:∃q,q=(i+j)/2:=⟨_,rfl⟩;have ek:((i:Int)+(j:Int))/2=(k:Int):=by omega
   simp only[ek];clear ek;obtain⟨x1,hx1⟩:∃x,x=d[k]!:=⟨_,rfl⟩;obtain⟨y1,hy1⟩:∃x,x=d[a]!:=⟨_,rfl⟩;have ea1:((k:Int)).toNat=k:=by omega
   have pa1:(0:Int)≤(k:Int):=by omega
   have ba1:(k:Int)<(d.size:Int):=by omega
   have ec1:((a:Int)).toNat=a:=by omega
   have pc1:(0:Int)≤(a:Int):=by omega
   have bc1:(a:Int)<(d.size:Int):=by omega
   have l1a:=S1.out.cl R (by omega) k (by omega);have l1b:=S1.out.cl R (by omega) a (by omega);rw[←hx1]at l1a;rw[←hy1]at l1b;have hc1:=S1.out.cmp HC.out (by omega) x1 y1;have hlt1:ltOf cf d[k]! d[a]! =decide (cf x1 y1<0):=by rw[hx1,hy1];rfl
   have HL:=Lib.hid hlt1;have HK:=Lib.hid hk;clear hx1 hy1 hlt1 hk;by_cases hv:cf x1 y1<0
   ·have hd1:decide (cf x1 y1<0)=true:=decide_eq_true hv;refine wp_region_quiet_below (by assumption) (by kernel_rfl) ?_
    repeat(quiet_step (first|(go_at_fn g;refine Calls.regrown_of (hc1 _ _))))
    refine wpQuiet_nil ?_;intro _ hw';obtain⟨⟨nq,osq⟩,hw''⟩:=hw';subst hw'';have S2:Aside (SX enc w0 blk off d (grow (redrawn wr nq) osq)):=S1.out.regrown nq osq;clear l1a l1b hc1 S1;generalize grow (redrawn wr nq) osq=w2 at S2 ⊢;clear nq osq
    go_wp2_with fail
    have e1:=HK.out
    go_roundg (j- (k+1))
    case measure=>omega
    case rel=>exact⟨k+1,j,by go_num,rfl,by omega,by omega,by omega,y7 _,S2,by rw[←HQ.out,if_pos hlt,←e1,if_pos (by rw[HL.out,hd1])]⟩
   ·have hd1:decide (cf x1 y1<0)=false:=decide_eq_false hv;refine wp_region_quiet_below (by assumption) (by kernel_rfl) ?_
    repeat(quiet_step (first|(go_at_fn g;refine Calls.regrown_of (hc1 _ _))))
    refine wpQuiet_nil ?_;intro _ hw';obtain⟨⟨nq,osq⟩,hw''⟩:=hw';subst hw'';have S2:Aside (SX enc w0 blk off d (grow (redrawn wr nq) osq)):=S1.out.regrown nq osq;clear l1a l1b hc1 S1;generalize grow (redrawn wr nq) osq=w2 at S2 ⊢;clear nq osq
    go_wp2_with fail
    have e1:=HK.out
    go_roundg (k- i)
    case measure=>omega
    case rel=>exact⟨i,k,rfl,rfl,by omega,by omega,by omega,y7 _,S2,by rw[←HQ.out,if_pos hlt,←e1,if_neg (by rw[HL.out,hd1];simp)]⟩
  ·have hltz:¬(i:Int)<(j:Int):=by omega
   have er:i=r:=by rw[←HQ.out,if_neg hlt]
   clear HQ;subst er
   go_wp2_with fail
   have z1:((i:Int)- 1)=((i- 1:Nat):Int):=by omega
   go_loopg [13] (i- 1- a) (fun kx s13 wr2=>∃(k:Nat)(dk:Array α),s13=.int .i64 k∧a≤k∧i- 1- k≤kx∧dk.size=d.size∧Aside (SX enc w0 blk off dk wr2)∧kH dk k (i- 1)=kH d a (i- 1))
   case atStart=>exact⟨a,d,rfl,y7 _,by omega,rfl,S1,rfl⟩
   case round=>
    clear S1;obtain⟨k,dk,rfl,hak,hkx2,hds,S2,heq⟩:=hrel;have HE:=Lib.hid heq;clear heq;by_cases hlt2:k<i- 1
    ·have hltz2:(k:Int)<((i- 1:Nat):Int):=by omega
     go_wp2_with fail
     obtain⟨jN1,hjN1⟩:∃q,q=k+1:=⟨_,rfl⟩;have ea1:((k:Int)).toNat=k:=by omega
     have pa1:(0:Int)≤(k:Int):=by omega
     have ba1:(k:Int)<(d.size:Int):=by omega
     have ec1:((k:Int)+1).toNat=jN1:=by omega
     have pc1:(0:Int)≤(k:Int)+1:=by omega
     have bc1:(k:Int)+1<(d.size:Int):=by omega
     have rc1:IntKind.i64.wrap ((k:Int)+1)=(k:Int)+1:=by rw[IntKind.wrap_i64];omega
     obtain⟨x1,hx1⟩:∃x,x=dk[k]!:=⟨_,rfl⟩;obtain⟨y1,hy1⟩:∃x,x=dk[k+1]!:=⟨_,rfl⟩;have S3:Aside (SX enc w0 blk off (swp dk k (k+1)) ((wr.setCell ⟨blk,off+k,none⟩ (enc y1)).setCell ⟨blk,off+jN1,none⟩ (enc x1)).drew):=by rw[hjN1,hx1,hy1];exact S2.out.swapped R k (k+1) (by omega) (by omega)
     have c1a:=S2.out.c1 R (by omega) k (by omega);have c1b:=S2.out.c1 R (by omega) (k+1) (by omega);have f1a:=S2.out.f1 R (by omega) k (by omega);have f1b:=S2.out.f1 R (by omega) (k+1) (by omega);obtain⟨u1,c1c⟩:=S2.out.c2 R (by omega) k (k+1) (by omega) (by omega) (enc y1);rw[←hjN1]at c1c;rw[←hx1]at c1a;rw[←hy1,←hjN1]at c1b;rw[←hjN1]at f1b;clear S2 hx1 hy1 hjN1
     go_wp2_with fail
     go_big_region_o
     clear c1a c1b c1c f1a f1b;generalize((wr.setCell ⟨blk,off+k,none⟩ (enc y1)).setCell ⟨blk,off+jN1,none⟩ (enc x1)).drew=w2 at S3 ⊢;clear ea1 ec1
     go_wp2
     go_roundg (i- 1- (k+1))
     case measure=>omega
     case rel=>
      refine⟨k+1,swp dk k (k+1),by go_num,by omega,y7 _,by rw[size_swp];exact hds,S3,?_⟩;rw[←HE.out];conv=>rhs;rw[kH,if_pos hlt2]
    ·have hltz2:¬(k:Int)<((i- 1:Nat):Int):=by omega
     go_wp2_with fail
     (try simp only[Exit.inBlock,Exit.then]);refine bodyPost_ret (results_none rfl _ _ _) rfl ?_
     refine⟨rfl,?_⟩;rw[←HE.out,kH,if_neg hlt2];exact S2.out
def as2(enc:α→Value)(cf:α→α→Int)(g:Nat)(cb:Array Value)(blk off cap a m b:Nat)(d0 d:Array α)(w0 w:World)
 (eg:∀args w,(callFunc g args).run Tryz.prog w=.ok (.enter g args) w)(hcmp:pC Tryz.prog g cb enc cf blk off d0.size w0)
 (R:Row1 enc w0 blk off d0)(hs:d0.size=d.size)(S:SX enc w0 blk off d w)(ham:a<m)(hm1:m- a≠1)(hmb:b=m+1)(hb:b≤d.size)(hsz:d.size<4611686018427387904):
 Calls Tryz.prog 227 #[.slice (some ⟨blk,off,none⟩) d.size cap,.int .i64 a,.int .i64 m,.int .i64 b,.func (.func g) #[] cb] w fun e w'=>e=.returned (.tuple #[])∧SX enc w0 blk off (kI d m (bsL (fun h=>!ltOf cf d[m]! d[h]!) a m)) w':=by
 have mixed:Tryz.prog.follows .mixedOrders=true:=by kernel_rfl
 have hcl0:=R.hO.cells;simp only[Value.cells]at hcl0;have hst:=R.hO.store Tryz.prog;have S0:Aside (SX enc w0 blk off d w):=S;have HC:Aside _:=hcmp;clear S hcmp;obtain⟨r,hr⟩:∃r,r=bsL (fun h=>!ltOf cf d[m]! d[h]!) a m:=⟨_,rfl⟩;have hrb:=uY (fun h=>!ltOf cf d[m]! d[h]!) a m (by omega);rw[←hr]at hrb ⊢;have HR:=Lib.hid hr;clear hr;have h1:((m:Int)- (a:Int)==1)=false:=by simp;omega
 have h2:((b:Int)- (m:Int)==1)=true:=by simp;omega
 have hmb1:m<b:=by omega
 have HAM:=Lib.hid hmb;clear hmb
 go_enter Tryz.func227,Tryz.ntmps227
 go_wp2
 go_loopg [14,15] (m- a) (fun kx s10 s11 wr=>∃(i j:Nat),s10=.int .i64 i∧s11=.int .i64 j∧a≤i∧i≤j∧j≤m∧j- i≤kx∧Aside (SX enc w0 blk off d wr)∧bsL (fun h=>!ltOf cf d[m]! d[h]!) i j=r)
 case atStart=>exact⟨a,m,rfl,rfl,y7 _,by omega,y7 _,by omega,S0,HR.out.symm⟩
 case round=>
  clear S0;obtain⟨i,j,rfl,rfl,hmi,hij,hjb,hkx,S1,heq⟩:=hrel;rw[bsL]at heq;have HQ:=Lib.hid heq;clear heq;by_cases hlt:i<j
  ·have hltz:(i:Int)<(j:Int):=by omega
   go_wp2_with fail
   obtain⟨k,hk⟩:∃q,q=(i+j)/2:=⟨_,rfl⟩;have ek:((i:Int)+(j:Int))/2=(k:Int):=by omega
   simp only[ek];clear ek;obtain⟨x1,hx1⟩:∃x,x=d[m]!:=⟨_,rfl⟩;obtain⟨y1,hy1⟩:∃x,x=d[k]!:=⟨_,rfl⟩;have ea1:((k:Int)).toNat=k:=by omega
   have pa1:(0:Int)≤(k:Int):=by omega
   have ba1:(k:Int)<(d.size:Int):=by omega
   have ec1:((m:Int)).toNat=m:=by omega
   have pc1:(0:Int)≤(m:Int):=by omega
   have bc1:(m:Int)<(d.size:Int):=by omega
   have l1a:=S1.out.cl R (by omega) m (by omega);have l1b:=S1.out.cl R (by omega) k (by omega);rw[←hx1]at l1a;rw[←hy1]at l1b;have hc1:=S1.out.cmp HC.out (by omega) x1 y1;have hlt1:ltOf cf d[m]! d[k]! =decide (cf x1 y1<0):=by rw[hx1,hy1];rfl
   have HL:=Lib.hid hlt1;have HK:=Lib.hid hk;clear hx1 hy1 hlt1 hk;by_cases hv:cf x1 y1<0
   ·have hd1:decide (cf x1 y1<0)=true:=decide_eq_true hv;refine wp_region_quiet_below (by assumption) (by kernel_rfl) ?_
    repeat(quiet_step (first|(go_at_fn g;refine Calls.regrown_of (hc1 _ _))))
    refine wpQuiet_nil ?_;intro _ hw';obtain⟨⟨nq,osq⟩,hw''⟩:=hw';subst hw'';have S2:Aside (SX enc w0 blk off d (grow (redrawn wr nq) osq)):=S1.out.regrown nq osq;clear l1a l1b hc1 S1;generalize grow (redrawn wr nq) osq=w2 at S2 ⊢;clear nq osq
    go_wp2_with fail
    have e1:=HK.out
    go_roundg (k- i)
    case measure=>omega
    case rel=>exact⟨i,k,rfl,rfl,by omega,by omega,by omega,y7 _,S2,by rw[←HQ.out,if_pos hlt,←e1,if_neg (by rw[HL.out,hd1];simp)]⟩
   ·have hd1:decide (cf x1 y1<0)=false:=decide_eq_false hv;refine wp_region_quiet_below (by assumption) (by kernel_rfl) ?_
    repeat(quiet_step (first|(go_at_fn g;refine Calls.regrown_of (hc1 _ _))))
    refine wpQuiet_nil ?_;intro _ hw';obtain⟨⟨nq,osq⟩,hw''⟩:=hw';subst hw'';have S2:Aside (SX enc w0 blk off d (grow (redrawn wr nq) osq)):=S1.out.regrown nq osq;clear l1a l1b hc1 S1;generalize grow (redrawn wr nq) osq=w2 at S2 ⊢;clear nq osq
    go_wp2_with fail
    have e1:=HK.out
    go_roundg (j- (k+1))
    case measure=>omega
    case rel=>exact⟨k+1,j,by go_num,rfl,by omega,by omega,by omega,y7 _,S2,by rw[←HQ.out,if_pos hlt,←e1,if_pos (by rw[HL.out,hd1];rfl)]⟩
  ·have hltz:¬(i:Int)<(j:Int):=by omega
   have er:i=r:=by rw[←HQ.out,if_neg hlt]
   clear HQ;subst er
   go_wp2_with fail
   go_loopg [17] (m- i) (fun kx s13 wr2=>∃(k:Nat)(dk:Array α),s13=.int .i64 k∧i≤k∧k≤m∧k- i≤kx∧dk.size=d.size∧Aside (SX enc w0 blk off dk wr2)∧kI dk k i=kI d m i)
   case atStart=>exact⟨m,d,rfl,by omega,y7 _,y7 _,rfl,S1,rfl⟩
   case round=>
    clear S1;obtain⟨k,dk,rfl,hak,hkm,hkx2,hds,S2,heq⟩:=hrel;have HE:=Lib.hid heq;clear heq;by_cases hlt2:i<k
    ·have hltz2:(i:Int)<(k:Int):=by omega
     go_wp2_with fail
     obtain⟨jN1,hjN1⟩:∃q,q=k- 1:=⟨_,rfl⟩;have ea1:((k:Int)).toNat=k:=by omega
     have pa1:(0:Int)≤(k:Int):=by omega
     have ba1:(k:Int)<(d.size:Int):=by omega
     have ec1:((k:Int)- 1).toNat=jN1:=by omega
     have pc1:(0:Int)≤(k:Int)- 1:=by omega
     have bc1:(k:Int)- 1<(d.size:Int):=by omega
     have rc1:IntKind.i64.wrap ((k:Int)- 1)=(k:Int)- 1:=by rw[IntKind.wrap_i64];omega
     obtain⟨x1,hx1⟩:∃x,x=dk[k]!:=⟨_,rfl⟩;obtain⟨y1,hy1⟩:∃x,x=dk[k- 1]!:=⟨_,rfl⟩;have S3:Aside (SX enc w0 blk off (swp dk k (k- 1)) ((wr.setCell ⟨blk,off+k,none⟩ (enc y1)).setCell ⟨blk,off+jN1,none⟩ (enc x1)).drew):=by rw[hjN1,hx1,hy1];exact S2.out.swapped R k (k- 1) (by omega) (by omega)
     have c1a:=S2.out.c1 R (by omega) k (by omega);have c1b:=S2.out.c1 R (by omega) (k- 1) (by omega);have f1a:=S2.out.f1 R (by omega) k (by omega);have f1b:=S2.out.f1 R (by omega) (k- 1) (by omega);obtain⟨u1,c1c⟩:=S2.out.c2 R (by omega) k (k- 1) (by omega) (by omega) (enc y1);rw[←hjN1]at c1c;rw[←hx1]at c1a;rw[←hy1,←hjN1]at c1b;rw[←hjN1]at f1b;clear S2 hx1 hy1 hjN1
     go_wp2_with fail
     go_big_region_o
     clear c1a c1b c1c f1a f1b;generalize((wr.setCell ⟨blk,off+k,none⟩ (enc y1)).setCell ⟨blk,off+jN1,none⟩ (enc x1)).drew=w2 at S3 ⊢;clear ea1 ec1
     go_wp2
     go_roundg (k- 1- i)
     case measure=>omega
     case rel=>
      refine⟨k- 1,swp dk k (k- 1),by go_num,by omega,by omega,y7 _,by rw[size_swp];exact hds,S3,?_⟩;rw[←HE.out];conv=>rhs;rw[kI,if_pos hlt2]
    ·have hltz2:¬(i:Int)<(k:Int):=by omega
     go_wp2_with fail
     (try simp only[Exit.inBlock,Exit.then]);refine bodyPost_ret (results_none rfl _ _ _) rfl ?_
     refine⟨rfl,?_⟩;rw[←HE.out,kI,if_neg hlt2];exact S2.out
end
end B
namespace B
open Go Go.RowKit Go.Shelf Go.Lib Go.Sort
set_option maxRecDepth 1000000
set_option linter.unusedVariables false
noncomputable section
variable {α:Type} [Inhabited α]
def as3 lt f(d:Array α) a m b mid s e(h1:m- a≠1)(h2:b- m≠1)(hmid:mid=(a+b)/2)(hs:s=uX lt d a m b)(he:e=mid+m- s):
 d5 lt (f+1) d a m b=if mid<e∧e<b then d5 lt f (if a<s∧s<mid then d5 lt f (if s<m∧m<e then j5 d s m e else d) a s mid else(if s<m∧m<e then j5 d s m e else d)) mid e b
  else(if a<s∧s<mid then d5 lt f (if s<m∧m<e then j5 d s m e else d) a s mid else(if s<m∧m<e then j5 d s m e else d)):=by
 subst hs;subst hmid;subst he;rw[d5,if_neg h1,if_neg h2]
attribute [local irreducible] j5 d5 in
def as4 (enc:α→Value) (cf:α→α→Int) (g:Nat) (cb:Array Value) (blk off cap:Nat) (d0:Array α) (w0:World)
    (eg:∀ args w,(callFunc g args).run Tryz.prog w=.ok (.enter g args) w) (hcmp:pC Tryz.prog g cb enc cf blk off d0.size w0)
    (R:Row1 enc w0 blk off d0) (hsz:d0.size<4611686018427387904) : ∀ (f:Nat) (d:Array α) (w:World) (a m b:Nat),d0.size=d.size→SX enc w0 blk off d w→a<m→m<b→b≤d.size→b - a≤f →
    Calls Tryz.prog 227 #[.slice (some ⟨blk,off,none⟩) d.size cap,.int .i64 a,.int .i64 m,.int .i64 b,.func (.func g) #[] cb] w fun e w'=>e=.returned (.tuple #[])∧SX enc w0 blk off (d5 (ltOf cf) f d a m b) w':=by
  intro f
  induction f with
  | zero=>intro d w a m b _ _ h1 h2 _ h3;omega
  | succ f ih =>
    intro d w a m b hs S ham hmb hb hf;by_cases hm1 : m - a=1
    · rw[d5,if_pos hm1];exact as1 enc cf g cb blk off cap a m b d0 d w0 w eg hcmp R hs S (by omega) hmb hb (by omega)
    by_cases hb1 : b - m=1
    · rw[d5,if_neg hm1,if_pos hb1];exact as2 enc cf g cb blk off cap a m b d0 d w0 w eg hcmp R hs S ham hm1 (by omega) hb (by omega)
    have mixed:Tryz.prog.follows .mixedOrders=true:=by kernel_rfl
    have hcl0:=R.hO.cells;simp only[Value.cells] at hcl0;have hst:=R.hO.store Tryz.prog;have S0:Aside (SX enc w0 blk off d w):=S;have HC:Aside _:=hcmp
    have hrec:∀ (dk:Array α) (W:World) (x y z:Nat),dk.size=d.size→SX enc w0 blk off dk W→x<y→y<z→z≤d.size→z - x≤f →
        Calls Tryz.prog 227 #[.slice (some ⟨blk,off,none⟩) d.size cap,.int .i64 x,.int .i64 y,.int .i64 z,.func (.func g) #[] cb] W fun e w'=>e=.returned (.tuple #[])∧SX enc w0 blk off (d5 (ltOf cf) f dk x y z) w':=fun dk W x y z h1 h2 h3 h4 h5 h6=>by
      have:=ih dk W x y z (by omega) h2 h3 h4 (by omega) h6;rwa [h1] at this
    have HREC:=Lib.hid hrec;clear S ih hrec;obtain⟨mid,hmid⟩ : ∃ q,q=(a+b) / 2:=⟨_,rfl⟩;obtain⟨s,hsd⟩ : ∃ q,q=uX (ltOf cf) d a m b:=⟨_,rfl⟩;obtain⟨e,hed⟩ : ∃ q,q=mid+m - s:=⟨_,rfl⟩;have HF:=Lib.hid (as3 (ltOf cf) f d a m b mid s e hm1 hb1 hmid hsd hed);obtain⟨lo,hi,hlo⟩ : ∃ lo hi,(mid<m∧lo=mid+m - b∧hi=mid)∨(m≤mid∧lo=a∧hi=m):=by
      by_cases h : mid<m
      · exact⟨_,_,.inl ⟨h,rfl,rfl⟩⟩
      · exact⟨_,_,.inr ⟨by omega,rfl,rfl⟩⟩
    have hss:s=bsL (fun c=>!ltOf cf d[mid+m - 1 - c]! d[c]!) lo hi:=by
      rw[hsd];unfold uX;rw[← hmid];rcases hlo with ⟨h,rfl,rfl⟩ | ⟨h,rfl,rfl⟩
      · rw[if_pos h,if_pos h]
      · rw[if_neg (by omega),if_neg (by omega)]
    have hsb:=uY (fun c=>!ltOf cf d[mid+m - 1 - c]! d[c]!) lo hi (by omega);rw[← hss] at hsb;have g1:((m:Int) - (a:Int) == 1)=false:=by simp;omega
    have g2:((b:Int) - (m:Int) == 1)=false:=by simp;omega
    have HSS:=Lib.hid hss;have HMID:=Lib.hid hmid;have HED:=Lib.hid hed;have hle:lo≤hi:=by omega
    have hlb:∀ c,lo≤c→c<hi→c<d.size∧c+1≤mid+m∧mid+m - 1 - c<d.size:=fun c h1 h2=>by omega
    have LB:=Lib.hid hlb;have he1:mid+m=e+s:=by omega
    have HE1:=Lib.hid he1;clear he1;have eb:((a:Int)+(b:Int)) / 2=(mid:Int):=by omega
    have mb:mid+m<9223372036854775807:=by omega
    have md:mid<d.size:=by omega
    have hib:hi<d.size:=by omega
    have hsz2:d.size<4611686018427387904:=by omega
    clear hss hed hmid hlb hsd;rcases hlo with ⟨hA,hlo,hhi⟩ | ⟨hA,hlo,hhi⟩
    all_goals
      have HLO:=Lib.hid hlo;have HHI:=Lib.hid hhi;clear hlo hhi;have k1:mid<m→((mid:Int)+(m:Int) - (b:Int))=((mid+m - b:Nat):Int):=fun _=>by omega
      first
        | have hAz:(mid:Int)<(m:Int):=by omega
        | have hAz:¬ (mid:Int)<(m:Int):=by omega
      first
        | have hAy:¬ mid<m:=by omega
        | skip
      go_enter Tryz.func227,Tryz.ntmps227
      go_wp2_with fail
      go_loopg [20,21] (hi - lo) (fun kx s20 s21 wr=>∃ (i j:Nat),s20=.int .i64 i∧s21=.int .i64 j∧lo≤i∧i≤j∧j≤hi∧j - i≤kx∧Aside (SX enc w0 blk off d wr)∧bsL (fun c=>!ltOf cf d[mid+m - 1 - c]! d[c]!) i j=s)
      case atStart=>exact⟨lo,hi,by rw[HLO.out],by rw[HHI.out],y7 _,hle,y7 _,y7 _,S0,HSS.out.symm⟩
      case round =>
        clear S0;obtain⟨i,j,rfl,rfl,hmi,hij,hjb,hkx,S1,heq⟩:=hrel;rw[bsL] at heq;have HQ:=Lib.hid heq;clear heq;by_cases hlt : i<j
        · have hltz:(i:Int)<(j:Int):=by omega
          go_wp2_with fail
          obtain⟨k,hk⟩ : ∃ q,q=(i+j) / 2:=⟨_,rfl⟩;have ek:((i:Int)+(j:Int)) / 2=(k:Int):=by omega
          simp only[ek];clear ek;obtain⟨q1,q2,q3⟩:=LB.out k (by omega) (by omega);obtain⟨iN1,hiN1⟩ : ∃ q,q=mid+m - 1 - k:=⟨_,rfl⟩;obtain⟨x1,hx1⟩ : ∃ x,x=d[iN1]!:=⟨_,rfl⟩;obtain⟨y1,hy1⟩ : ∃ x,x=d[k]!:=⟨_,rfl⟩;have ez1:((mid:Int)+(m:Int) - 1 - (k:Int))=(iN1:Int):=by omega
          have ra1:IntKind.i64.wrap ((mid:Int)+(m:Int) - 1 - (k:Int))=(iN1:Int):=by rw[IntKind.wrap_i64];omega
          have rb1:IntKind.i64.wrap (iN1:Int)=(iN1:Int):=by rw[IntKind.wrap_i64];omega
          have ea1:((iN1:Int)).toNat=iN1:=by omega
          have pa1:(0:Int)≤(iN1:Int):=by omega
          have ba1:(iN1:Int)<(d.size:Int):=by omega
          have ec1:((k:Int)).toNat=k:=by omega
          have pc1:(0:Int)≤(k:Int):=by omega
          have bc1:(k:Int)<(d.size:Int):=by omega
          have l1a:=S1.out.cl R (by omega) iN1 (by omega);have l1b:=S1.out.cl R (by omega) k (by omega);rw[← hx1] at l1a;rw[← hy1] at l1b;have hc1:=S1.out.cmp HC.out (by omega) x1 y1;have hlt1:ltOf cf d[mid+m - 1 - k]! d[k]! = decide (cf x1 y1<0):=by rw[← hiN1,hx1,hy1];rfl
          have HL:=Lib.hid hlt1;have HK:=Lib.hid hk;clear hx1 hy1 hlt1 hk hiN1;by_cases hv : cf x1 y1<0
          · have hd1:decide (cf x1 y1<0)=true:=decide_eq_true hv;refine wp_region_quiet_below (by assumption) (by kernel_rfl) ?_
            repeat (quiet_step (first | (go_at_fn g;refine Calls.regrown_of (hc1 _ _))))
            refine wpQuiet_nil ?_;intro _ hw';obtain⟨⟨nq,osq⟩,hw''⟩:=hw';subst hw'';have S2:Aside (SX enc w0 blk off d (grow (redrawn wr nq) osq)):=S1.out.regrown nq osq;clear l1a l1b hc1 S1;generalize grow (redrawn wr nq) osq=w2 at S2 ⊢;clear nq osq
            go_wp2_with fail
            have e1:=HK.out
            go_roundg (k - i)
            case measure=>omega
            case rel=>exact⟨i,k,rfl,rfl,by omega,by omega,by omega,y7 _,S2,by rw[← HQ.out,if_pos hlt,← e1,if_neg (by rw[HL.out,hd1];simp)]⟩
          · have hd1:decide (cf x1 y1<0)=false:=decide_eq_false hv;refine wp_region_quiet_below (by assumption) (by kernel_rfl) ?_
            repeat (quiet_step (first | (go_at_fn g;refine Calls.regrown_of (hc1 _ _))))
            refine wpQuiet_nil ?_;intro _ hw';obtain⟨⟨nq,osq⟩,hw''⟩:=hw';subst hw'';have S2:Aside (SX enc w0 blk off d (grow (redrawn wr nq) osq)):=S1.out.regrown nq osq;clear l1a l1b hc1 S1;generalize grow (redrawn wr nq) osq=w2 at S2 ⊢;clear nq osq
            go_wp2_with fail
            have e1:=HK.out
            go_roundg (j - (k+1))
            case measure=>omega
            case rel=>exact⟨k+1,j,by go_num,rfl,by omega,by omega,by omega,y7 _,S2,by rw[← HQ.out,if_pos hlt,← e1,if_pos (by rw[HL.out,hd1];rfl)]⟩
        · have hltz:¬ (i:Int)<(j:Int):=by omega
          have er:i=s:=by rw[← HQ.out,if_neg hlt]
          clear HQ;subst er;have he1:=HE1.out;have ee:((mid:Int)+(m:Int) - (i:Int))=(e:Int):=by omega
          have heb:e≤b:=by have:=HLO.out;have:=HHI.out;omega
          have hai:a≤i:=by have:=HLO.out;omega
          have him:i≤m:=by have:=HHI.out;omega
          clear he1;rcases yk i m with c1 | c1<;>rcases yk m e with c2 | c2<;>rcases yk a i with c3 | c3<;>rcases yk i mid with c4 | c4<;>rcases yk mid e with c5 | c5<;>rcases yk e b with c6 | c6
          all_goals first
            | (exfalso;have:=HE1.out;have:=HLO.out;have:=HHI.out;omega)
            | skip
          all_goals
            have hff:=HF.out
            first | rw[if_pos (show i<m∧m<e from ⟨by omega,by omega⟩)] at hff | rw[if_neg (show ¬ (i<m∧m<e) by omega)] at hff
            first | rw[if_pos (show a<i∧i<mid from ⟨by omega,by omega⟩)] at hff | rw[if_neg (show ¬ (a<i∧i<mid) by omega)] at hff
            first | rw[if_pos (show mid<e∧e<b from ⟨by omega,by omega⟩)] at hff | rw[if_neg (show ¬ (mid<e∧e<b) by omega)] at hff
            have HFF:=Lib.hid hff;clear hff
            first | have x1:(i:Int)<(m:Int):=by omega | have x1:¬ (i:Int)<(m:Int):=by omega
            first | have x2:(m:Int)<(e:Int):=by omega | have x2:¬ (m:Int)<(e:Int):=by omega
            first | have x3:(a:Int)<(i:Int):=by omega | have x3:¬ (a:Int)<(i:Int):=by omega
            first | have x4:(i:Int)<(mid:Int):=by omega | have x4:¬ (i:Int)<(mid:Int):=by omega
            first | have x5:(mid:Int)<(e:Int):=by omega | have x5:¬ (mid:Int)<(e:Int):=by omega
            first | have x6:(e:Int)<(b:Int):=by omega | have x6:¬ (e:Int)<(b:Int):=by omega
            go_wp2_with (first
              | (go_at_call 244;refine (as0 enc g cb blk off cap i m e d0 d w0 _ R hs S1.out (by omega) (by omega) (by omega) (by omega)).mono ?_;rintro e1 w1 ⟨rfl,T⟩;have S1:=Lib.hid T;clear T)
              | (go_at_call 227
                 refine (HREC.out _ _ _ _ _ ?_ S1.out ?_ ?_ ?_ ?_).mono ?_
                 · first | exact hs.symm | (simp only[aaG,xz])
                 · omega
                 · omega
                 · omega
                 · omega
                 rintro e1 w1 ⟨rfl,T⟩;have S1:=Lib.hid T;clear T)
              | fail)
            go_end0
            exact⟨rfl,by rw[HFF.out];exact S1.out⟩
end
end B
namespace B
open Go Go.Sort
set_option linter.unusedVariables false
section
variable {α:Type}
structure Pre(le:α→α→Bool):Prop where
 trans:∀a b c,le a b=true→le b c=true→le a c=true
 total:∀a b,le a b=true∨le b a=true
def Pre.refl{le}(h:Pre le)(a:α):le a a=true:=(h.total a a).elim id id
def dt(le:α→α→Bool)(l:List α)(x:α):List α:=(l.takeWhile fun y=>le y x)++x::l.dropWhile fun y=>le y x
def bt(le:α→α→Bool)(l:List α):List α:=l.foldl (dt le) []
def eS(le:α→α→Bool)(l:List α):Prop:=l.Pairwise fun a b=>le a b=true
variable {le:α→α→Bool}
def aaI l x:(dt le l x).Perm (x::l):=by
 have e:(l.takeWhile fun y=>le y x)++(l.dropWhile fun y=>le y x)=l:=Gg;unfold dt;refine y3t.trans ?_;rw[e]
def N8(h:Pre le){l}(hs:eS le l) x:∀y∈l.dropWhile (fun y=>le y x),le y x=false:=by
 induction l with
 |nil=>simp
 |cons z r ih=>
  obtain⟨h1,h2⟩:=y2l.1 hs;intro y hy;by_cases hz:le z x=true
  ·rw[Be,if_pos hz]at hy;exact ih h2 y hy
  ·rw[Be,if_neg hz]at hy;rcases yh.1 hy with rfl|hy
   ·simpa using hz
   ·cases hyx:le y x with
    |false=>rfl
    |true=>exact(hz<|h.trans z y x (h1 y hy) hyx).elim
def N9(l:List α) x:∀y∈l.takeWhile (fun y=>le y x),le y x=true:=by
 intro y hy;have:=List.all_takeWhile (p:=fun y=>le y x) (l:=l);exact y1b.1 this y hy
theorem Pre.lt(h:Pre le){a b}(hn:le a b=false):le b a=true:=by
 rcases h.total a b with e|e
 ·rw[hn]at e;simp at e
 ·exact e
def aaJ(h:Pre le){l}(hs:eS le l) x:eS le (dt le l x):=by
 have e:(l.takeWhile fun y=>le y x)++(l.dropWhile fun y=>le y x)=l:=Gg;have hs':=hs;unfold eS at hs';rw[←e]at hs';obtain⟨t1,t2,t3⟩:=y25.1 hs';have hd:=N8 h hs x;have ht:=N9 (le:=le) l x;unfold dt eS;refine y25.2 ⟨t1,y2l.2 ⟨fun y hy=>h.lt<|hd y hy,t2⟩,fun a ha b hb=>?_⟩;rcases yh.1 hb with rfl|hb
 ·exact ht a ha
 ·exact t3 a ha b hb
def Oa(h:Pre le):∀(l s:List α),eS le s→eS le (l.foldl (dt le) s)∧(l.foldl (dt le) s).Perm (l++s)
 |[],s,hs=>⟨hs,List.Perm.refl _⟩
 |x::l,s,hs=>by
  obtain⟨h1,h2⟩:=Oa h l (dt le s x)<|aaJ h hs x;exact⟨h1,h2.trans<|((aaI s x).append_left l).trans y3t⟩
def xA(h:Pre le) l:eS le (bt le l):=(Oa h l [] List.Pairwise.nil).1
def aaK(h:Pre le) l:(bt le l).Perm l:=by
 have:=(Oa h l [] List.Pairwise.nil).2;rw[de]at this;exact this
def kK(h:Pre le) l:(bt le l).length=l.length:=(aaK h l).length_eq
def aaL l x:bt le (l++[x])=dt le (bt le l) x:=by unfold bt;rw[nP];rfl
def as5:∀(n:Nat)(A1 A2 B1 B2:List α),A1.length+B1.length=n→(∀x∈A1,∀y∈B2,le x y=true)→(∀y∈B1,∀x∈A2,le x y=false)→(A1++A2).merge (B1++B2) le=A1.merge B1 le++A2.merge B2 le:=by
 intro n
 induction n with
 |zero=>
  intro A1 A2 B1 B2 hn _ _;obtain rfl:A1=[]:=yx (by omega);obtain rfl:B1=[]:=yx (by omega);simp
 |succ n ih=>
  intro A1 A2 B1 B2 hn h1 h2;cases A1 with
  |nil=>
   cases B1 with
   |nil=>simp at hn
   |cons b B1=>
    have e:=ih [] A2 B1 B2 (by simp at hn ⊢;omega) (by simp) (fun y hy x hx=>h2 y (cV _ hy) x hx);cases A2 with
    |nil=>simp
    |cons x A2=>
     have hb:=h2 b cP x cP;simp only[yr,eT,Bg]at e ⊢;rw[Gs,if_neg (by rw[hb];simp),e]
  |cons a A1=>
   cases B1 with
   |nil=>
    have e:=ih A1 A2 [] B2 (by simp at hn ⊢;omega) (fun x hx y hy=>h1 x (cV _ hx) y hy) (by simp);cases B2 with
    |nil=>simp
    |cons y B2=>
     have hb:=h1 a cP y cP;simp only[yr,eT,Bh]at e ⊢;rw[Gs,if_pos hb,e]
   |cons b B1=>
    simp only[eT];rw[Gs,Gs];by_cases hab:le a b=true
    ·rw[if_pos hab,if_pos hab];have e:=ih A1 A2 (b::B1) B2 (by simp at hn ⊢;omega) (fun x hx y hy=>h1 x (cV _ hx) y hy) h2;rw[←eT (a:=b),e];rfl
    ·rw[if_neg hab,if_neg hab];have e:=ih (a::A1) A2 B1 B2 (by simp at hn ⊢;omega) h1 (fun y hy x hx=>h2 y (cV _ hy) x hx);rw[←eT (a:=a),e];rfl
def qM{A1 A2 B1 B2:List α}(h1:∀x∈A1,∀y∈B2,le x y=true)(h2:∀y∈B1,∀x∈A2,le x y=false):(A1++A2).merge (B1++B2) le=A1.merge B1 le++A2.merge B2 le:=as5 _ _ _ _ _ rfl h1 h2
def as6(h:Pre le){A B}(hA:eS le A)(hB:eS le B) y:A.merge (dt le B y) le=dt le (A.merge B le) y:=by
 have eA:(A.takeWhile fun z=>le z y)++(A.dropWhile fun z=>le z y)=A:=Gg;have eB:(B.takeWhile fun z=>le z y)++(B.dropWhile fun z=>le z y)=B:=Gg;have a1:=N9 (le:=le) A y;have b1:=N9 (le:=le) B y;have a2:=N8 h hA y;have b2:=N8 h hB y;generalize(A.takeWhile fun z=>le z y)=A1 at eA a1;generalize(A.dropWhile fun z=>le z y)=A2 at eA a2;unfold dt;generalize(B.takeWhile fun z=>le z y)=B1 at eB b1 ⊢;generalize(B.dropWhile fun z=>le z y)=B2 at eB b2 ⊢;have h12:∀x∈A1,∀z∈B2,le x z=true:=fun x hx z hz=>h.trans x y z (a1 x hx) (h.lt (b2 z hz));have h21:∀z∈B1,∀x∈A2,le x z=false:=fun z hz x hx=>by
  cases e:le x z with
  |false=>rfl
  |true=>have:=h.trans x z y e (b1 z hz);rw[a2 x hx]at this;simp at this
 have m1:A.merge B le=A1.merge B1 le++A2.merge B2 le:=by rw[←eA,←eB];exact qM h12 h21
 have m2:A.merge (B1++y::B2) le=A1.merge B1 le++y::A2.merge B2 le:=by
  have e1:A.merge (B1++y::B2) le=A1.merge (B1++[y]) le++A2.merge B2 le:=by
   rw[←eA,show B1++y::B2=(B1++[y])++B2 by simp];refine qM h12 fun z hz x hx=>?_;rcases ye.1 hz with hz|hz
   ·exact h21 z hz x hx
   ·rw[yl]at hz;subst hz;exact a2 x hx
  have e2:A1.merge (B1++[y]) le=A1.merge B1 le++[y]:=by
   have:=qM (le:=le) (A1:=A1) (A2:=[]) (B1:=B1) (B2:=[y]) (fun x hx z hz=>by rw[yl]at hz;subst hz;exact a1 x hx) (by simp);rw[de,Bg]at this;exact this
  rw[e1,e2];simp
 have hm1:∀z∈A1.merge B1 le,le z y=true:=fun z hz=>by
  rcases List.mem_merge.1 hz with hz|hz
  ·exact a1 z hz
  ·exact b1 z hz
 have hm2:∀z∈A2.merge B2 le,le z y=false:=fun z hz=>by
  rcases List.mem_merge.1 hz with hz|hz
  ·exact a2 z hz
  ·exact b2 z hz
 rw[m2,m1];generalize A1.merge B1 le=M1 at hm1;generalize A2.merge B2 le=M2 at hm2;have t1:(M1++M2).takeWhile (fun z=>le z y)=M1:=by
  rw[y4r hm1];cases M2 with
  |nil=>simp
  |cons z M2=>rw[vw,if_neg (by rw[hm2 z cP];simp)];simp
 have t2:(M1++M2).dropWhile (fun z=>le z y)=M2:=by
  rw[y4s hm1];cases M2 with
  |nil=>simp
  |cons z M2=>rw[Be,if_neg (by rw[hm2 z cP];simp)]
 rw[t1,t2]
def as7{P:List α→Prop}(h0:P [])(h1:∀l x,P l→P (l++[x])):∀l,P l:=by
 intro l;have:∀n(l:List α),l.length=n→P l:=by
  intro n
  induction n with
  |zero=>intro l hl;rw[yx hl];exact h0
  |succ n ih=>
   intro l hl;rcases Qa l with rfl|⟨r,x,rfl⟩
   ·exact h0
   ·rw[Qb]at hl ⊢;exact h1 r x<|ih r<|by simpa using hl
 exact this _ l rfl
def aaM(h:Pre le) X Y:(bt le X).merge (bt le Y) le=bt le (X++Y):=by
 refine as7 (P:=fun Y=>(bt le X).merge (bt le Y) le=bt le (X++Y)) ?_ ?_ Y
 ·show(bt le X).merge [] le=_;rw[Bh,de]
 ·intro Y y ih;rw[aaL,as6 h (xA h X)<|xA h Y,ih,←yw,aaL]
end
end B
namespace B
open Go Go.Sort
set_option linter.unusedVariables false
section
variable {α:Type} [Inhabited α]
def m7{d:Array α}{P Q x}(h:d.toList=P++x::Q){i}(hi:i=P.length):d[i]! =x:=by
 subst hi;have hl:P.length<d.size:=by rw[←iz,h];simp
 rw[getElem!_pos d _ hl,←Array.getElem_toList hl,List.getElem_of_eq h];simp
omit [Inhabited α] in
theorem Fv(x y:α):∀(P Q:List α),(P++x::Q).set P.length y=P++y::Q
 |[],Q=>rfl
 |a::P,Q=>by simp[Fv x y P Q]
omit [Inhabited α] in
def aaN(x y:α)(P M Q:List α)(z:α):(P++z::(M++x::Q)).set (P.length+1+M.length) y=P++z::(M++y::Q):=by
 have:=Fv x y (P++z::M) Q;rw[yb,yz,yw,eT,yw,eT]at this;rw[show P.length+1+M.length=P.length+(M.length+1) by omega];exact this
def aaO{d P M Q}{x y:α}(h:d.toList=P++x::(M++y::Q)){i j}(hi:i=P.length)(hj:j=P.length+1+M.length):(swp d i j).toList=P++y::(M++x::Q):=by
 have hx:d[i]! =x:=m7 h hi;have hy:d[j]! =y:=m7 (P:=P++x::M) (Q:=Q) (by rw[h];simp) (by simp[hj];omega);unfold swp;rw[hx,hy,vu,vu,h,hi,hj,Fv,aaN]
def aaP{d P M Q}{x y:α}(h:d.toList=P++x::(M++y::Q)){i j}(hi:i=P.length)(hj:j=P.length+1+M.length):(swp d j i).toList=P++y::(M++x::Q):=by
 have hx:d[i]! =x:=m7 h hi;have hy:d[j]! =y:=m7 (P:=P++x::M) (Q:=Q) (by rw[h];simp) (by simp[hj];omega);unfold swp;rw[hx,hy,vu,vu,h,hi,hj,aaN,Fv]
def Fw:∀(n:Nat)(d:Array α)(P A M B Q:List α)(a b:Nat),A.length=n→B.length=n→a=P.length→b=P.length+n+M.length→d.toList=P++(A++(M++(B++Q)))→(gy d a b n).toList=P++(B++(M++(A++Q)))
 |0,d,P,A,M,B,Q,a,b,hA,hB,_,_,h=>by
  rw[yx hA,yx hB]at h ⊢;exact h
 |n+1,d,P,A,M,B,Q,a,b,hA,hB,ha,hb,h=>by
  cases A with
  |nil=>simp at hA
  |cons x A=>
   cases B with
   |nil=>simp at hB
   |cons y B=>
    have s:=aaO (d:=d) (P:=P) (M:=A++M) (Q:=B++Q) (x:=x) (y:=y) (by rw[h];simp) (i:=a) (j:=b) ha (by simp at hA ⊢;omega);have:=Fw n (swp d a b) (P++[y]) A (M++[x]) B Q (a+1) (b+1) (by simpa using hA) (by simpa using hB) (by simp[ha]) (by simp at hA ⊢;omega) (by rw[s];simp);rw[gy,this];simp
def Oc:∀(f:Nat)(d:Array α)(P A B Q:List α)(m i j:Nat),A.length=i→B.length=j→0<i→0<j→i+j≤f→m=P.length+i→d.toList=P++(A++(B++Q))→(l9 f d m i j).toList=P++(B++(A++Q))
 |0,_,_,_,_,_,_,_,_,_,_,h1,_,h2,_,_=>by omega
 |f+1,d,P,A,B,Q,m,i,j,hA,hB,hi,hj,hf,hm,h=>by
  rw[l9];by_cases e:i=j
  ·rw[if_pos e];exact Fw i d P A [] B Q _ _ hA (by omega) (by omega) (by simp;omega) h
  ·rw[if_neg e];by_cases l:j<i
   ·rw[if_pos l];have eA:=iB j A;have s:=Fw j d P (A.take j) (A.drop j) B Q (m- i) m (by rw[yn];omega) hB (by omega) (by rw[yt];omega) (by rw[h,←yw (A.take j),eA]);have:=Oc f (gy d (m- i) m j) (P++B) (A.drop j) (A.take j) Q m (i- j) j (by rw[yt];omega) (by rw[yn];omega) (by omega) hj (by omega) (by rw[yb];omega) (by rw[s];simp);rw[this,yw,←yw (A.take j),eA]
   ·rw[if_neg l];have eB:=iB (j- i) B;have s:=Fw i d P A (B.take (j- i)) (B.drop (j- i)) Q (m- i) (m+j- i) hA (by rw[yt];omega) (by omega) (by rw[yn];omega) (by rw[h,←yw (B.take (j- i)),eB]);have:=Oc f (gy d (m- i) (m+j- i) i) P (B.drop (j- i)) (B.take (j- i)) (A++Q) m i (j- i) (by rw[yt];omega) (by rw[yn];omega) hi (by omega) (by omega) hm (by rw[s]);rw[this,←yw (B.take (j- i)),eB]
def as8{d}{P A B Q:List α}{a m b}(ha:a=P.length)(hm:m=P.length+A.length)(hb:b=P.length+A.length+B.length)(hA:0<A.length)(hB:0<B.length)(h:d.toList=P++(A++(B++Q))):(j5 d a m b).toList=P++(B++(A++Q)):=by
 unfold j5;exact Oc _ d P A B Q m _ _ (by omega) (by omega) (by omega) (by omega) (by omega) (by omega) h
def aaQ:∀(L:List α)(d:Array α)(P Q:List α)(x:α)(k e:Nat),k=P.length→e=P.length+L.length→d.toList=P++x::(L++Q)→(kH d k e).toList=P++(L++x::Q)
 |[],d,P,Q,x,k,e,hk,he,h=>by
  rw[kH,if_neg (by simp at he;omega)];exact h
 |y::L,d,P,Q,x,k,e,hk,he,h=>by
  have s:=aaO (d:=d) (P:=P) (M:=[]) (Q:=L++Q) (x:=x) (y:=y) (by rw[h];simp) (i:=k) (j:=k+1) hk (by simp[hk]);have:=aaQ L (swp d k (k+1)) (P++[y]) Q x (k+1) e (by simp[hk]) (by simp at he ⊢;omega) (by rw[s];simp);rw[kH,if_pos (by simp at he;omega),this];simp
def aaR:∀(n:Nat)(L:List α)(d:Array α)(P Q:List α)(x:α)(k i:Nat),L.length=n→i=P.length→k=P.length+L.length→d.toList=P++(L++x::Q)→(kI d k i).toList=P++x::(L++Q)
 |0,L,d,P,Q,x,k,i,hn,hi,hk,h=>by
  rw[yx hn]at h ⊢;rw[kI,if_neg<|by omega];exact h
 |n+1,L,d,P,Q,x,k,i,hn,hi,hk,h=>by
  rcases Qa L with rfl|⟨L',y,rfl⟩
  ·simp at hn
  rw[Qb]at*;simp at hn hk;have s:=aaP (d:=d) (P:=P++L') (M:=[]) (Q:=Q) (x:=y) (y:=x) (by rw[h];simp) (i:=k- 1) (j:=k) (by simp;omega) (by simp;omega);have:=aaR n L' (swp d k<|k- 1) P (y::Q) x (k- 1) i hn hi (by omega) (by rw[s];simp);rw[kI,if_pos<|by omega,this];simp
def Od p i j(h:i≤j)(hm:∀k k',i≤k→k≤k'→k'<j→p k'=true→p k=true):(∀k,i≤k→k<bsL p i j→p k=true)∧∀k,bsL p i j≤k→k<j→p k=false:=by
 fun_induction bsL p i j with
 |case1 i j hlt hp ih=>
  obtain⟨h1,h2⟩:=ih (by omega) fun k k' a b c d=>hm k k' (by omega) b c d;refine⟨fun k a b=>?_,h2⟩;by_cases e:k≤(i+j)/2
  ·exact hm k _ a e (by omega) hp
  ·exact h1 k (by omega) b
 |case2 i j hlt hp ih=>
  obtain⟨h1,h2⟩:=ih (by omega) fun k k' a b c d=>hm k k' a b (by omega) d;refine⟨h1,fun k a b=>?_⟩;by_cases e:k<(i+j)/2
  ·exact h2 k a e
  ·cases hk:p k with
   |false=>rfl
   |true=>exact(hp<|hm _ k (by omega) (by omega) b hk).elim
 |case3 i j hlt=>exact⟨fun k a b=>by omega,fun k a b=>by omega⟩
def aaS{le}{d:Array α}{P A Q}(hs:eS le A)(hr:∀a,le a a=true)(h:d.toList=P++(A++Q)){i j}(hi:P.length≤i)(hij:i≤j)(hj:j<P.length+A.length):le d[i]! d[j]! =true:=by
 have g:∀k,(hk:k<A.length)→d[P.length+k]! =A[k]:=fun k hk=>by
  have e:A=A.take k++A[k]::A.drop (k+1):=by rw[←fR hk,iB]
  refine m7 (P:=P++A.take k) (Q:=A.drop (k+1)++Q) ?_ (by rw[yb,yn];omega);rw[h,yw,show A.take k++A[k]::(A.drop (k+1)++Q)=(A.take k++A[k]::A.drop (k+1))++Q by rw[yw,eT],←e]
 obtain⟨a,rfl⟩:∃a,i=P.length+a:=⟨i- P.length,by omega⟩;obtain⟨b,rfl⟩:∃b,j=P.length+b:=⟨j- P.length,by omega⟩;rw[g a<|by omega,g b<|by omega];by_cases e:a=b
 ·subst e;exact hr _
 ·exact y3i.1 hs a b (by omega) (by omega)<|by omega
def qN{d:Array α}{P A Q}(h:d.toList=P++(A++Q)){x}(hx:x∈A):∃i,P.length≤i∧i<P.length+A.length∧d[i]! =x:=by
 obtain⟨k,hk,rfl⟩:=List.mem_iff_getElem.1 hx;have e:A=A.take k++A[k]::A.drop (k+1):=by rw[←fR hk,iB]
 refine⟨P.length+k,by omega,by omega,m7 (P:=P++A.take k) (Q:=A.drop (k+1)++Q) ?_ (by rw[yb,yn];omega)⟩;rw[h,yw,show A.take k++A[k]::(A.drop (k+1)++Q)=(A.take k++A[k]::A.drop (k+1))++Q by rw[yw,eT],←e]
end
end B
namespace B
open Go Go.Sort
set_option linter.unusedVariables false
section
variable {α:Type} [Inhabited α]
omit [Inhabited α] in
def as9{le:α→α→Bool}{x:α}{B1 B2:List α}(h1:∀y∈B1,le x y=false)(h2:∀y∈B2,le x y=true):[x].merge (B1++B2) le=B1++x::B2:=by
 have e1:=qM (le:=le) (A1:=[]) (A2:=[x]) (B1:=B1) (B2:=B2) (by simp) (fun y hy z hz=>by rw[yl]at hz;subst hz;exact h1 y hy);have e2:=qM (le:=le) (A1:=[x]) (A2:=[]) (B1:=[]) (B2:=B2) (fun z hz y hy=>by rw[yl]at hz;subst hz;exact h2 y hy) (by simp);rw[yr,Bg]at e1;rw[de,yr,Bh,Bg]at e2;rw[e1,e2];rfl
omit [Inhabited α] in
def ata{le:α→α→Bool}{y:α}{A1 A2:List α}(h1:∀x∈A1,le x y=true)(h2:∀x∈A2,le x y=false):(A1++A2).merge [y] le=A1++y::A2:=by
 have e1:=qM (le:=le) (A1:=A1) (A2:=A2) (B1:=[]) (B2:=[y]) (fun x hx z hz=>by rw[yl]at hz;subst hz;exact h1 x hx) (by simp);have e2:=qM (le:=le) (A1:=[]) (A2:=A2) (B1:=[y]) (B2:=[]) (by simp) (fun z hz x hx=>by rw[yl]at hz;subst hz;exact h2 x hx);rw[yr,Bh]at e1;rw[de,yr,Bh,Bg]at e2;rw[e1,e2];rfl
def aaT{lt le}(hle:∀x y,le x y=!lt y x)(h:Pre le):∀(f:Nat)(d:Array α)(P A B Q:List α)(a m b:Nat),a=P.length→m=P.length+A.length→b=P.length+A.length+B.length→0<A.length→0<B.length→b- a≤f→
 eS le A→eS le B→d.toList=P++(A++(B++Q))→(d5 lt f d a m b).toList=P++(A.merge B le++Q):=by
 intro f
 induction f with
 |zero=>intro d P A B Q a m b _ _ _ h1 h2 h3;omega
 |succ f ih=>
  intro d P A B Q a m b ha hm hb hA0 hB0 hf sA sB hd;have ltle:∀x y,lt x y=!le y x:=fun x y=>by rw[hle];simp
  have hdB:d.toList=(P++A)++(B++Q):=by rw[hd,yw]
  have hPA:(P++A).length=m:=by rw[yb];omega
  have oA:∀i j,a≤i→i≤j→j<m→le d[i]! d[j]! =true:=fun i j h1 h2 h3=>aaS sA h.refl hd (by omega) h2 (by omega);have oB:∀i j,m≤i→i≤j→j<b→le d[i]! d[j]! =true:=fun i j h1 h2 h3=>aaS sB h.refl hdB (by omega) h2 (by omega);rw[d5];by_cases c1:m- a=1
  ·rw[if_pos c1];obtain⟨x,rfl⟩:∃x,A=[x]:=y4t.1 (by omega);have hx:d[a]! =x:=m7 (Q:=B++Q) (by rw[hd];rfl) ha;obtain⟨q1,q2⟩:=Od (fun h=>lt d[h]! d[a]!) m b (by omega) fun k k' u1 u2 u3 u4=>by
    simp only[ltle]at u4 ⊢;cases e:le d[a]! d[k]! with
    |false=>rfl
    |true=>rw[h.trans _ _ _ e (oB k k' u1 u2 u3)]at u4;simp at u4
   obtain⟨b1,b2⟩:=uY (fun h=>lt d[h]! d[a]!) m b (by omega);generalize bsL (fun h=>lt d[h]! d[a]!) m b=r at q1 q2 b1 b2 ⊢;have eB:=iB (r- m) B;have lB:(B.take (r- m)).length=r- m:=by rw[yn];omega
   have lB2:(B.drop (r- m)).length=b- r:=by rw[yt];omega
   generalize B.take (r- m)=B1 at eB lB;generalize B.drop (r- m)=B2 at eB lB2;subst eB;rw[aaQ B1 d P (B2++Q) x a (r- 1) ha (by simp at hm;omega) (by rw[hd];simp)];rw[as9]
   ·simp
   ·intro y hy;obtain⟨i,i1,i2,rfl⟩:=qN (P:=P++[x]) (A:=B1) (Q:=B2++Q) (by rw[hd];simp) hy;have:=q1 i (by omega) (by omega);simpa[hx,ltle]using this
   ·intro y hy;obtain⟨i,i1,i2,rfl⟩:=qN (P:=P++[x]++B1) (A:=B2) (Q:=Q) (by rw[hd];simp) hy;have i3:(P++[x]++B1).length=r:=by simp;simp at hm;omega
    have:=q2 i (by omega) (by omega);simpa[hx,ltle]using this
  rw[if_neg c1];by_cases c2:b- m=1
  ·rw[if_pos c2];obtain⟨y,rfl⟩:∃y,B=[y]:=y4t.1 (by omega);have hy:d[m]! =y:=m7 (P:=P++A) (Q:=Q) (by rw[hdB];rfl) hPA.symm;obtain⟨q1,q2⟩:=Od (fun h=>!lt d[m]! d[h]!) a m (by omega) fun k k' u1 u2 u3 u4=>by
    simp only[ltle,Qc]at u4 ⊢;exact h.trans _ _ _ (oA k k' u1 u2 u3) u4
   obtain⟨b1,b2⟩:=uY (fun h=>!lt d[m]! d[h]!) a m (by omega);generalize bsL (fun h=>!lt d[m]! d[h]!) a m=r at q1 q2 b1 b2 ⊢;have eA:=iB (r- a) A;have lA:(A.take (r- a)).length=r- a:=by rw[yn];omega
   have lA2:(A.drop (r- a)).length=m- r:=by rw[yt];omega
   generalize A.take (r- a)=A1 at eA lA;generalize A.drop (r- a)=A2 at eA lA2;subst eA;rw[aaR _ A2 d (P++A1) Q y m r rfl (by simp;omega) (by simp;omega) (by rw[hd];simp)];rw[ata]
   ·simp
   ·intro x hx;obtain⟨i,i1,i2,rfl⟩:=qN (P:=P) (A:=A1) (Q:=A2++([y]++Q)) (by rw[hd];simp) hx;have:=q1 i (by omega) (by omega);simpa[hy,ltle]using this
   ·intro x hx;obtain⟨i,i1,i2,rfl⟩:=qN (P:=P++A1) (A:=A2) (Q:=[y]++Q) (by rw[hd];simp) hx;have i3:(P++A1).length=r:=by simp;omega
    have:=q2 i (by omega) (by omega);simpa[hy,ltle]using this
  rw[if_neg c2];simp only;obtain⟨mid,hmid⟩:∃q,q=(a+b)/2:=⟨_,rfl⟩;rw[←hmid];obtain⟨lo,hi,hlo⟩:∃lo hi,(mid<m∧lo=mid+m- b∧hi=mid)∨(m≤mid∧lo=a∧hi=m):=by
   by_cases h:mid<m
   ·exact⟨_,_,.inl ⟨h,rfl,rfl⟩⟩
   ·exact⟨_,_,.inr ⟨by omega,rfl,rfl⟩⟩
  have hss:uX lt d a m b=bsL (fun c=>!lt d[mid+m- 1- c]! d[c]!) lo hi:=by
   unfold uX;rw[←hmid];rcases hlo with⟨h,rfl,rfl⟩|⟨h,rfl,rfl⟩
   ·rw[if_pos h,if_pos h]
   ·rw[if_neg (by omega),if_neg (by omega)]
  rw[hss];have hloa:a≤lo:=by omega
  have hhim:hi≤m:=by omega
  have hidx:∀c,lo≤c→c<hi→m≤mid+m- 1- c∧mid+m- 1- c<b:=fun c h1 h2=>by omega
  obtain⟨q1,q2⟩:=Od (fun c=>!lt d[mid+m- 1- c]! d[c]!) lo hi (by omega) fun k k' u1 u2 u3 u4=>by
   simp only[ltle,Qc]at u4 ⊢;have i1:=hidx k u1 (by omega);have i2:=hidx k' (by omega) u3;exact h.trans _ _ _ (oA k k' (by omega) u2 (by omega)) (h.trans _ _ _ u4 (oB _ _ i2.1 (by omega) i1.2))
  obtain⟨b1,b2⟩:=uY (fun c=>!lt d[mid+m- 1- c]! d[c]!) lo hi (by omega);generalize bsL (fun c=>!lt d[mid+m- 1- c]! d[c]!) lo hi=s at q1 q2 b1 b2 ⊢;simp only[ltle,Qc]at q1 q2;obtain⟨e,he⟩:∃e,e=mid+m- s:=⟨_,rfl⟩;rw[←he];have hes:mid+m=e+s:=by omega
  have hem:m≤e:=by omega
  have heb:e≤b:=by omega
  have eA:=iB (s- a) A;have lA:(A.take (s- a)).length=s- a:=by rw[yn];omega
  have lA2:(A.drop (s- a)).length=m- s:=by rw[yt];omega
  have eB:=iB (e- m) B;have lB:(B.take (e- m)).length=e- m:=by rw[yn];omega
  have lB2:(B.drop (e- m)).length=b- e:=by rw[yt];omega
  generalize A.take (s- a)=A1 at eA lA;generalize A.drop (s- a)=A2 at eA lA2;generalize B.take (e- m)=B1 at eB lB;generalize B.drop (e- m)=B2 at eB lB2;subst eA;subst eB;have iA1:∀x∈A1,∃i,a≤i∧i<s∧d[i]! =x:=fun x hx=>by
   obtain⟨i,i1,i2,e⟩:=qN (P:=P) (A:=A1) (Q:=A2++((B1++B2)++Q)) (by rw[hd];simp) hx;exact⟨i,by omega,by omega,e⟩
  have iA2:∀x∈A2,∃i,s≤i∧i<m∧d[i]! =x:=fun x hx=>by
   obtain⟨i,i1,i2,e⟩:=qN (P:=P++A1) (A:=A2) (Q:=(B1++B2)++Q) (by rw[hd];simp) hx;rw[yb]at i1 i2;exact⟨i,by omega,by omega,e⟩
  have iB1:∀x∈B1,∃i,m≤i∧i<e∧d[i]! =x:=fun x hx=>by
   obtain⟨i,i1,i2,e⟩:=qN (P:=P++(A1++A2)) (A:=B1) (Q:=B2++Q) (by rw[hd];simp) hx;rw[hPA]at i1 i2;exact⟨i,by omega,by omega,e⟩
  have iB2:∀x∈B2,∃i,e≤i∧i<b∧d[i]! =x:=fun x hx=>by
   obtain⟨i,i1,i2,e⟩:=qN (P:=P++(A1++A2)++B1) (A:=B2) (Q:=Q) (by rw[hd];simp) hx;rw[yb,hPA]at i1 i2;exact⟨i,by omega,by omega,e⟩
  have h12:∀x∈A1,∀y∈B2,le x y=true:=fun x hx y hy=>by
   obtain⟨i,i1,i2,rfl⟩:=iA1 x hx;obtain⟨j,j1,j2,rfl⟩:=iB2 y hy;have hc:lo<s:=by omega
   have hq:=q1 (s- 1) (by omega) (by omega);rw[show mid+m- 1- (s- 1)=e by omega]at hq;exact h.trans _ _ _ (oA i (s- 1) i1 (by omega) (by omega)) (h.trans _ _ _ hq (oB e j hem j1 j2))
  have h21:∀y∈B1,∀x∈A2,le x y=false:=fun y hy x hx=>by
   obtain⟨i,i1,i2,rfl⟩:=iA2 x hx;obtain⟨j,j1,j2,rfl⟩:=iB1 y hy;have hq:=q2 s (y7 _) (by omega);rw[show mid+m- 1- s=e- 1 by omega]at hq;cases hxy:le d[i]! d[j]! with
   |false=>rfl
   |true=>
    have:=h.trans _ _ _ (oA s i (by omega) i1 i2) (h.trans _ _ _ hxy (oB j (e- 1) j1 (by omega) (by omega)));rw[hq]at this;simp at this
  rw[qM h12 h21];have sA1:eS le A1:=(y25.1 sA).1;have sA2:eS le A2:=(y25.1 sA).2.1;have sB1:eS le B1:=(y25.1 sB).1;have sB2:eS le B2:=(y25.1 sB).2.1;obtain⟨d1,hd1⟩:∃d1,d1=(if s<m∧m<e then j5 d s m e else d):=⟨_,rfl⟩;rw[←hd1];have t1:d1.toList=P++(A1++(B1++(A2++(B2++Q)))):=by
   rw[hd1];by_cases c:s<m∧m<e
   ·rw[if_pos c,as8 (P:=P++A1) (A:=A2) (B:=B1) (Q:=B2++Q) (by simp;omega) (by simp;omega) (by simp;omega) (by omega) (by omega) (by rw[hd];simp)];simp
   ·rw[if_neg c,hd];by_cases c3:s<m
    ·rw[yx (l:=B1) (by omega)];simp
    ·rw[yx (l:=A2) (by omega)];simp
  clear hd1;obtain⟨d2,hd2⟩:∃d2,d2=(if a<s∧s<mid then d5 lt f d1 a s mid else d1):=⟨_,rfl⟩;rw[←hd2];have t2:d2.toList=P++(A1.merge B1 le++(A2++(B2++Q))):=by
   rw[hd2];by_cases c:a<s∧s<mid
   ·rw[if_pos c,ih d1 P A1 B1 (A2++(B2++Q)) a s mid ha (by omega) (by omega) (by omega) (by omega) (by omega) sA1 sB1 t1]
   ·rw[if_neg c,t1];by_cases c3:a<s
    ·rw[yx (l:=B1) (by omega)];simp
    ·rw[yx (l:=A1) (by omega)];simp
  clear hd2;have hml:(A1.merge B1 le).length=A1.length+B1.length:=List.length_merge le A1 B1;by_cases c:mid<e∧e<b
  ·rw[if_pos c,ih d2 (P++A1.merge B1 le) A2 B2 Q mid e b (by rw[yb];omega) (by rw[yb];omega) (by rw[yb];omega) (by omega) (by omega) (by omega) sA2 sB2 (by rw[t2];simp)];simp
  ·rw[if_neg c,t2];by_cases c3:mid<e
   ·rw[yx (l:=B2) (by omega)];simp
   ·rw[yx (l:=A2) (by omega)];simp
end
end B
namespace B
open Go Go.Sort
set_option linter.unusedVariables false
section
variable {α:Type} [Inhabited α]
def aaU{lt le}(hle:∀x y,le x y=!lt y x)(h:Pre le):∀(n:Nat)(S:List α)(d:Array α)(P Q:List α)(x:α)(a j:Nat),S.length=n→eS le S→a=P.length→j=P.length+S.length→d.toList=P++(S++x::Q)→(insInner lt a j d).toList=P++(dt le S x++Q)
 |0,S,d,P,Q,x,a,j,hn,hS,ha,hj,hd=>by
  rw[yx hn]at hd ⊢;have:j=a:=by omega
  subst this;have e:insInner lt j j d=d:=by
   cases j with
   |zero=>rfl
   |succ j=>simp[insInner]
  rw[e,hd];rfl
 |n+1,S,d,P,Q,x,a,j,hn,hS,ha,hj,hd=>by
  rcases Qa S with rfl|⟨S',y,rfl⟩
  ·grind
  rw[Qb]at*;simp at hn;have hj':j=(P.length+S'.length)+1:=by grind
  subst hj';have hy:d[P.length+S'.length]! =y:=m7 (P:=P++S') (Q:=x::Q) (by grind) (by simp);have hx:d[P.length+S'.length+1]! =x:=m7 (P:=P++(S'++[y])) (Q:=Q) (by grind) (by grind);have hS':eS le S':=(y25.1 hS).1;rw[insInner,hx,hy];have ga:decide (P.length+S'.length+1>a)=true:=decide_eq_true (by omega);rw[ga,dQ];by_cases c:lt x y=true
  ·rw[if_pos c];have s:=aaP (d:=d) (P:=P++S') (M:=[]) (Q:=Q) (x:=y) (y:=x) (by grind) (i:=P.length+S'.length) (j:=P.length+S'.length+1) (by simp) (by simp);rw[aaU hle h n S' _ P (y::Q) x a (P.length+S'.length) hn hS' ha rfl (by grind)];unfold dt;have e1:(S'++[y]).takeWhile (fun z=>le z x)=S'.takeWhile fun z=>le z x:=by
    rw[List.takeWhile_append];split
    ·rename_i hl;rw[vw,if_neg (by grind),de];exact((List.takeWhile_prefix _).eq_of_length hl).symm
    rfl
   have e2:(S'++[y]).dropWhile (fun z=>le z x)=S'.dropWhile (fun z=>le z x)++[y]:=by
    simp_all[List.dropWhile_append,List.isEmpty_iff,Be,if_neg]
   grind
  ·have hyx:le y x=true:=by grind
   have hall:∀z∈S'++[y],le z x=true:=fun z hz=>by
    rcases ye.1 hz with hz|hz
    ·exact h.trans z y x ((y25.1 hS).2.2 z hz y (by simp)) hyx
    grind
   simp_all[dt,y4r,de,List.takeWhile_nil,y4s,List.dropWhile_nil]
def aaV{lt le}(hle:∀x y,le x y=!lt y x)(h:Pre le):∀(R S:List α)(d:Array α)(P Q:List α)(a b i:Nat),eS le S→a=P.length→i=P.length+S.length→b=P.length+S.length+R.length→d.toList=P++(S++(R++Q))→(insOuter lt a b i d).toList=P++(R.foldl (dt le) S++Q)
 |[],S,d,P,Q,a,b,i,hS,ha,hi,hb,hd=>by
  simp_all[insOuter,if_neg]
 |x::R,S,d,P,Q,a,b,i,hS,ha,hi,hb,hd=>by
  rw[insOuter,if_pos (by grind)];have e:=aaU hle h _ S d P (R++Q) x a i rfl hS ha hi (by grind);have hl:(dt le S x).length=S.length+1:=(aaI S x).length_eq;rw[aaV hle h R (dt le S x) _ P Q a b (i+1) (aaJ h hS x) ha (by omega) (by grind) e,yq]
def aaW{lt le}(hle:∀x y,le x y=!lt y x)(h:Pre le){d}{P L Q:List α}{a b}(ha:a=P.length)(hb:b=P.length+L.length)(hd:d.toList=P++(L++Q)):(Sort.insertionSort lt d a b).toList=P++(bt le L++Q):=by
 unfold Sort.insertionSort;cases L with
 |nil=>
  rw[insOuter,if_neg<|by grind,hd];rfl
 |cons x R=>
  rw[aaV hle h R [x] d P Q a b (a+1) (List.pairwise_singleton _ _) ha (by grind) (by grind)<|by grind];rfl
def fZ(le:α→α→Bool)(bs:Nat)(L:List α):List α:=if h:0<bs∧bs≤L.length then bt le (L.take bs)++fZ le bs (L.drop bs)else bt le L
termination_by L.length
decreasing_by rw[yt];omega
def atb{lt le}(hle:∀x y,le x y=!lt y x)(h:Pre le) bs n(hb:0<bs):∀(k:Nat)(L:List α)(d:Array α)(P:List α)(a:Nat),L.length=k→a=P.length→n=P.length+L.length→d.toList=P++L→(kJ lt d a n bs).toList=P++fZ le bs L:=by
 intro k
 induction k using Nat.strongRecOn with
 |_ k ih=>
  intro L d P a hk ha hn hd;rw[kJ,fZ];by_cases c:a+bs≤n
  ·rw[dif_pos ⟨hb,c⟩,dif_pos ⟨hb,by omega⟩];have e:=aaW hle h (d:=d) (P:=P) (L:=L.take bs) (Q:=L.drop bs) (a:=a) (b:=a+bs) ha (by rw[yn];omega) (by rw[iB];exact hd);rw[ih (L.length- bs) (by omega) (L.drop bs) _ (P++bt le (L.take bs)) (a+bs) (by rw[yt]) (by rw[yb,kK h,yn];omega) (by rw[yb,kK h,yn,yt];omega) (by rw[e];simp)];simp
  ·rw[dif_neg<|by omega,dif_neg<|by omega];have e:=aaW hle h (d:=d) (P:=P) (L:=L) (Q:=[]) (a:=a) (b:=n) ha hn (by rw[hd];simp);rw[e];simp
omit [Inhabited α] in
def atc{le:α→α→Bool}:bt le ([]:List α)=[]:=rfl
omit [Inhabited α] in
def CK{le:α→α→Bool}{bs:Nat}{L:List α}(h:L.length≤bs)(hb:0<bs):fZ le bs L=bt le L:=by
 rw[fZ];by_cases c:bs≤L.length
 ·rw[dif_pos ⟨hb,c⟩,vm h,fA h,fZ,dif_neg (by simp;omega),atc,de]
 ·rw[dif_neg<|by omega]
def atd{lt le}(hle:∀x y,le x y=!lt y x)(h:Pre le) bs n(hb:0<bs):∀(k:Nat)(L:List α)(d:Array α)(P:List α)(a:Nat),L.length=k→a=P.length→n=P.length+L.length→d.toList=P++fZ le bs L→(gz lt d a n bs).toList=P++fZ le (2*bs) L:=by
 intro k
 induction k using Nat.strongRecOn with
 |_ k ih=>
  intro L d P a hk ha hn hd;rw[gz];by_cases c:a+2*bs≤n
  ·rw[dif_pos ⟨hb,c⟩];have e1:fZ le bs L=bt le (L.take bs)++(bt le ((L.drop bs).take bs)++fZ le bs (L.drop (2*bs))):=by
    rw[fZ,dif_pos ⟨hb,by omega⟩,fZ,dif_pos ⟨hb,by rw[yt];omega⟩,Gh,show bs+bs=2*bs by omega]
   have l1:(bt le (L.take bs)).length=bs:=by rw[kK h,yn];omega
   have l2:(bt le ((L.drop bs).take bs)).length=bs:=by rw[kK h,yn,yt];omega
   have e:=aaT hle h (2*bs) d P (bt le (L.take bs)) (bt le ((L.drop bs).take bs)) (fZ le bs (L.drop (2*bs))) a (a+bs) (a+2*bs) ha (by omega) (by omega) (by omega) (by omega) (by omega) (xA h _) (xA h _) (by rw[hd,e1]);rw[aaM h,show L.take bs++(L.drop bs).take bs=L.take (2*bs) by rw[show 2*bs=bs+bs by omega,List.take_add]]at e;rw[ih (L.length- 2*bs) (by omega) (L.drop (2*bs)) _ (P++bt le (L.take (2*bs))) (a+2*bs) (by rw[yt]) (by rw[yb,kK h,yn];omega) (by rw[yb,kK h,yn,yt];omega) (by rw[e];simp)]
   conv=>rhs;rw[fZ,dif_pos ⟨by omega,by omega⟩]
   simp
  ·rw[dif_neg (by omega),CK (bs:=2*bs) (by omega) (by omega)];by_cases c2:a+bs<n
   ·rw[if_pos c2];have e1:fZ le bs L=bt le (L.take bs)++bt le (L.drop bs):=by
     rw[fZ,dif_pos ⟨hb,by omega⟩,CK (by rw[yt];omega) hb]
    have l1:(bt le (L.take bs)).length=bs:=by rw[kK h,yn];omega
    have l2:(bt le (L.drop bs)).length=L.length- bs:=by rw[kK h,yt]
    have e:=aaT hle h (n- a) d P (bt le (L.take bs)) (bt le (L.drop bs)) [] a (a+bs) n ha (by omega) (by omega) (by omega) (by omega) (by omega) (xA h _) (xA h _) (by rw[hd,e1];simp);rw[e,aaM h,iB,de]
   ·rw[if_neg c2,hd,CK (by omega) hb]
def ate{lt le}(hle:∀x y,le x y=!lt y x)(h:Pre le) n L(hn:n=L.length):∀(k bs:Nat)(d:Array α),0<bs→n- bs≤k→d.toList=fZ le bs L→(m6 lt d n bs).toList=bt le L:=by
 intro k
 induction k with
 |zero=>
  intro bs d hb hk hd;rw[m6,dif_neg<|by omega,hd,CK (by omega) hb]
 |succ k ih=>
  intro bs d hb hk hd;rw[m6];by_cases c:bs<n
  ·rw[dif_pos ⟨hb,c⟩];have e:=atd hle h bs n hb _ L d [] 0 rfl rfl (by simp;omega) (by rw[hd];simp);rw[yr]at e;exact ih (2*bs) _ (by omega) (by omega) e
  ·rw[dif_neg<|by omega,hd,CK (by omega) hb]
def atf{lt le}(hle:∀x y,le x y=!lt y x)(h:Pre le)(d:Array α):(oX lt d d.size).toList=bt le d.toList:=by
 unfold oX;have e:=atb hle h 20 d.size (by omega) _ d.toList d [] 0 rfl rfl (by simp) (by simp);rw[yr]at e;exact ate hle h d.size d.toList (by simp) _ 20 _ (by omega) (y7 _) e
end
end B
namespace B
open Go Go.RowKit Go.Shelf Go.Lib Go.Sort
set_option maxRecDepth 1000000
set_option linter.unusedVariables false
noncomputable section
variable {α:Type} [Inhabited α]
def atg(enc:α→Value)(cf:α→α→Int)(g:Nat)(cb:Array Value)(blk off cap a b:Nat)(d0 d:Array α)(w0 w:World)
 (eg:∀args w,(callFunc g args).run Tryz.prog w=.ok (.enter g args) w)(hcmp:pC Tryz.prog g cb enc cf blk off d0.size w0)
 (R:Row1 enc w0 blk off d0)(hs:d0.size=d.size)(S:SX enc w0 blk off d w)(hab:a≤b)(hb:b≤d.size)(hsz:d.size<4611686018427387904):
 Calls Tryz.prog 226 #[.slice (some ⟨blk,off,none⟩) d.size cap,.int .i64 a,.int .i64 b,.func (.func g) #[] cb] w fun e w'=>e=.returned (.tuple #[])∧SX enc w0 blk off (Sort.insertionSort (ltOf cf) d a b) w':=by
 have mixed:Tryz.prog.follows .mixedOrders=true:=by kernel_rfl
 have hcl0:=R.hO.cells;simp only[Value.cells]at hcl0;have hst:=R.hO.store Tryz.prog;have S0:Aside (SX enc w0 blk off d w):=S;have HC:Aside _:=hcmp;clear S hcmp
 go_enter Tryz.func226,Tryz.ntmps226
 go_wp2_with fail
 go_loopg [8] (b- a) (fun kx s8 wr=>∃(i:Nat)(dk:Array α),s8=.int .i64 i∧a<i∧i≤b+1∧b- i≤kx∧dk.size=d.size∧Aside (SX enc w0 blk off dk wr)∧Hid (insOuter (ltOf cf) a b i dk=Sort.insertionSort (ltOf cf) d a b))
 case atStart=>exact⟨a+1,d,by go_num,by omega,by omega,by omega,rfl,S0,rfl⟩
 case round=>
  clear S0;obtain⟨i,dk,rfl,hai,hib,hkx,hds,S1,HQ⟩:=hrel;by_cases hlt:i<b
  ·have hltz:(i:Int)<(b:Int):=by omega
   have HQ2:Hid (insOuter (ltOf cf) a b (i+1) (insInner (ltOf cf) a i dk)=Sort.insertionSort (ltOf cf) d a b):=by
    show _=_;rw[←HQ.out];conv=>rhs;rw[insOuter,if_pos hlt]
   clear HQ
   go_wp2_with fail
   go_loopg [9] i (fun ky s9 wr=>∃(j:Nat)(dj:Array α),s9=.int .i64 j∧a≤j∧j≤i∧j≤ky∧dj.size=d.size∧Aside (SX enc w0 blk off dj wr)∧Hid (insInner (ltOf cf) a j dj=insInner (ltOf cf) a i dk))
   case atStart=>exact⟨i,dk,rfl,by omega,y7 _,y7 _,hds,S1,rfl⟩
   case round=>
    clear S1;obtain⟨j,dj,rfl,haj,hji,hky,hdj,S1,HI⟩:=hrel;by_cases hja:a<j
    ·obtain⟨jN1,hjN1⟩:∃q,q=j- 1:=⟨_,rfl⟩;have hjad:decide ((j:Int)>(a:Int))=true:=decide_eq_true (by omega);have hjaz:(a:Int)<(j:Int):=by omega
     have ez1:((j:Int)- 1)=(jN1:Int):=by omega
     have rz1:IntKind.i64.wrap ((j:Int)- 1)=(jN1:Int):=by rw[IntKind.wrap_i64];omega
     have rb1:IntKind.i64.wrap (jN1:Int)=(jN1:Int):=by rw[IntKind.wrap_i64];omega
     have ea1:((j:Int)).toNat=j:=by omega
     have pa1:(0:Int)≤(j:Int):=by omega
     have ba1:(j:Int)<(d.size:Int):=by omega
     have ec1:((jN1:Int)).toNat=jN1:=by omega
     have pc1:(0:Int)≤(jN1:Int):=by omega
     have bc1:(jN1:Int)<(d.size:Int):=by omega
     obtain⟨x1,hx1⟩:∃x,x=dj[j]!:=⟨_,rfl⟩;obtain⟨y1,hy1⟩:∃x,x=dj[jN1]!:=⟨_,rfl⟩;have l1a:=S1.out.cl R (by omega) j (by omega);have l1b:=S1.out.cl R (by omega) jN1 (by omega);rw[←hx1]at l1a;rw[←hy1]at l1b;have hc1:=S1.out.cmp HC.out (by omega) x1 y1;have hlt1:ltOf cf dj[j]! dj[j- 1]! =decide (cf x1 y1<0):=by rw[←hjN1,hx1,hy1];rfl
     have HL:=Lib.hid hlt1;have HJ:=Lib.hid hjN1;have HX:=Lib.hid hx1;have HY:=Lib.hid hy1;clear hlt1 hx1 hy1 hjN1;by_cases hv:cf x1 y1<0
     ·have hd1:decide (cf x1 y1<0)=true:=decide_eq_true hv
      go_wp2_with fail
      refine wp_region_quiet_below (by assumption) (by kernel_rfl) ?_
      repeat(quiet_step (first|(go_at_fn g;refine Calls.regrown_of (hc1 _ _))))
      refine wpQuiet_nil ?_;intro _ hw';obtain⟨⟨nq,osq⟩,hw''⟩:=hw';subst hw'';have S2:Aside (SX enc w0 blk off dj (grow (redrawn wr nq) osq)):=S1.out.regrown nq osq;clear l1a l1b hc1 S1;generalize grow (redrawn wr nq) osq=w2 at S2 ⊢;clear nq osq;have S3:Aside (SX enc w0 blk off (swp dj j jN1) ((w2.setCell ⟨blk,off+j,none⟩ (enc y1)).setCell ⟨blk,off+jN1,none⟩ (enc x1)).drew):=by rw[HX.out,HY.out];exact S2.out.swapped R j jN1 (by omega) (by omega)
      have c1a:=S2.out.c1 R (by omega) j (by omega);have c1b:=S2.out.c1 R (by omega) jN1 (by omega);have f1a:=S2.out.f1 R (by omega) j (by omega);have f1b:=S2.out.f1 R (by omega) jN1 (by omega);obtain⟨u1,c1c⟩:=S2.out.c2 R (by omega) j jN1 (by omega) (by omega) (enc y1);rw[←HX.out]at c1a;rw[←HY.out]at c1b;clear S2
      go_wp2_with fail
      go_big_region_o
      clear c1a c1b c1c f1a f1b;generalize((w2.setCell ⟨blk,off+j,none⟩ (enc y1)).setCell ⟨blk,off+jN1,none⟩ (enc x1)).drew=w3 at S3 ⊢
      go_wp2_with fail
      have hjn:=HJ.out
      go_roundg jN1
      case measure=>omega
      case rel=>
       refine⟨jN1,swp dj j jN1,by first|rfl|go_num,by omega,by omega,y7 _,by rw[size_swp];exact hdj,S3,?_⟩;show _=_;rw[←HI.out,insInner_go (ltOf cf) a j dj hja (by rw[HL.out,hd1]),hjn]
     ·have hd1:decide (cf x1 y1<0)=false:=decide_eq_false hv
      go_wp2_with fail
      refine wp_region_quiet_below (by assumption) (by kernel_rfl) ?_
      repeat(quiet_step (first|(go_at_fn g;refine Calls.regrown_of (hc1 _ _))))
      refine wpQuiet_nil ?_;intro _ hw';obtain⟨⟨nq,osq⟩,hw''⟩:=hw';subst hw'';have S2:Aside (SX enc w0 blk off dj (grow (redrawn wr nq) osq)):=S1.out.regrown nq osq;clear l1a l1b hc1 S1;generalize grow (redrawn wr nq) osq=w2 at S2 ⊢;clear nq osq
      go_wp2_with fail
      go_roundg (b- (i+1))
      case measure=>omega
      case rel=>
       refine⟨i+1,dj,by go_num,by omega,by omega,y7 _,hdj,S2,?_⟩;show _=_;rw[←HQ2.out,←HI.out,insInner_stop (ltOf cf) a j dj (.inr (by rw[HL.out,hd1]))]
    ·have hjad:decide ((j:Int)>(a:Int))=false:=decide_eq_false (by omega);have hjaz:¬(a:Int)<(j:Int):=by omega
     go_wp2_with fail
     go_big_region_o
     have S2:Aside (SX enc w0 blk off dj wr.drew):=S1.out.drew;clear S1;generalize wr.drew=w2 at S2 ⊢
     go_wp2_with fail
     go_roundg (b- (i+1))
     case measure=>omega
     case rel=>
      refine⟨i+1,dj,by go_num,by omega,by omega,y7 _,hdj,S2,?_⟩;show _=_;rw[←HQ2.out,←HI.out,insInner_stop (ltOf cf) a j dj (.inl (by omega))]
  ·have hltz:¬(i:Int)<(b:Int):=by omega
   go_wp2_with fail
   go_end0
   exact⟨rfl,by rw[←HQ.out,insOuter,if_neg hlt];exact S1.out⟩
def aaX lt(d:Array α) a b:(Sort.insertionSort lt d a b).size=d.size:=by
 have inner:∀(j:Nat)(d:Array α),(insInner lt a j d).size=d.size:=by
  intro j
  induction j with
  |zero=>intro d;rfl
  |succ j ih=>
   intro d;rw[insInner];split
   ·rw[ih,size_swp]
   ·rfl
 have outer:∀(k i:Nat)(d:Array α),b- i≤k→(insOuter lt a b i d).size=d.size:=by
  intro k
  induction k with
  |zero=>intro i d h;rw[insOuter,if_neg<|by omega]
  |succ k ih=>
   intro i d h;rw[insOuter];split
   ·rw[ih _ _<|by omega,inner]
   ·rfl
 exact outer _ _ _<|y7 _
def ath lt n bs:∀(k a:Nat)(d:Array α),n- a≤k→(gz lt d a n bs).size=d.size:=by
 intro k
 induction k with
 |zero=>intro a d h;rw[gz,dif_neg<|by omega];split<;>first|rfl|rw[xz]
 |succ k ih=>
  intro a d h;rw[gz];split
  ·rw[ih _ _<|by omega,xz]
  ·split<;>first|rfl|rw[xz]
attribute [local irreducible] d5 Sort.insertionSort in
def ati(enc:α→Value)(cf:α→α→Int)(g:Nat)(cb:Array Value)(blk off cap:Nat)(d0 d:Array α)(w0 w:World)
 (eg:∀args w,(callFunc g args).run Tryz.prog w=.ok (.enter g args) w)(hcmp:pC Tryz.prog g cb enc cf blk off d0.size w0)
 (R:Row1 enc w0 blk off d0)(hs:d0.size=d.size)(S:SX enc w0 blk off d w)(hsz:d.size<1152921504606846976):
 Calls Tryz.prog 191 #[.slice (some ⟨blk,off,none⟩) d.size cap,.int .i64 d.size,.func (.func g) #[] cb] w fun e w'=>e=.returned (.tuple #[])∧SX enc w0 blk off (oX (ltOf cf) d d.size) w':=by
 have mixed:Tryz.prog.follows .mixedOrders=true:=by kernel_rfl
 have HC:Aside _:=hcmp;have S0:Aside (SX enc w0 blk off d w):=S;clear S hcmp
 have hins:∀(dk:Array α)(W:World)(x y:Nat),dk.size=d.size→SX enc w0 blk off dk W→x≤y→y≤d.size→
  Calls Tryz.prog 226 #[.slice (some ⟨blk,off,none⟩) d.size cap,.int .i64 x,.int .i64 y,.func (.func g) #[] cb] W fun e w'=>e=.returned (.tuple #[])∧SX enc w0 blk off (Sort.insertionSort (ltOf cf) dk x y) w':=fun dk W x y h1 h2 h3 h4=>by
  have:=atg enc cf g cb blk off cap x y d0 dk w0 W eg HC.out R (by omega) h2 h3 (by omega) (by omega);rwa[h1]at this
 have hsym:∀(f:Nat)(dk:Array α)(W:World)(x y z:Nat),dk.size=d.size→SX enc w0 blk off dk W→x<y→y<z→z≤d.size→z- x≤f→
  Calls Tryz.prog 227 #[.slice (some ⟨blk,off,none⟩) d.size cap,.int .i64 x,.int .i64 y,.int .i64 z,.func (.func g) #[] cb] W fun e w'=>e=.returned (.tuple #[])∧SX enc w0 blk off (d5 (ltOf cf) f dk x y z) w':=fun f dk W x y z h1 h2 h3 h4 h5 h6=>by
  have:=as4 enc cf g cb blk off cap d0 w0 eg HC.out R (by omega) f dk W x y z (by omega) h2 h3 h4 (by omega) h6;rwa[h1]at this
 have HI:=Lib.hid hins;have HS:=Lib.hid hsym;clear hins hsym;obtain⟨n,hn⟩:∃n,n=d.size:=⟨_,rfl⟩;rw[←hn]at HI HS hsz ⊢;have HN:=Lib.hid hn;clear hn
 go_enter Tryz.func191,Tryz.ntmps191
 go_wp2_with fail
 go_loopg [7,8] n (fun kx s7 s8 wr=>∃(a b:Nat)(dk:Array α),s7=.int .i64 a∧s8=.int .i64 b∧Hid (b=a+20)∧a≤n∧n- a≤kx∧dk.size=d.size∧Aside (SX enc w0 blk off dk wr)∧Hid (kJ (ltOf cf) dk a n 20=kJ (ltOf cf) d 0 n 20))
 case atStart=>exact⟨0,20,d,by go_num,by go_num,rfl,yc _,by omega,rfl,S0,rfl⟩
 case round=>
  clear S0;obtain⟨a,b,dk,rfl,rfl,HB,han,hkx,hds,S1,HQ⟩:=hrel;by_cases hle:b≤n
  ·have hlez:(b:Int)≤(n:Int):=by omega
   go_wp2_with (first
    |(go_at_call 226;refine(HI.out _ _ _ _ (hds.trans HN.out.symm) S1.out (by have:=HB.out;omega) hle).mono ?_;rintro e1 w1 ⟨rfl,T⟩;have S1:=Lib.hid T;clear T)
    |fail)
   have hb:=HB.out
   go_roundg (n- b)
   case measure=>omega
   case rel=>
    refine⟨b,b+20,_,rfl,by go_num,rfl,hle,y7 _,by rw[aaX];exact hds,S1.out,?_⟩;show _=_;rw[←HQ.out];conv=>rhs;rw[kJ,dif_pos ⟨by omega,by omega⟩]
    rw[hb]
  ·have hlez:¬(b:Int)≤(n:Int):=by omega
   have hb:=HB.out;have hq:kJ (ltOf cf) d 0 n 20=Sort.insertionSort (ltOf cf) dk a n:=by rw[←HQ.out,kJ,dif_neg (by omega)]
   have HQ2:=Lib.hid hq;clear hb hq
   go_wp2_with (first
    |(go_at_call 226;refine(HI.out _ _ _ _ (hds.trans HN.out.symm) S1.out han (y7 _)).mono ?_;rintro e1 w1 ⟨rfl,T⟩;have S1:=Lib.hid T;clear T)
    |fail)
   have hd1:(Sort.insertionSort (ltOf cf) dk a n).size=d.size:=by rw[aaX];exact hds
   rw[←HQ2.out]at hd1;have S2:Aside (SX enc w0 blk off (kJ (ltOf cf) d 0 n 20) w1):=by rw[HQ2.out];exact S1.out
   clear HQ2 HQ S1 hds;have hR:Hid (m6 (ltOf cf) (kJ (ltOf cf) d 0 n 20) n 20=oX (ltOf cf) d n):=rfl;generalize kJ (ltOf cf) d 0 n 20=d1 at hd1 S2 hR
   go_loopg [6,7,8,9] n (fun kx s6 s7 s8 s9 wr=>∃(bs:Nat)(dk:Array α),s6=.int .i64 bs∧0<bs∧bs≤2*n+20∧n- bs≤kx∧dk.size=d.size∧Aside (SX enc w0 blk off dk wr)∧Hid (m6 (ltOf cf) dk n bs=oX (ltOf cf) d n))
   case atStart=>exact⟨20,d1,by go_num,by omega,by omega,by omega,hd1,S2,hR⟩
   case round=>
    clear S2 hR hd1;obtain⟨bs,dk,rfl,hb0,hb2,hkx,hds,S1,HQ⟩:=hrel;by_cases c:bs<n
    ·have cz:(bs:Int)<(n:Int):=by omega
     go_wp2_with fail
     go_loopg [7,8] n (fun ky s7 s8 wr=>∃(a b:Nat)(dj:Array α),s7=.int .i64 a∧s8=.int .i64 b∧Hid (b=a+2*bs)∧a≤n∧n- a≤ky∧dj.size=d.size∧Aside (SX enc w0 blk off dj wr)∧Hid (gz (ltOf cf) dj a n bs=gz (ltOf cf) dk 0 n bs))
     case atStart=>exact⟨0,2*bs,dk,by go_num,by go_num,(show Hid _ from(by omega:2*bs=0+2*bs)),yc _,by omega,hds,S1,rfl⟩
     case round=>
      clear S1;obtain⟨a,b,dj,rfl,rfl,HB,han,hky,hdj,S1,HM⟩:=hrel;obtain⟨mm,hmm⟩:∃q,q=a+bs:=⟨_,rfl⟩;have hmz:(a:Int)+(bs:Int)=(mm:Int):=by omega
      have HMM:=Lib.hid hmm;clear hmm;by_cases hle:b≤n
      ·have hlez:(b:Int)≤(n:Int):=by omega
       go_wp2_with (first
        |(go_at_call 227;refine(HS.out (2*bs) _ _ _ _ _ (hdj.trans HN.out.symm) S1.out (by have:=HMM.out;omega) (by have:=HMM.out;have:=HB.out;omega) hle (by have:=HB.out;omega)).mono ?_;rintro e1 w1 ⟨rfl,T⟩;have S1:=Lib.hid T;clear T)
        |fail)
       have hb:=HB.out;have hm:=HMM.out
       go_roundg (n- b)
       case measure=>omega
       case rel=>
        refine⟨b,b+2*bs,_,rfl,by go_num,rfl,hle,y7 _,by rw[xz];exact hdj,S1.out,?_⟩;show _=_;rw[←HM.out];conv=>rhs;rw[gz,dif_pos ⟨by omega,by omega⟩]
        rw[hb,hm]
      ·have hlez:¬(b:Int)≤(n:Int):=by omega
       have hb:=HB.out;have hm:=HMM.out;have hq:gz (ltOf cf) dk 0 n bs=if mm<n then d5 (ltOf cf) (n- a) dj a mm n else dj:=by rw[←HM.out,gz,dif_neg (by omega),hm]
       have hq2:m6 (ltOf cf) (gz (ltOf cf) dk 0 n bs) n (2*bs)=oX (ltOf cf) d n:=by rw[←HQ.out];conv=>rhs;rw[m6,dif_pos ⟨by omega,by omega⟩]
       have hma:a<mm:=by omega
       have HQ1:=Lib.hid hq;have HQ2:=Lib.hid hq2;have hsz1:(gz (ltOf cf) dk 0 n bs).size=d.size:=by rw[ath _ _ _ _ _ _ (y7 _)];exact hds
       clear hb hm hq hq2;by_cases c3:mm<n
       ·have c3z:(mm:Int)<(n:Int):=by omega
        go_wp2_with (first
         |(go_at_call 227;refine(HS.out (n- a) _ _ _ _ _ (hdj.trans HN.out.symm) S1.out hma c3 (y7 _) (y7 _)).mono ?_;rintro e1 w1 ⟨rfl,T⟩;have S1:=Lib.hid T;clear T)
         |fail)
        have hS:Aside (SX enc w0 blk off (gz (ltOf cf) dk 0 n bs) w1):=by rw[HQ1.out,if_pos c3];exact S1.out
        go_roundg (n- 2*bs)
        case measure=>omega
        case rel=>exact⟨2*bs,_,by go_num,by omega,by omega,y7 _,hsz1,hS,HQ2.out⟩
       ·have c3z:¬(mm:Int)<(n:Int):=by omega
        go_wp2_with fail
        have hS:Aside (SX enc w0 blk off (gz (ltOf cf) dk 0 n bs) wr):=by rw[HQ1.out,if_neg c3];exact S1.out
        go_roundg (n- 2*bs)
        case measure=>omega
        case rel=>exact⟨2*bs,_,by go_num,by omega,by omega,y7 _,hsz1,hS,HQ2.out⟩
    ·have cz:¬(bs:Int)<(n:Int):=by omega
     have hq:dk=oX (ltOf cf) d n:=by rw[←HQ.out,m6,dif_neg (by omega)]
     have HQ1:=Lib.hid hq;clear hq
     go_wp2_with fail
     go_end0
     exact⟨rfl,by rw[←HQ1.out];exact S1.out⟩
end
end B
namespace B
open Go Go.RowKit Go.Shelf Go.Sort
set_option maxRecDepth 1000000
set_option linter.unusedVariables false
structure PutR(w w':World)(b off:Nat)(us:List Value):Prop where
 os:w'.os=w.os
 tape:w'.tape=w.tape
 output:w'.output=w.output
 size:w.heap.size≤w'.heap.size
 block:∀k,k<w.heap.size→k≠b→w'.heap[k]?=w.heap[k]?
 cell:∀(i:Nat) v,us[i]?=some v→w'.cell? ⟨b,off+i,none⟩=some v
 other:∀p:Addr,p.block<w.heap.size→(p.off<off∨off+us.length≤p.off∨p.block≠b)→w'.cell? p=w.cell? p
 frozen:∀p:Addr,p.block<w.heap.size→stuck w' p=stuck w p
def Oe w os{k}(h:k<w.heap.size):(grow w os).heap[k]?=w.heap[k]?:=by
 unfold grow;exact Gp h
def aaY w os{p}(h:p.block<w.heap.size):(grow w os).cell? p=w.cell? p:=by
 unfold World.cell?;rw[Oe w os h]
def atj w blk f(hf:∀c,(f c).size=c.size) p:stuck (mapBlock w blk f) p=stuck w p:=by
 have h1:∀a,(mapBlock w blk f).frozen? a=w.frozen? a:=fun a=>frozen?_mapBlock w blk f a;have h2:(mapBlock w blk f).shape? p.block=w.shape? p.block:=by
  simp only[mapBlock,World.shape?,P9];by_cases hk:blk=p.block
  ·simp only[hk,if_true];cases w.heap[p.block]? with
   |none=>rfl
   |some o=>cases o<;>simp[onCells,hf]
  ·simp[hk]
 unfold stuck;rw[h1,h2];simp only[h1]
def aaZ{α}[Inhabited α]{enc w b off n os}{d0 d:Array α}(hb:b<w.heap.size)(hH:Holds enc w b off d0)(hs:d.size=d0.size):
 PutR w (grow (putRow enc (Sort.ahead w n) b off d) os) b off (d.toList.map enc):=by
 have hsz:(putRow enc (Sort.ahead w n) b off d).heap.size=w.heap.size:=by rw[size_putRow];rfl
 refine⟨rfl,rfl,rfl,?_,fun k hk hne=>?_,fun i v hv=>?_,fun p hp ho=>?_,fun p hp=>?_⟩
 ·rw[size_grow,hsz];omega
 ·rw[Oe _ _ (by rw[hsz];exact hk)];unfold putRow mapBlock Sort.ahead;simp only[P9,if_neg<|Ne.symm hne]
 ·rw[aaY _ _ (by rw[hsz];exact hb)];rw[dn]at hv;have hi:i<d.size:=by
   rcases yk i d.size with g|g
   ·exact g
   ·rw[P8<|by simpa using g]at hv;simp at hv
  have hH':Holds enc (Sort.ahead w n) b off d0:=hH;rw[cell?_putRow enc (Sort.ahead w n) b off d0 d hH' hs i hi];rw[ya<|by simpa using hi]at hv;rw[getElem!_pos d i hi];simpa using hv
 ·rw[aaY _ _ (by rw[hsz];exact hp)];rw[cell?_putRow_other enc (Sort.ahead w n) b off d p (by simp only[yy,iz]at ho;omega)];rfl
 ·rw[Kk<|Oe _ _ (by rw[hsz];exact hp)];exact atj (Sort.ahead w n) b _ (fun c=>by unfold putCells;simp) p
theorem FExt.put{fr w' b off us}(hst:PutR fr.w0 w' b off us)(ho:∀(i:Nat),i<us.length→fr.own b (off+i))(hne:0<us.length)(hld:Laid fr.w0)(hnl:∀b o,LB b=true→¬fr.own b o):FExt fr w':=by
 refine⟨hst.os,hst.tape,hst.output,hst.size,fun k hk hn=>?_,fun b' o hk hn=>?_,fun b' o hk hn=>hst.frozen _ hk,hld.on hst.size (fun k hl=>hst.block k (hld.lt k hl) fun e=>hnl k (off+0) hl (e▸ho 0 hne)),fun b hl=>hld.lt b hl,hnl⟩
 ·by_cases e:k=b
  ·subst e;exact(hn _ (ho 0 hne)).elim
  ·exact hst.block k hk e
 ·refine hst.other _ hk ?_;by_cases e:b'=b
  ·subst e;by_cases h1:o<off
   ·exact .inl h1
   ·by_cases h2:off+us.length≤o
    ·exact .inr (.inl h2)
    ·have h3:=ho (o- off) (by omega);rw[show off+(o- off)=o from by omega]at h3;exact(hn h3).elim
  ·exact .inr (.inr e)
theorem ObRel.put{g w w' k ver live τ}(h1:sz τ=1){xs ys:List (Den τ)}{b off cap us}(htk:g.tk k=(some ⟨b,off,none⟩,cap))(hb:b<w.heap.size)(hown:∀b o x,g.ω b o=some x→b<w.heap.size)(hO:ObAt En g w k ⟨ver,τ,xs,some 0,live⟩ b off cap (fun i j=>(w.cell? ⟨b,off+i*sz τ+j,none⟩).getD undef))(hst:PutR w w' b off us)(hul:us.length=xs.length)(hyl:ys.length≤us.length)(hcap:xs.length≤cap)(hbig:xs.length≤9223372036854775807)(hrel:∀i(hi:i<ys.length) d,(enc τ ys[i])[0]?=some d→∃u,us[i]?=some u∧VRel En g.St w u d):
 ObRel En g w' k ⟨ver,τ,ys,some 0,live⟩∧Keeps g.St w g.St w':=by
 have hmine:∀i,i<us.length→g.ω b (off+i)=some (.obj k)∧stuck w ⟨b,off+i,none⟩=false:=by
  intro i hi;have:=(hO.cell i 0 (by show i<xs.length;omega) (by show 0<sz τ;omega)).2;have e:off+i*Un.sz τ+0=off+i:=by show off+i*sz τ+0=_;rw[h1];omega
  rw[e]at this;exact this.2<|yc _
 have hk:Keeps g.St w g.St w':=fun b' o hs=>⟨hs,hst.other ⟨b',o,none⟩ (hown _ _ _ hs) (by
  by_cases e:b'=b
  ·subst e;by_cases h2:o<off
   ·exact .inl h2
   ·by_cases h3:off+us.length≤o
    ·exact .inr<|.inl h3
    ·have:=(hmine (o- off)<|by omega).1;rw[show off+(o- off)=o by omega]at this;have hs':g.ω b' o=some .st:=hs;rw[this]at hs';simp at hs'
  ·exact .inr (.inr e))⟩
 refine⟨⟨⟨⟨by rw[htk];show ys.length≤cap;omega,by show ys.length≤_;omega⟩,fun f hf=>by simp at hf;subst hf;exact yc _⟩,fun _=>⟨b,off,fun i j=>us.getD i undef,by rw[htk],⟨?_,?_,?_⟩⟩⟩,hk⟩
 ·intro i j hi hj;have hi':i<ys.length:=hi;have hj':j<sz τ:=hj;obtain rfl:j=0:=by omega
  have e0:off+i*Un.sz τ+0=off+i:=by show off+i*sz τ+0=_;rw[h1];omega
  show w'.cell? ⟨b,off+i*Un.sz τ+0,none⟩=_∧eu g w' k (some 0) i b (off+i*Un.sz τ+0);rw[e0];refine⟨?_,fun h=>absurd h<|cQ _,fun _=>⟨(hmine i<|by omega).1,by rw[hst.frozen _ hb];exact(hmine i<|by omega).2⟩⟩;rw[yf,ya<|by omega];exact hst.cell _ _<|ya<|by omega
 ·intro i hi j d hd;have hj:j<sz τ:=by have h0:=(ym.1 hd).1;have:=pX τ<|ys[i]'hi;exact this▸h0
  obtain rfl:j=0:=by omega
  obtain⟨u,h2,h3⟩:=hrel i hi d hd;show VRel En g.St w' (us.getD i undef) d;rw[yf,h2];exact h3.mono hk
 ·intro hl x hx hx';rw[htk]at hx';have hx1:ys.length*sz τ≤x:=hx;have hx2:x<cap*sz τ:=hx';rw[h1]at hx1 hx2;rcases yk x us.length with g1|g1
  ·exact⟨(hmine x g1).1,⟨us[x],hst.cell _ _<|ya g1⟩,by rw[hst.frozen _ hb];exact(hmine x g1).2⟩
  ·obtain⟨m1,⟨v,m2⟩,m3⟩:=hO.spare hl x (by show xs.length*sz τ≤x;rw[h1];omega) (by show x<cap*sz τ;rw[h1];omega);exact⟨m1,⟨v,by rw[hst.other ⟨b,off+x,none⟩ hb<|.inr<|.inl (by show off+us.length≤off+x;omega)];exact m2⟩,by rw[hst.frozen _ hb];exact m3⟩
def ObRel.open1{g w k ver live τ}{xs:List (Den τ)}(h:ObRel En g w k ⟨ver,τ,xs,some 0,live⟩)(hne:xs≠[]):
 ∃b off,g.tk k=(some ⟨b,off,none⟩,(g.tk k).2)∧xs.length≤(g.tk k).2∧ObAt En g w k ⟨ver,τ,xs,some 0,live⟩ b off (g.tk k).2 (fun i j=>(w.cell? ⟨b,off+i*sz τ+j,none⟩).getD undef):=by
 obtain⟨⟨⟨hcap,hmax⟩,_⟩,hrow⟩:=h;have hpos:0<xs.length:=y21.2 hne;have hc:xs.length≤(g.tk k).2:=hcap;obtain⟨b,off,cv,hbase,hA⟩:=hrow (by omega);have hcv:∀i j,i<xs.length→j<sz τ→(w.cell? ⟨b,off+i*sz τ+j,none⟩).getD undef=cv i j:=fun i j hi hj=>by
  have:=(hA.cell i j hi hj).1;have e:w.cell? ⟨b,off+i*sz τ+j,none⟩=some (cv i j):=this;rw[e];rfl
 refine⟨b,off,by rw[←hbase],hc,⟨fun i j hi hj=>?_,fun i hi j d hd=>?_,hA.spare⟩⟩
 ·have:=hA.cell i j hi hj;rw[hcv i j hi hj];exact this
 ·have hj:j<sz τ:=by have h0:=(ym.1 hd).1;have:=pX τ (xs[i]'hi);exact this▸h0
  rw[hcv i j hi hj];exact hA.rel i hi j d hd
def atk{St w v x}(h:VRel En St w v (.s x)):v=x∧bH x=true:=by cases h with|s _ h=>exact⟨rfl,h⟩
end B
end Go.Proofs.YtjfpbchdcbhfgaaGreat
