/- Part 2 of the proof: BSim2. -/
import Derived.Test.YtjfpbchdcbhfgaaGreatNsy1
set_option linter.unusedVariables false
set_option linter.unusedSimpArgs false
set_option linter.defProp false
namespace Go.Proofs.YtjfpbchdcbhfgaaGreat
namespace B
open Go Go.RowKit
variable {U:Uni} {P:Program} {E:Enc U} {fr:Fr} {w:World} {g:G} {s:S U} {a:Act}
def RM(w:World)(vs:List Value) t i v(h:vs[i]?=some v):(w.alloc<|.cells vs.toArray t).cell? ⟨w.heap.size,i,none⟩=some v:=by
 simp[h]
def Sim.sameNew(h:Sim P E fr g s a w) O{g'}(hω:∀b o,b<w.heap.size→g'.ω b o=g.ω b o) x:Same g w g' (w.alloc O) x:=by
 intro b o hx;have hb:=(h.own b o x hx).1;have hext:Ext w (w.alloc O):=(Ext.refl _).alloc _;exact⟨by grind,hext.cell (p:=⟨b,o,none⟩) hb,hext.stuck (p:=⟨b,o,none⟩) hb⟩
def Sim.newBox(h:Sim P E fr g s a w){k vs cs} t(hk:s.bx[k]?=some none)(hkb:s.base≤k)(hr:All2 (CRel P E g s.ob w) vs cs):
 ∃g',Sim P E fr g' {s with bx:=s.bx.set k<|some (false,cs)} a (w.alloc<|.cells vs.toArray t)∧CRel P E g' s.ob (w.alloc<|.cells vs.toArray t) (.pointer<|some ⟨w.heap.size,0,none⟩) (.bx k 0):=by
 have hext:Ext w (w.alloc<|.cells vs.toArray t):=(Ext.refl _).alloc _;have hnl:¬g.lb k:=fun hl=>by obtain⟨cells,hc⟩:=h.lbs _ hl;grind
 let g':G:={g with β:=fun q=>if q=k then w.heap.size else g.β q,lb:=fun q=>g.lb q∨q=k,ω:=fun b o=>if b=w.heap.size then(if o<vs.length then some (.box k)else none)else g.ω b o};have hω:∀b o,b<w.heap.size→g'.ω b o=g.ω b o:=fun b o hb=>by grind
 have hs:=fun x=>h.sameNew (.cells vs.toArray t) hω x;have hg:GLe g s.ob w g' s.ob (w.alloc<|.cells vs.toArray t):=
  ⟨(hs .st).keeps,fun q hl=>⟨.inl hl,by grind⟩,fun q o hq=>⟨o,hq,y7 _,fun _=>⟨rfl,rfl,rfl⟩⟩⟩
 have hbk:g'.β k=w.heap.size:=by grind
 have hklt:k<s.bx.length:=(ym.1 hk).1;refine⟨g',?_,⟨.inr rfl,by simp⟩⟩;refine{ext:=h.ext.later hext,tms:=h.tms.imp fun _ _=>AVRel.mono hg,bxs:=?_,lbs:=?_,obs:=fun q o hq=>(h.obs q o hq).keep hg.st (hs _) rfl,own:=?_,dfr:=h.dfr,fix:=fun q hq hl=>?_,bas:=h.bas}
 ·intro q fz cells hc;have hc':(s.bx.set k<|some (false,cs))[q]?=some (some (fz,cells)):=hc;by_cases e:q=k
  ·subst e;rw[eH hklt]at hc';obtain⟨rfl,rfl⟩:=hc';refine⟨.inr rfl,vs,hr.imp fun _ _=>CRel.mono hg,fun i v hv=>?_⟩;rw[hbk];refine⟨RM w vs t i v hv,fun _=>⟨by simp,?_⟩,by simp⟩;grind
  ·rw[dP<|Ne.symm e]at hc';obtain⟨hl,hb⟩:=h.bxs q fz cells hc';exact⟨.inl hl,hb.keep hl hg<|hs _⟩
 ·intro q hl;by_cases e:q=k
  ·simp_all
  ·rcases hl with hl|hl
   ·obtain⟨c,hc⟩:=h.lbs q hl;grind
   omega
 ·intro b o x hx;rcases yk b w.heap.size with hb|hb
  ·rw[hω b o hb]at hx;exact⟨yu hb hext.le,(h.own b o x hx).2⟩
  ·have hx':(if b=w.heap.size then(if o<vs.length then some (Own.box k)else none)else g.ω b o)=some x:=hx;by_cases e:b=w.heap.size
   ·exact⟨by simp_all,.inl (by have:=h.ext.size;omega)⟩
   ·rw[if_neg e]at hx';have:=(h.own b o x hx').1;omega
 ·have hne':q≠k:=by have:=h.bas;omega
  show(if q=k then w.heap.size else g.β q)=fr.β q;rw[if_neg hne'];rcases hl with hl|hl
  ·exact h.fix q hq hl
  omega
def All2.splice{α β R}{l l':List α}{r r':List β}(h:All2 R l r)(h':All2 R l' r') off:
 All2 R (l.take off++l'++l.drop (off+l'.length)) (r.take off++r'++r.drop (off+r'.length)):=by
 rw[h'.length];exact((h.take off).append h').append<|h.drop _
def RN{α:Type}(l l':List α) off i v(hl:off+l'.length≤l.length)(h:(l.take off++l'++l.drop (off+l'.length))[i]?=some v):
 (off≤i∧i<off+l'.length∧l'[i- off]?=some v)∨((i<off∨off+l'.length≤i)∧l[i]?=some v):=by
 rcases yk i off with h1|h1
 ·grind
 ·rcases yk i (off+l'.length)with h2|h2
  ·grind
  ·rw[fC<|by grind,mg]at h;grind
def KF{g w w' b off vs}(hst:Stored w w' b off vs){y}(hy:∀(i:Nat),i<vs.length→g.ω b (off+i)=some y){x}(hne:x≠y):Same g w g w' x:=by
 intro b' o hx;refine⟨hx,hst.other _ ?_,hst.frozen _⟩;by_cases e:b'=b
 ·by_cases h1:o<off
  ·grind
  ·by_cases h2:off+vs.length≤o
   ·grind
   ·have:=hy (o- off) (by omega);grind
 grind
def Sim.store(h:Sim P E fr g s a w){k off cells cs vs w'}(hk:s.bx[k]?=some (some (false,cells)))(hlen:off+cs.length≤cells.length)(hr:All2 (CRel P E g s.ob w) vs cs)(hst:Stored w w' (g.β k) off vs):Sim P E fr g {s with bx:=s.bx.set k<|some (false,cells.take off++cs++cells.drop (off+cs.length))} a w':=by
 obtain⟨hl,vs0,h1,h2⟩:=h.bxs k false cells hk;have hvl:=hr.length;have hv0:=h1.length;have hy:∀(i:Nat),i<vs.length→g.ω (g.β k) (off+i)=some (.box k):=fun i hi=>by
  have hlt:off+i<vs0.length:=by omega
  simp_all
 have hs:=fun x(hne:x≠Own.box k)=>KF hst hy hne;have hg:GLe g s.ob w g s.ob w':={GLe.refl g s.ob w with st:=(hs .st<|by simp).keeps};have hklt:k<s.bx.length:=(ym.1 hk).1;refine{ext:=h.ext.stored hst fun i hi=>h.wr (hy i hi)<|by simp,tms:=h.tms.imp fun _ _=>AVRel.mono hg,bxs:=?_,lbs:=?_,obs:=fun q o hq=>(h.obs q o hq).keep hg.st (hs _<|by simp) rfl,own:=fun b o x hx=>by rw[hst.size];exact h.own b o x hx,dfr:=h.dfr,fix:=h.fix,bas:=h.bas}
 ·intro q fz cells' hc;have hc':(s.bx.set k<|some (false,cells.take off++cs++cells.drop (off+cs.length)))[q]?=some (some (fz,cells')):=hc;by_cases e:q=k
  ·subst e;rw[eH hklt]at hc';obtain⟨rfl,rfl⟩:=hc';refine⟨hl,vs0.take off++vs++vs0.drop (off+vs.length),?_,fun i u hu=>?_⟩
   ·have:=(h1.splice hr off).imp fun _ _=>CRel.mono hg;grind
   ·have hlt:i<vs0.length:=by
     grind
    obtain⟨i1,i2,_⟩:=h2 i _<|ya hlt;rcases RN vs0 vs off i u (by omega) hu with⟨g1,g2,g3⟩|⟨g1,g2⟩
    ·have:=hst.cell (i- off) u g3;rw[show off+(i- off)=i from by omega]at this;exact⟨this,fun _=>⟨by rw[hst.frozen];grind,(i2 rfl).2⟩,by simp⟩
    ·exact⟨by rw[hst.other _<|by grind];grind,fun _=>⟨by rw[hst.frozen];grind,(i2 rfl).2⟩,by simp⟩
  ·rw[dP<|Ne.symm e]at hc';obtain⟨hl',hb⟩:=h.bxs q fz cells' hc';exact⟨hl',hb.keep hl' hg<|hs _<|by grind⟩
 ·intro q hl';obtain⟨c,hc⟩:=h.lbs q hl';grind
open Classical in
def Sim.frz1(h:Sim P E fr g s a w){k:Nat}{o:Ob U}(hk:s.ob[k]?=some (some o)):
 ∃g',Sim P E fr g' {s with ob:=s.ob.set k<|some {o with fr:=none}} a w∧GLe g s.ob w g' (s.ob.set k<|some {o with fr:=none}) w:=by
 let g':G:={g with ω:=fun b i=>if g.ω b i=some (.obj k)∧∃off,(g.tk k).1=some ⟨b,off,none⟩∧off≤i∧i<off+o.xs.length*U.sz o.τ then some .st else g.ω b i};have hω:∀b i x,x≠.obj k→g.ω b i=some x→g'.ω b i=some x:=fun b i x hne hx=>by
  grind
 have hs:∀x,x≠.obj k→Same g w g' w x:=fun x hne b i hx=>⟨hω b i x hne hx,rfl,rfl⟩;have hklt:k<s.ob.length:=(ym.1 hk).1;have hg:GLe g s.ob w g' (s.ob.set k<|some {o with fr:=none}) w:=by
  refine⟨(hs .st<|by simp).keeps,fun q hl=>⟨hl,rfl⟩,fun q o' hq=>?_⟩;grind
 refine⟨g',?_,hg⟩;refine{ext:=h.ext,tms:=h.tms.imp fun _ _=>AVRel.mono hg,bxs:=fun q fz cells hc=>?_,lbs:=h.lbs,obs:=?_,own:=?_,dfr:=h.dfr,fix:=h.fix,bas:=h.bas}
 ·obtain⟨hl,hb⟩:=h.bxs q fz cells hc;exact⟨hl,hb.keep hl hg<|hs _<|by simp⟩
 ·intro q o' hq;have hq':(s.ob.set k<|some {o with fr:=none})[q]?=some (some o'):=hq;by_cases e:q=k
  ·subst e;rw[eH hklt]at hq';simp at hq';subst hq';obtain⟨⟨h1,_⟩,h2⟩:=h.obs q o hk;refine⟨⟨h1,by simp⟩,fun hc=>?_⟩;obtain⟨b,off,cv,e,hA⟩:=h2 hc;refine⟨b,off,cv,e,⟨fun i j hi hj=>?_,fun i hi j d hd=>(hA.rel i hi j d hd).mono hg.st,fun hl x hx hx'=>?_⟩⟩
   ·obtain⟨c1,c2⟩:=hA.cell i j hi hj;refine⟨c1,?_⟩;have hin:off+i*U.sz o.τ+j<off+o.xs.length*U.sz o.τ:=by
     have:(i+1)*U.sz o.τ≤o.xs.length*U.sz o.τ:=fB _ hi;grind
    have hst:g.ω b (off+i*U.sz o.τ+j)=some .st∨g.ω b (off+i*U.sz o.τ+j)=some (.obj q):=by
     unfold eu at c2;split at c2
     ·exact .inl c2
     ·rename_i f _;rcases yk i f with hlt|hge
      ·exact .inl<|c2.1 hlt
      grind
    show g'.ω b _=some .st;rcases hst with hst|hst
    ·grind
    ·show(if _ then _ else _)=_;rw[if_pos ⟨hst,off,e,by omega,hin⟩]
   ·obtain⟨d1,d2,d3⟩:=hA.spare hl x hx hx';grind
  ·rw[dP<|Ne.symm e]at hq';exact(h.obs q o' hq').keep hg.st (hs _<|by grind) rfl
 ·intro b i x hx;have hx':(if g.ω b i=some (.obj k)∧∃off,(g.tk k).1=some ⟨b,off,none⟩∧off≤i∧i<off+o.xs.length*U.sz o.τ then some Own.st else g.ω b i)=some x:=hx;split at hx'
  ·rename_i hc;exact⟨(h.own b i _ hc.1).1,(h.wr hc.1<|by simp).elim .inl fun hh=>.inr<|.inl hh⟩
  ·exact h.own b i x hx'
def FrzLe(ob ob':List (Option<|Ob U)):Prop:=∀k:Nat,(∀o:Ob U,ob[k]?=some (some o)→∃o',ob'[k]?=some (some o')∧(o'=o∨o'=({o with fr:=none}:Ob U)))∧((∀o:Ob U,ob[k]? ≠some (some o))→ob'[k]?=ob[k]?)
def FrzLe.refl(ob:List (Option<|Ob U)):FrzLe ob ob:=fun _=>⟨fun o h=>⟨o,h,.inl rfl⟩,fun _=>rfl⟩
def Sim.frzs{ob0}:∀(ks:List Nat){g:G}{s:S U}{s0:S U},s0.ob=ob0→Sim P E fr g s a w→FrzLe ob0 s.ob→
 ∃g',Sim P E fr g' {s with ob:=aH s.ob (s0.frz ks)} a w∧GLe g s.ob w g' (aH s.ob (s0.frz ks)) w∧FrzLe ob0 (aH s.ob (s0.frz ks))∧
  (∀k,(k∈ks∨∀o,s.ob[k]?=some (some o)→o.fr=none)→∀o,(aH s.ob (s0.frz ks))[k]?=some (some o)→o.fr=none)
 |[],g,s,s0,_,h,hf=>⟨g,h,GLe.refl _ _ _,hf,fun k hk o ho=>by
  rcases hk with hk|hk
  ·grind
  ·exact hk o ho⟩
 |k::ks,g,s,s0,h0,h,hf=>by
  simp only[S.frz];cases hk:s0.ob[k]? with
  |none=>
   obtain⟨g',h1,h2,h3,h4⟩:=Sim.frzs ks h0 h hf;refine⟨g',h1,h2,h3,fun q hq=>h4 q ?_⟩;rcases hq with hq|hq
   ·rcases yh.1 hq with rfl|hq
    ·have:=(hf q).2 (by grind);grind
    grind
   grind
  |some x=>
   cases x with
   |none=>
    obtain⟨g',h1,h2,h3,h4⟩:=Sim.frzs ks h0 h hf;refine⟨g',h1,h2,h3,fun q hq=>h4 q ?_⟩;rcases hq with hq|hq
    ·rcases yh.1 hq with rfl|hq
     ·have:=(hf q).2 (by grind);grind
     grind
    grind
   |some o=>
    rw[h0]at hk;obtain⟨o',ho',hor⟩:=(hf k).1 o hk;have he:({o with fr:=none}:Ob U)={o' with fr:=none}:=by grind
    obtain⟨g1,h1,hg1⟩:=h.frz1 ho';simp;rw[he];have hf1:FrzLe ob0 (s.ob.set k (some {o' with fr:=none})):=by
     intro q;by_cases e:q=k
     ·grind
     ·rw[dP (Ne.symm e)];exact hf q
    obtain⟨g',i1,i2,i3,i4⟩:=Sim.frzs ks h0 h1 hf1;refine⟨g',i1,hg1.trans i2,i3,fun q hq=>i4 q ?_⟩;grind
def Sim.frozenV{s0:S U}(h:Sim P E fr g s a w)(hf:FrzLe s0.ob s.ob){v c d}(hk:∀k∈c.obs,∀o,s.ob[k]?=some (some o)→o.fr=none)(hd:s0.toV c=some d)(hc:CRel P E g s.ob w v c):VRel E g.St w v d:=by
 cases c with
 |s x=>simp[S.toV]at hd;subst hd;obtain⟨rfl,h⟩:=hc;exact .s _ h
 |sl τ xs t=>simp[S.toV]at hd;subst hd;exact hc.1
 |ob k ver=>
  simp only[S.toV]at hd;split at hd
  ·rename_i o ho;obtain⟨h1,h2⟩:=gN ho;obtain⟨o',h3,h4⟩:=(hf k).1 o h1;obtain⟨_,o2,h5,h6,h7⟩:=hc;have hfr:=hk k (by simp[C.obs]) o' h3;have hrel:=(h.obs k o' h3).data hfr;grind
  grind
 |_=>grind[S.toV]
def Sim.frozenVs{s0:S U}(h:Sim P E fr g s a w)(hf:FrzLe s0.ob s.ob):∀{vs:List Value}{cs:List (C U)}{ds:List (V U)},(∀k∈Cs.obs cs,∀o,s.ob[k]?=some (some o)→o.fr=none)→s0.toVs cs=some ds→All2 (CRel P E g s.ob w) vs cs→All2 (VRel E g.St w) vs ds
 |[],[],ds,_,hd,_=>by simp[S.toVs]at hd;subst hd;trivial
 |v::vs,c::cs,ds,hk,hd,hr=>by
  simp only[S.toVs]at hd;split at hd
  ·rename_i d r h1 h2;simp at hd;subst hd;exact⟨h.frozenV hf (fun k hm=>hk k<|by simp[Cs.obs,hm]) h1 hr.1,h.frozenVs hf (fun k hm=>hk k<|by simp[Cs.obs,hm]) h2 hr.2⟩
  grind
end B
namespace B
open Go Go.RowKit
variable {U:Uni} {P:Program} {E:Enc U} {fr:Fr} {w:World} {g:G} {s:S U} {a:Act}
def RO{g g' ob w w' q}{o:Ob U}(hq:q<ob.length)(hver:∀o0,ob[q]?=some (some o0)→o0.ver<o.ver)(hst:Keeps g.St w g'.St w')(hlb:∀k,g.lb k→g'.lb k∧g'.β k=g.β k)(htk:∀k,k≠q→g'.tk k=g.tk k):GLe g ob w g' (ob.set q<|some o) w':=by
 refine⟨hst,hlb,fun k o' hk=>?_⟩;grind
theorem uo{i j n z:Nat}(hi:i<n)(hj:j<z):i*z+j<n*z:=by
 have:(i+1)*z≤n*z:=fB _ hi;grind
def Sim.newObj(h:Sim P E fr g s a w){q o}(hq:q<s.ob.length)(hver:∀o0,s.ob[q]?=some (some o0)→o0.ver<o.ver) t{arr:List Value}{cap f}(hfr:o.fr=some f)(hf:f≤o.xs.length)(hcap0:o.xs.length≤cap∧o.xs.length≤9223372036854775807)(harr:arr.length=cap*U.sz o.τ)(hrel:∀i(hi:i<o.xs.length) j d,(E.enc o.τ o.xs[i])[j]?=some d→∃u,arr[i*U.sz o.τ+j]?=some u∧VRel E g.St w u d):
 ∃g',Sim P E fr g' {s with ob:=s.ob.set q<|some o} a (w.alloc<|.cells arr.toArray t)∧
  CRel P E g' (s.ob.set q<|some o) (w.alloc<|.cells arr.toArray t) (.slice (some ⟨w.heap.size,0,none⟩) o.xs.length cap) (.ob q o.ver):=by
 have hcap:=hcap0.1;have hext:Ext w (w.alloc<|.cells arr.toArray t):=(Ext.refl _).alloc _;let g':G:={g with ω:=fun b i=>if b=w.heap.size then(if i<f*U.sz o.τ then some .st else if i<arr.length then some (.obj q)else none)else g.ω b i,tk:=fun k=>if k=q then(some ⟨w.heap.size,0,none⟩,cap)else g.tk k};have hω:∀b i,b<w.heap.size→g'.ω b i=g.ω b i:=fun b i hb=>by grind
 have hωn:∀i,g'.ω w.heap.size i=if i<f*U.sz o.τ then some .st else if i<arr.length then some (.obj q)else none:=fun i=>by grind
 have hs:=fun x=>h.sameNew (.cells arr.toArray t) hω x;have htq:g'.tk q=(some ⟨w.heap.size,0,none⟩,cap):=by grind
 have htn:∀k,k≠q→g'.tk k=g.tk k:=fun k e=>by grind
 have hg:GLe g s.ob w g' (s.ob.set q<|some o) (w.alloc<|.cells arr.toArray t):=RO hq hver (hs .st).keeps (fun k hl=>⟨hl,rfl⟩) htn;refine⟨g',?_,⟨rfl,o,eH hq,y7 _,fun _=>by grind⟩⟩;refine{ext:=h.ext.later hext,tms:=h.tms.imp fun _ _=>AVRel.mono hg,bxs:=fun k fz cells hk=>?_,lbs:=h.lbs,obs:=?_,own:=?_,dfr:=h.dfr,fix:=h.fix,bas:=h.bas}
 ·obtain⟨hl,hb⟩:=h.bxs k fz cells hk;exact⟨hl,hb.keep hl hg<|hs _⟩
 ·intro k o' hk;have hk':(s.ob.set q<|some o)[k]?=some (some o'):=hk;by_cases e:k=q
  ·subst e;rw[eH hq]at hk';simp at hk';subst hk';refine⟨⟨by grind,fun f' hf'=>by grind⟩,fun _=>⟨w.heap.size,0,fun i j=>arr.getD (i*U.sz o.τ+j) undef,by grind,⟨fun i j hi hj=>?_,fun i hi j d hd=>?_,fun hl x hx hx'=>?_⟩⟩⟩
   ·have h1:i*U.sz o.τ+j<cap*U.sz o.τ:=uo (yu hi hcap) hj;refine⟨?_,?_⟩
    ·simp_all
    ·rw[hfr];refine⟨fun hif=>?_,fun hif=>⟨?_,by simp⟩⟩
     ·show g'.ω _ _=_;simp_all[if_pos,uo]
     ·have:f*U.sz o.τ≤i*U.sz o.τ:=fB _ hif;grind
   ·obtain⟨u,hu,hr⟩:=hrel i hi j d hd;rw[yf,hu];exact hr.mono hg.st
   ·rw[htq]at hx';have hx'':x<cap*U.sz o.τ:=hx';have hlt:x<arr.length:=by omega
    have:f*U.sz o.τ≤o.xs.length*U.sz o.τ:=fB _ hf;rw[iE];exact⟨by grind,⟨_,RM w arr t x _<|ya hlt⟩,by simp⟩
  ·rw[dP<|Ne.symm e]at hk';exact(h.obs k o' hk').keep hg.st (hs _)<|htn k e
 ·intro b i x hx;rcases yk b w.heap.size with hb|hb
  ·rw[hω b i hb]at hx;exact⟨yu hb hext.le,(h.own b i x hx).2⟩
  ·by_cases e:b=w.heap.size
   ·exact⟨by simp_all,.inl (by have:=h.ext.size;omega)⟩
   ·have hx':(if b=w.heap.size then(if i<f*U.sz o.τ then some Own.st else if i<arr.length then some (.obj q)else none)else g.ω b i)=some x:=hx;rw[if_neg e]at hx';have:=(h.own b i x hx').1;omega
def nY(o:Ob U):o.ver≤o.spent.ver∧(o.ver=o.spent.ver→o.spent.xs.length=o.xs.length∧U.sz o.spent.τ=U.sz o.τ):=by
 unfold Ob.spent;grind
def RP{k o}(h:ObRel E g w k o):ObRel E g w k o.spent:=by
 unfold Ob.spent;split
 ·obtain⟨⟨h1,_⟩,h2⟩:=h;refine⟨⟨h1,by omega⟩,fun hc=>?_⟩;obtain⟨b,off,cv,e,hA⟩:=h2 hc;exact⟨b,off,cv,e,⟨hA.cell,hA.rel,by simp⟩⟩
 ·refine⟨⟨⟨yc _,yc _⟩,by simp⟩,fun hc=>?_⟩;obtain⟨b,off,cv,e,hA⟩:=h.2 hc;exact⟨b,off,cv,e,⟨fun i j hi=>absurd hi<|cQ _,fun i hi=>absurd hi<|cQ _,by simp⟩⟩
def Sim.spend(h:Sim P E fr g s a w){k o}(hk:s.ob[k]?=some (some o)):Sim P E fr g {s with ob:=s.ob.set k<|some o.spent} a w∧GLe g s.ob w g (s.ob.set k<|some o.spent) w:=by
 have hklt:k<s.ob.length:=(ym.1 hk).1;have hg:GLe g s.ob w g (s.ob.set k<|some o.spent) w:=by
  refine⟨Keeps.refl _ _,fun _ hl=>⟨hl,rfl⟩,fun q o' hq=>?_⟩;by_cases e:q=k
  ·subst e;rw[hk]at hq;simp at hq;subst hq;exact⟨_,eH hklt,(nY o).1,fun e=>⟨((nY o).2 e).1,((nY o).2 e).2,rfl⟩⟩
  ·exact⟨o',by rw[dP<|Ne.symm e];exact hq,y7 _,fun _=>⟨rfl,rfl,rfl⟩⟩
 refine⟨{ext:=h.ext,tms:=h.tms.imp fun _ _=>AVRel.mono hg,bxs:=fun q fz cells hc=>?_,lbs:=h.lbs,obs:=fun q o' hq=>?_,own:=h.own,dfr:=h.dfr,fix:=h.fix,bas:=h.bas},hg⟩
 ·obtain⟨hl,hb⟩:=h.bxs q fz cells hc;exact⟨hl,hb.keep hl hg fun b i hx=>⟨hx,rfl,rfl⟩⟩
 ·have hq':(s.ob.set k<|some o.spent)[q]?=some (some o'):=hq;by_cases e:q=k
  ·subst e;rw[eH hklt]at hq';simp at hq';subst hq';exact RP<|h.obs q o hk
  ·rw[dP<|Ne.symm e]at hq';exact h.obs q o' hq'
open Classical in
def Sim.appIn(h:Sim P E fr g s a w){k q:Nat}{o:Ob U}{ver:Nat}{ys:List (U.Den o.τ)}(hz:0<U.sz o.τ)(hk:s.ob[k]?=some (some o))(hlive:o.live=true)(hq:q<s.ob.length)(hver:∀o0,s.ob[q]?=some (some o0)→o0.ver<ver)
 (hroom:o.xs.length+ys.length≤(g.tk k).2)(hmx:o.xs.length+ys.length≤9223372036854775807){us:List Value}(hus:us.length=ys.length*U.sz o.τ){w':World}(hst:us=[]∧w'=w∨∃b off,(g.tk k).1=some ⟨b,off,none⟩∧Stored w w' b (off+o.xs.length*U.sz o.τ) us)
 (hrel:∀i(hi:i<ys.length) j d,(E.enc o.τ ys[i])[j]?=some d→∃u,us[i*U.sz o.τ+j]?=some u∧VRel E g.St w u d):
 ∃g',Sim P E fr g' {s with ob:=(s.ob.set k<|some o.spent).set q<|some ⟨ver,o.τ,o.xs++ys,some o.frozen,true⟩} a w'∧
  CRel P E g' ((s.ob.set k<|some o.spent).set q<|some ⟨ver,o.τ,o.xs++ys,some o.frozen,true⟩) w' (.slice (g.tk k).1 (o.xs.length+ys.length) (g.tk k).2) (.ob q ver):=by
 have hoR:=h.obs k o hk;have hklt:k<s.ob.length:=(ym.1 hk).1;let g':G:={g with ω:=fun b i=>if g.ω b i=some (.obj k)then some (.obj q)else g.ω b i,tk:=fun k'=>if k'=q then g.tk k else g.tk k'};have htq:g'.tk q=g.tk k:=by grind
 have htn:∀k',k'≠q→g'.tk k'=g.tk k':=fun k' e=>by grind
 have hwk:∀b i,g.ω b i=some (.obj k)→g'.ω b i=some (.obj q):=fun b i e=>by grind
 have hwn:∀b i x,x≠.obj k→g.ω b i=some x→g'.ω b i=some x:=fun b i x hne e=>by grind
 have hfroz:o.frozen≤o.xs.length:=by
  unfold Ob.frozen;split
  ·simp
  ·rename_i f hf;exact hoR.1.2 f hf
 have hw:(∀x,x≠Own.obj k→Same g w g w' x)∧FExt fr w'∧w'.heap.size=w.heap.size∧(∀p:Addr,stuck w' p=stuck w p):=by
  rcases hst with⟨_,rfl⟩|⟨b,off,e,hst⟩
  ·exact⟨fun x _ b i hx=>⟨hx,rfl,rfl⟩,h.ext,rfl,fun _=>rfl⟩
  ·have hy:∀(i:Nat),i<us.length→g.ω b (off+o.xs.length*U.sz o.τ+i)=some (.obj k):=fun i hi=>by
    have h1:(o.xs.length+ys.length)*U.sz o.τ≤(g.tk k).2*U.sz o.τ:=fB _ hroom;rw[iA]at h1
    obtain⟨b',off',cv,e',hA⟩:=hoR.2 (by
     grind)
    rw[e]at e';simp at e';obtain⟨rfl,rfl⟩:=e';have:=(hA.spare hlive (o.xs.length*U.sz o.τ+i) (by omega)<|by omega).1;grind
   exact⟨fun x hne=>KF hst hy hne,h.ext.stored hst fun i hi=>h.wr (hy i hi)<|by simp,hst.size,hst.frozen⟩
 obtain⟨hsame,hext,hsize,hfrozen⟩:=hw;have hs:∀x,x≠Own.obj k→Same g w g' w' x:=fun x hne b i hx=>⟨hwn b i x hne hx,(hsame x hne b i hx).2⟩;have hst':Keeps g.St w g'.St w':=(hs .st<|by simp).keeps;have hg1:GLe g s.ob w g' ((s.ob.set k<|some o.spent).set q<|some ⟨ver,o.τ,o.xs++ys,some o.frozen,true⟩) w':=by
  refine⟨hst',fun _ hl=>⟨hl,rfl⟩,fun k' o' hk'=>?_⟩;by_cases e:k'=q
  ·grind
  ·rw[dP<|Ne.symm e];by_cases e2:k'=k
   ·subst e2;rw[hk]at hk';simp at hk';subst hk';exact⟨_,eH hklt,(nY o).1,fun e=>⟨((nY o).2 e).1,((nY o).2 e).2,htn _<|by assumption⟩⟩
   ·rw[dP<|Ne.symm e2];exact⟨o',hk',y7 _,fun _=>⟨rfl,rfl,htn _ e⟩⟩
 refine⟨g',?_,⟨rfl,_,eH<|by grind,y7 _,fun _=>by grind⟩⟩;refine{ext:=hext,tms:=h.tms.imp fun _ _=>AVRel.mono hg1,bxs:=fun k' fz cells hc=>?_,lbs:=h.lbs,obs:=?_,own:=?_,dfr:=h.dfr,fix:=h.fix,bas:=h.bas}
 ·obtain⟨hl,hb⟩:=h.bxs k' fz cells hc;exact⟨hl,hb.keep hl hg1<|hs _<|by simp⟩
 ·intro k' o' hk';have hk2:((s.ob.set k<|some o.spent).set q<|some ⟨ver,o.τ,o.xs++ys,some o.frozen,true⟩)[k']?=some (some o'):=hk';by_cases e:k'=q
  ·subst e;rw[eH<|by grind]at hk2;simp at hk2;subst hk2;refine⟨⟨by grind,fun f hf=>by grind⟩,fun hc=>?_⟩;rw[htq]at hc ⊢;obtain⟨b,off,cv,e,hA⟩:=hoR.2 hc;refine⟨b,off,fun i j=>if i<o.xs.length then cv i j else us.getD ((i- o.xs.length)*U.sz o.τ+j) undef,e,⟨fun i j hi hj=>?_,fun i hi j d hd=>?_,fun hl x hx hx'=>?_⟩⟩
   ·have hj':j<U.sz o.τ:=hj;have hi':i<o.xs.length+ys.length:=by grind
    rcases yk i o.xs.length with hlt|hge
    ·obtain⟨c1,c2⟩:=hA.cell i j hlt hj';simp only[if_pos hlt];unfold eu at c2 ⊢;have hcase:(g.St b (off+i*U.sz o.τ+j)∧i<o.frozen)∨(o.frozen≤i∧g.ω b (off+i*U.sz o.τ+j)=some (.obj k)∧stuck w ⟨b,off+i*U.sz o.τ+j,none⟩=false):=by
      grind[Ob.frozen,Nat.lt_or_ge]
     rcases hcase with⟨h1,h2⟩|⟨h1,h2,h3⟩
     ·obtain⟨k1,k2⟩:=hst' _ _ h1;grind
     ·have hcell:w'.cell? ⟨b,off+i*U.sz o.τ+j,none⟩=w.cell? ⟨b,off+i*U.sz o.τ+j,none⟩:=by
       rcases hst with⟨_,rfl⟩|⟨b',off',e',hst⟩
       ·rfl
       ·rw[e]at e';simp at e';obtain⟨rfl,rfl⟩:=e';exact hst.other _<|.inl (by have:=uo hlt hj';grind)
      grind
    ·have hn:¬i<o.xs.length:=by omega
     simp only[if_neg hn];have hidx:(i- o.xs.length)*U.sz o.τ+j<us.length:=by rw[hus];exact uo (by omega) hj'
     have hsplit:i*U.sz o.τ=o.xs.length*U.sz o.τ+(i- o.xs.length)*U.sz o.τ:=by rw[←iA];grind
     have hlt2:i*U.sz o.τ+j<(g.tk k).2*U.sz o.τ:=uo (by omega) hj';obtain⟨d1,_,d3⟩:=hA.spare hlive (i*U.sz o.τ+j) (by omega) hlt2;rw[←fa]at d1 d3;refine⟨?_,?_⟩
     ·rcases hst with⟨hnil,_⟩|⟨b',off',e',hst⟩
      ·grind
      ·rw[e]at e';simp at e';obtain⟨rfl,rfl⟩:=e';have:=hst.cell _ _<|ya hidx;grind
     grind[eu]
   ·rcases yk i o.xs.length with hlt|hge
    ·have hd':(E.enc o.τ o.xs[i])[j]?=some d:=by
      grind
     simp only[if_pos hlt];exact(hA.rel i hlt j d hd').mono hst'
    ·have hn:¬i<o.xs.length:=by omega
     have hi2:i- o.xs.length<ys.length:=by grind
     have hd':(E.enc o.τ ys[i- o.xs.length])[j]?=some d:=by
      grind
     obtain⟨u,hu,hr⟩:=hrel _ hi2 j d hd';simp only[if_neg hn];rw[yf,hu];exact hr.mono hst'
   ·have hx0:(o.xs++ys).length*U.sz o.τ≤x:=hx;rw[yb,iA]at hx0;obtain⟨d1,⟨v,d2⟩,d3⟩:=hA.spare hlive x (by omega) hx';refine⟨hwk _ _ d1,⟨v,?_⟩,by grind⟩;rcases hst with⟨_,rfl⟩|⟨b',off',e',hst⟩
    ·omega
    ·rw[hst.other _<|.inr<|.inl<|by grind];omega
  ·rw[dP<|Ne.symm e]at hk2;by_cases e2:k'=k
   ·subst e2;rw[eH hklt]at hk2;simp at hk2;subst hk2;obtain⟨⟨i1,i2⟩,i3⟩:=RP hoR;refine⟨⟨by grind,i2⟩,fun hc=>?_⟩;rw[htn _ e]at hc ⊢;obtain⟨b,off,cv,e',hA⟩:=i3 hc;refine⟨b,off,cv,e',⟨fun i j hi hj=>?_,fun i hi j d hd=>(hA.rel i hi j d hd).mono hst',fun hl=>?_⟩⟩
    ·obtain⟨c1,c2⟩:=hA.cell i j hi hj;unfold eu at c2 ⊢;have hsf:o.spent.fr=none:=by grind[Ob.spent]
     simp only[hsf]at c2 ⊢;obtain⟨k1,k2⟩:=hst' _ _ c2;grind
    grind[Ob.spent]
   ·rw[dP<|Ne.symm e2]at hk2;exact(h.obs k' o' hk2).keep hst' (hs _<|by grind)<|htn _ e
 ·intro b i x hx;rw[hsize];have hx':(if g.ω b i=some (.obj k)then some (Own.obj q)else g.ω b i)=some x:=hx;split at hx'
  ·rename_i hc;exact⟨(h.own b i _ hc).1,(h.wr hc<|by simp).elim .inl fun hh=>.inr<|.inl hh⟩
  ·exact h.own b i x hx'
def Sim.storeObj(h:Sim P E fr g s a w){k i off f b off0 o y us vs w'}(hk:s.ob[k]?=some (some o))(hfr:o.fr=some f)(hfi:f≤i) hi(htk:(g.tk k).1=some ⟨b,off0,none⟩)(hst:Stored w w' b (off0+i*U.sz o.τ+off) us)(hlen:off+vs.length≤U.sz o.τ)(hrel:All2 (VRel E g.St w) us vs)(hy:E.enc o.τ y=(E.enc o.τ o.xs[i]).take off++vs++(E.enc o.τ o.xs[i]).drop (off+vs.length)):
 Sim P E fr g {s with ob:=s.ob.set k<|some {o with xs:=o.xs.set i y}} a w':=by
 have hklt:k<s.ob.length:=(ym.1 hk).1;have hoR:=h.obs k o hk;obtain⟨b',off',cv,e',hA⟩:=hoR.2 (by have:=hoR.1.1;omega);rw[htk]at e';obtain⟨rfl,rfl⟩:=e';have hul:=hrel.length;have hyω:∀(j:Nat),j<us.length→g.ω b (off0+i*U.sz o.τ+off+j)=some (.obj k):=fun j hj=>by
  have:=(hA.cell i (off+j) hi<|by omega).2;simp_all[eu,fa]
 have hs:∀x,x≠Own.obj k→Same g w g w' x:=fun x hne=>KF hst hyω hne;have hst':Keeps g.St w g.St w':=(hs .st<|by simp).keeps;have hg:GLe g s.ob w g (s.ob.set k<|some {o with xs:=o.xs.set i y}) w':=by
  refine⟨hst',fun _ hl=>⟨hl,rfl⟩,fun q o' hq=>?_⟩;grind
 refine{ext:=h.ext.stored hst fun j hj=>h.wr (hyω j hj)<|by simp,tms:=h.tms.imp fun _ _=>AVRel.mono hg,bxs:=fun q fz cells hc=>?_,lbs:=h.lbs,obs:=?_,own:=fun b o x hx=>by rw[hst.size];exact h.own b o x hx,dfr:=h.dfr,fix:=h.fix,bas:=h.bas}
 ·obtain⟨hl,hb⟩:=h.bxs q fz cells hc;exact⟨hl,hb.keep hl hg<|hs _<|by simp⟩
 ·intro q o' hq;have hq':(s.ob.set k<|some {o with xs:=o.xs.set i y})[q]?=some (some o'):=hq;by_cases e:q=k
  ·subst e;rw[eH hklt]at hq';simp at hq';subst hq';refine⟨⟨by simpa using hoR.1.1,fun f' hf'=>by grind⟩,fun hc=>⟨b,off0,fun i' j=>if i'=i∧off≤j∧j<off+us.length then us.getD (j- off) undef else cv i' j,htk,⟨fun i' j hi' hj=>?_,fun i' hi' j d hd=>?_,fun hl x hx hx'=>?_⟩⟩⟩
   ·have hi2:i'<o.xs.length:=by grind
    have hj2:j<U.sz o.τ:=hj;obtain⟨c1,c2⟩:=hA.cell i' j hi2 hj2;have hmode:eu g w' q o.fr i' b (off0+i'*U.sz o.τ+j):=by
     unfold eu at c2 ⊢;rw[hfr]at c2 ⊢;exact⟨c2.1,fun hh=>⟨(c2.2 hh).1,by rw[hst.frozen];grind⟩⟩
    refine⟨?_,hmode⟩;by_cases hin:i'=i∧off≤j∧j<off+us.length
    ·have hlt:j- off<us.length:=by omega
     have:=hst.cell _ _<|ya hlt;grind
    ·rw[if_neg hin];rw[hst.other _ ?_]
     ·omega
     ·show off0+i'*U.sz o.τ+j<off0+i*U.sz o.τ+off∨off0+i*U.sz o.τ+off+us.length≤off0+i'*U.sz o.τ+j∨b≠b;rcases Nat.lt_trichotomy i' i with hlt|rfl|hgt
      ·have h1:(i'+1)*U.sz o.τ≤i*U.sz o.τ:=fB _ hlt;grind
      ·omega
      ·have h1:(i+1)*U.sz o.τ≤i'*U.sz o.τ:=fB _ hgt;grind
   ·have hi2:i'<o.xs.length:=by grind
    by_cases hii:i'=i
    ·subst hii;have hd':(E.enc o.τ y)[j]?=some d:=by
      grind
     rw[hy]at hd';have hEl:=E.len o.τ o.xs[i'];rcases RN _ vs off j d (by omega) hd' with⟨g1,g2,g3⟩|⟨g1,g2⟩
     ·rw[if_pos ⟨rfl,g1,by omega⟩];obtain⟨u,hu,hr⟩:=hrel.get _ g3;rw[yf,hu];exact hr.mono hst'
     ·rw[if_neg<|by omega];exact(hA.rel i' hi2 j d g2).mono hst'
    ·have hd':(E.enc o.τ o.xs[i'])[j]?=some d:=by
      grind
     rw[if_neg<|by omega];exact(hA.rel i' hi2 j d hd').mono hst'
   ·have hx0:o.xs.length*U.sz o.τ≤x:=by grind
    obtain⟨d1,⟨v,d2⟩,d3⟩:=hA.spare hl x hx0 hx';refine⟨d1,⟨v,?_⟩,by rw[hst.frozen];omega⟩;rw[hst.other _<|.inr<|.inl ?_]
    ·omega
    ·have h1:(i+1)*U.sz o.τ≤o.xs.length*U.sz o.τ:=fB _ hi;grind
  ·rw[dP<|Ne.symm e]at hq';exact(h.obs q o' hq').keep hst' (hs _<|by grind) rfl
end B
namespace B
open Go Go.RowKit
variable {U:Uni} {P:Program} {E:Enc U} {fr:Fr} {w:World} {g:G} {s:S U} {a:Act}
open Classical in
def Sim.frzBox(h:Sim P E fr g s a w){k:Nat}{fz:Bool}{cells:List (C U)}(hk:s.bx[k]?=some (some (fz,cells))):
 ∃g',Sim P E fr g' {s with bx:=s.bx.set k<|some (true,cells)} a w∧GLe g s.ob w g' s.ob w:=by
 let g':G:={g with ω:=fun b i=>if g.ω b i=some (.box k)then some .st else g.ω b i};have hω:∀b i x,x≠.box k→g.ω b i=some x→g'.ω b i=some x:=fun b i x hne hx=>by
  grind
 have hs:∀x,x≠.box k→Same g w g' w x:=fun x hne b i hx=>⟨hω b i x hne hx,rfl,rfl⟩;have hklt:k<s.bx.length:=(ym.1 hk).1;have hg:GLe g s.ob w g' s.ob w:=⟨(hs .st<|by simp).keeps,fun q hl=>⟨hl,rfl⟩,fun q o hq=>⟨o,hq,y7 _,fun _=>⟨rfl,rfl,rfl⟩⟩⟩;refine⟨g',?_,hg⟩;refine{ext:=h.ext,tms:=h.tms.imp fun _ _=>AVRel.mono hg,bxs:=?_,lbs:=?_,obs:=fun q o hq=>(h.obs q o hq).keep hg.st (hs _<|by simp) rfl,own:=?_,dfr:=h.dfr,fix:=h.fix,bas:=h.bas}
 ·intro q fz' cells' hc;have hc':(s.bx.set k<|some (true,cells))[q]?=some (some (fz',cells')):=hc;by_cases e:q=k
  ·subst e;rw[eH hklt]at hc';obtain⟨rfl,rfl⟩:=hc';obtain⟨hl,vs,h1,h2⟩:=h.bxs q fz cells hk;refine⟨hl,vs,h1.imp fun _ _=>CRel.mono hg,fun i v hv=>⟨(h2 i v hv).1,by simp,fun _=>?_⟩⟩;obtain⟨_,i2,i3⟩:=h2 i v hv;cases fz with
   |false=>
    show(if _ then _ else _)=_;grind
   |true=>exact hω _ _ _ (by simp)<|i3 rfl
  ·rw[dP<|Ne.symm e]at hc';obtain⟨hl,hb⟩:=h.bxs q fz' cells' hc';exact⟨hl,hb.keep hl hg<|hs _<|by grind⟩
 ·intro q hl;obtain⟨c,hc⟩:=h.lbs q hl;grind
 ·intro b i x hx;have hx':(if g.ω b i=some (.box k)then some Own.st else g.ω b i)=some x:=hx;split at hx'
  ·rename_i hc;exact⟨(h.own b i _ hc).1,(h.wr hc<|by simp).elim .inl fun hh=>.inr<|.inl hh⟩
  ·exact h.own b i x hx'
def Sim.frozenD{s0:S U}(h:Sim P E fr g s a w)(hf:FrzLe s0.ob s.ob){v x d}(hk:∀k∈x.obs,∀o,s.ob[k]?=some (some o)→o.fr=none)(hd:s0.toD x=some d)(hc:ARel P E g s.ob w v x):DRel P E g.St w v d:=by
 unfold S.toD at hd;split at hd
 ·simp at hd;subst hd;exact hc
 ·split at hd
  ·rename_i e he;simp at hd;subst hd;exact h.frozenV hf hk he hc
  grind
 ·split at hd
  ·rename_i e he;simp at hd;subst hd;obtain⟨arr,h1,h2⟩:=hc;exact⟨arr,h1,h.frozenVs hf hk he h2⟩
  grind
 grind
def Sim.frozenDs{s0:S U}(h:Sim P E fr g s a w)(hf:FrzLe s0.ob s.ob):∀{vs:List Value}{al:List (A U)}{ds:List (D U)},(∀k∈As.obs al,∀o,s.ob[k]?=some (some o)→o.fr=none)→s0.toDs al=some ds→All2 (ARel P E g s.ob w) vs al→All2 (DRel P E g.St w) vs ds
 |[],[],ds,_,hd,_=>by simp[S.toDs]at hd;subst hd;trivial
 |v::vs,x::al,ds,hk,hd,hr=>by
  simp only[S.toDs]at hd;split at hd
  ·rename_i d r h1 h2;simp at hd;subst hd;exact⟨h.frozenD hf (fun k hm=>hk k<|by simp[As.obs,hm]) h1 hr.1,h.frozenDs hf (fun k hm=>hk k<|by simp[As.obs,hm]) h2 hr.2⟩
  grind
def Sim.frozenD0{s0:S U}(h:Sim P E fr g s a w)(hf:FrzLe s0.ob s.ob){v x d}(hk:∀k∈x.obs,∀o,s.ob[k]?=some (some o)→o.fr=none)(hd:s0.toD0 x=some d)(hc:ARel P E g s.ob w v x):D0Rel E g.St w v d:=by
 unfold S.toD0 at hd;split at hd
 ·split at hd
  ·rename_i e he;simp at hd;subst hd;exact h.frozenV hf hk he hc
  grind
 ·split at hd
  ·rename_i e he;simp at hd;subst hd;obtain⟨arr,h1,h2⟩:=hc;exact⟨arr,h1,h.frozenVs hf hk he h2⟩
  grind
 grind
def Sim.frozenD0s{s0:S U}(h:Sim P E fr g s a w)(hf:FrzLe s0.ob s.ob):∀{vs:List Value}{al:List (A U)}{ds:List (D0 U)},(∀k∈As.obs al,∀o,s.ob[k]?=some (some o)→o.fr=none)→s0.toD0s al=some ds→All2 (ARel P E g s.ob w) vs al→All2 (D0Rel E g.St w) vs ds
 |[],[],ds,_,hd,_=>by simp[S.toD0s]at hd;subst hd;trivial
 |v::vs,x::al,ds,hk,hd,hr=>by
  simp only[S.toD0s]at hd;split at hd
  ·rename_i d r h1 h2;simp at hd;subst hd;exact⟨h.frozenD0 hf (fun k hm=>hk k<|by simp[As.obs,hm]) h1 hr.1,h.frozenD0s hf (fun k hm=>hk k<|by simp[As.obs,hm]) h2 hr.2⟩
  grind
def Sim.frozenDC{s0:S U}(h:Sim P E fr g s a w)(hf:FrzLe s0.ob s.ob){v c d}(hk:∀k∈c.obs,∀o,s.ob[k]?=some (some o)→o.fr=none)(hd:s0.toDC c=some d)(hc:CRel P E g s.ob w v c):DCRel P E g.St w v d:=by
 unfold S.toDC at hd;split at hd
 ·simp at hd;subst hd;exact hc
 ·split at hd
  ·rename_i e he;simp at hd;subst hd;exact h.frozenV hf hk he hc
  grind
def Sim.frozenDCs{s0:S U}(h:Sim P E fr g s a w)(hf:FrzLe s0.ob s.ob):∀{vs:List Value}{cs:List (C U)}{ds:List (DC U)},(∀k∈Cs.obs cs,∀o,s.ob[k]?=some (some o)→o.fr=none)→s0.toDCs cs=some ds→All2 (CRel P E g s.ob w) vs cs→All2 (DCRel P E g.St w) vs ds
 |[],[],ds,_,hd,_=>by simp[S.toDCs]at hd;subst hd;trivial
 |v::vs,x::al,ds,hk,hd,hr=>by
  simp only[S.toDCs]at hd;split at hd
  ·rename_i d r h1 h2;simp at hd;subst hd;exact⟨h.frozenDC hf (fun k hm=>hk k<|by simp[Cs.obs,hm]) h1 hr.1,h.frozenDCs hf (fun k hm=>hk k<|by simp[Cs.obs,hm]) h2 hr.2⟩
  grind
def KG:∀{q:Nat}{os:List (Ob U)}{vers:List Nat},s.vers q os=some vers→vers.length=os.length∧∀(j:Nat),j<os.length→q+j<s.ob.length∧∃v,vers[j]?=some v∧∀o0,s.ob[q+j]?=some (some o0)→o0.ver<v
 |q,[],vers,h=>by simp[S.vers]at h;subst h;exact⟨rfl,fun j hj=>absurd hj (cQ _)⟩
 |q,o::os,vers,h=>by
  simp only[S.vers]at h;split at h
  ·rename_i v vs h1 h2;obtain⟨i1,i2⟩:=KG h2;refine⟨by grind,fun j hj=>?_⟩;cases j with
   |zero=>
    unfold S.nver at h1;grind
   |succ j=>
    have:=i2 j (by grind);grind
  grind
def KH:∀(os:List (Ob U))(vers:List Nat)(q:Nat)(l:List (Option (Ob U))),vers.length=os.length→(∀j,j<os.length→q+j<l.length)→∀k,(aH l (fe q os vers))[k]?=if q≤k∧k<q+os.length then(os[k- q]?).map (fun o=>some {o with ver:=vers.getD (k- q) 0})else l[k]?
 |[],vers,q,l,_,_,k=>by
  have:¬(q≤k∧k<q+([]:List (Ob U)).length):=by simp
  rw[if_neg this];rfl
 |o::os,[],q,l,hv,_,k=>by grind
 |o::os,v::vers,q,l,hv,hl,k=>by
  simp only[fe,aH];rw[KH os vers (q+1) (l.set q (some {o with ver:=v})) (by grind) (fun j hj=>by have:=hl (j+1) (by grind);grind) k];grind
theorem RQ:∀{q:Nat}{vers:List Nat}{rs rs':List (A U)},As.ret q vers rs=some rs'→rs'.length=rs.length
 |q,vers,[],rs',h=>by simp_all[As.ret]
 |q,vers,x::rs,rs',h=>by
  simp only[As.ret]at h;split at h
  ·rename_i y ys h1 h2;simp at h;subst h;simp[RQ h2]
  grind
open Classical in
def Sim.returned(h:Sim P E fr g s a w){w':World}{v:Value}{rs rs':List (A U)}{os:List (Ob U)}{q:Nat}{vers:List Nat}(hr:pQ P E g.St w w' v rs os)(hv:s.vers q os=some vers)(hret:As.ret q vers rs=some rs'):
    ∃g',Sim P E fr g' {s with ob:=aH s.ob (fe q os vers)} a w'∧AVRel P E g' (aH s.ob (fe q os vers)) w' v (nS rs'):=by
  obtain⟨hext,gr,hlb,hold,hbd,hrel,hobs⟩:=hr;obtain⟨hvl,hvs⟩:=KG hv
  let g':G:={g with ω:=fun b i=>if b<w.heap.size then g.ω b i else match gr.ω b i with|some (.obj j)=>some (.obj (q+j))|some .st=>some .st|_=>none,
                         tk:=fun k=>if q≤k∧k<q+os.length then gr.tk (k- q)else g.tk k}
  have hωo:∀b i,b<w.heap.size→g'.ω b i=g.ω b i:=fun b i hb=>by grind
  have hωn:∀b i,¬b<w.heap.size→g'.ω b i=match gr.ω b i with|some (.obj j)=>some (.obj (q+j))|some .st=>some .st|_=>none:=fun b i hb=>by grind
  have htq:∀j,j<os.length→g'.tk (q+j)=gr.tk j:=fun j hj=>by grind
  have htn:∀k,¬(q≤k∧k<q+os.length)→g'.tk k=g.tk k:=fun k hk=>by grind
  have hs:∀x,Same g w g' w' x:=fun x b i hx=>⟨by rw[hωo b i (h.own b i x hx).1];omega,hext.cell (p:=⟨b,i,none⟩) (h.own b i x hx).1,hext.stuck (p:=⟨b,i,none⟩) (h.own b i x hx).1⟩;have hget:=KH os vers q s.ob hvl (fun j hj=>(hvs j hj).1);have hgn:∀j o,os[j]?=some o→(aH s.ob (fe q os vers))[q+j]?=some (some {o with ver:=vers.getD j 0}):=fun j o ho=>by
    grind
  have hg:GLe g s.ob w g' (aH s.ob (fe q os vers)) w':=by
    refine⟨(hs .st).keeps,fun k hl=>⟨hl,rfl⟩,fun k o hk=>?_⟩;by_cases hin':q≤k∧k<q+os.length
    · have hj:k- q<os.length:=by omega
      obtain⟨_,vj,hvj,hlt⟩:=hvs (k- q) hj;rw[show q+(k- q)=k from by omega]at hlt;grind
    grind
  have hkr:Keeps gr.St w' g'.St w':=by
    intro b i hi;refine⟨?_,rfl⟩;show g'.ω b i=_;by_cases hb:b<w.heap.size
    · rw[hωo b i hb];exact(hold b i _ hb hi).2
    · rw[hωn b i hb,show gr.ω b i=some .st from hi]
  have hobj:∀b i j,gr.ω b i=some (.obj j)→g'.ω b i=some (.obj (q+j)):=fun b i j hi=>by
    grind
  have hnew:∀j o,os[j]?=some o→ObRel E g' w' (q+j) {o with ver:=vers.getD j 0}:=by
    intro j o ho;have hj:j<os.length:=(ym.1 ho).1;obtain⟨⟨⟨h1,h1'⟩,h2⟩,_⟩:=hobs j o ho;refine⟨⟨by grind,h1'⟩,fun hc=>?_⟩;rw[htq j hj]at hc ⊢;obtain⟨b,off,cv,e,hA⟩:=h2 hc;refine⟨b,off,cv,e,⟨fun i j' hi hj'=>?_,fun i hi j' d hd=>(hA.rel i hi j' d hd).mono hkr,fun hl x hx hx'=>?_⟩⟩
    · obtain⟨c1,c2⟩:=hA.cell i j' hi hj';refine⟨c1,?_⟩;unfold eu at c2 ⊢;show match o.fr with|none=>_|some f=>_
      split at c2
      · rename_i hf;simp only[hf];exact(hkr _ _ c2).1
      · rename_i f hf;simp only[hf];exact⟨fun hh=>(hkr _ _ (c2.1 hh)).1,fun hh=>⟨hobj _ _ _ (c2.2 hh).1,(c2.2 hh).2⟩⟩
    · obtain⟨d1,d2,d3⟩:=hA.spare hl x hx hx';grind
  have hc:∀{u:Value}{c c':C U},c.ret q vers=some c'→CRel P E gr (os.map some) w' u c→CRel P E g' (aH s.ob (fe q os vers)) w' u c':=by
    intro u c c' he hu;unfold C.ret at he;split at he
    · simp at he;subst he;exact hu
    · simp at he;subst he;exact⟨hu.1.mono hkr,hu.2⟩
    · rename_i j;split at he
      · rename_i vj hvj;simp at he;subst he;obtain⟨hone,o,ho,_,hval⟩:=hu;have ho':os[j]?=some o:=by
          grind
        have hj:j<os.length:=(ym.1 ho').1;have hver:=(hobs j o ho').2;refine⟨hone,_,hgn j o ho',by grind,fun _=>?_⟩;grind
      grind
    · simp at he;subst he;exact FunRel.mono hkr hu
    grind
  have hcs:∀{us:List Value}{cs cs':List (C U)},Cs.ret q vers cs=some cs'→All2 (CRel P E gr (os.map some) w') us cs→All2 (CRel P E g' (aH s.ob (fe q os vers)) w') us cs':=by
    intro us cs
    induction cs generalizing us with
    |nil=>
      intro cs' he hu;simp[Cs.ret]at he;subst he;cases us with
      |nil=>trivial
      |cons _ _=>exact hu.elim
    |cons c cs ih=>
      intro cs' he hu;simp only[Cs.ret]at he;split at he
      · rename_i x xs h1 h2;simp at he;subst he;cases us with
        |nil=>exact hu.elim
        |cons u us=>exact⟨hc h1 hu.1,ih h2 hu.2⟩
      grind
  have ha:∀{u:Value}{x x':A U},x.ret q vers=some x'→ARel P E gr (os.map some) w' u x→ARel P E g' (aH s.ob (fe q os vers)) w' u x':=by
    intro u x x' he hu;cases x with
    |c y=>
      simp only[A.ret]at he;split at he
      · rename_i z hz;simp at he;subst he;exact hc hz hu
      grind
    |agg cs=>
      simp only[A.ret]at he;split at he
      · rename_i z hz;simp at he;subst he;obtain⟨arr,e,hh⟩:=hu;exact⟨arr,e,hcs hz hh⟩
      grind
    |top=>grind[A.ret]
  have has:∀{us:List Value}{al al':List (A U)},As.ret q vers al=some al'→All2 (ARel P E gr (os.map some) w') us al→All2 (ARel P E g' (aH s.ob (fe q os vers)) w') us al':=by
    intro us al
    induction al generalizing us with
    |nil=>
      intro al' he hu;simp[As.ret]at he;subst he;cases us with
      |nil=>trivial
      |cons _ _=>exact hu.elim
    |cons c cs ih=>
      intro cs' he hu;simp only[As.ret]at he;split at he
      · rename_i x xs h1 h2;simp at he;subst he;cases us with
        |nil=>exact hu.elim
        |cons u us=>exact⟨ha h1 hu.1,ih h2 hu.2⟩
      grind
  refine⟨g',?_,?_⟩
  · refine{ext:=h.ext.later hext,tms:=h.tms.imp fun _ _=>AVRel.mono hg,bxs:=fun k fz cells hk=>?_,lbs:=h.lbs,obs:=?_,own:=?_,dfr:=h.dfr,fix:=h.fix,bas:=h.bas}
    · obtain⟨hl,hb⟩:=h.bxs k fz cells hk;exact⟨hl,hb.keep hl hg (hs _)⟩
    · intro k o hk;have hk':(aH s.ob (fe q os vers))[k]?=some (some o):=hk;by_cases hin':q≤k∧k<q+os.length
      · have hj:k- q<os.length:=by omega
        have h1:=hgn (k- q) _ (ya hj);rw[show q+(k- q)=k from by omega,hk']at h1;simp at h1;subst h1;have:=hnew (k- q) _ (ya hj);rw[show q+(k- q)=k from by omega]at this;exact this
      · rw[hget,if_neg hin']at hk';exact(h.obs k o hk').keep hg.st (hs _) (htn k hin')
    · intro b i x hx;by_cases hb:b<w.heap.size
      · rw[hωo b i hb]at hx;exact⟨yu hb hext.le,(h.own b i x hx).2⟩
      · rw[hωn b i hb]at hx;refine⟨?_,.inl (by have:=h.ext.size;omega)⟩;cases ho:gr.ω b i with
        |none=>rw[ho]at hx;simp at hx
        |some y=>exact hbd b i y ho
  · have hl:=RQ hret
    match rs,rs',hret,hrel with
    |[],[],_,hrel=>obtain⟨arr,e,hh⟩:=hrel;exact⟨arr,e,by cases hl2:arr.toList with|nil=>trivial|cons _ _=>rw[hl2]at hh;exact hh.elim⟩
    |[x],[x'],hret,hrel=>
      simp only[As.ret]at hret;split at hret
      · rename_i y ys h1 h2;obtain⟨rfl,_⟩:=hret;exact ha h1 hrel
      · simp at hret
    |x::y::r,x'::y'::r',hret,hrel=>obtain⟨arr,e,hh⟩:=hrel;exact⟨arr,e,has hret hh⟩
    |[],_::_,_,_=>simp at hl
    |[_],[],_,_=>simp at hl
    |[_],_::_::_,_,_=>simp at hl
    |_::_::_,[],_,_=>simp at hl
    |_::_::_,[_],_,_=>simp at hl
end B
namespace B
open Go Go.RowKit
variable {U:Uni} {P:Program} {E:Enc U} {fr:Fr} {w:World} {g:G} {s:S U} {a:Act}
theorem pR{α}:∀(l:List α)(x y:List (Nat×α)),aH l (x++y)=aH (aH l x) y
 |_,[],_=>rfl
 |l,(k,x)::r,y=>pR (l.set k x) r y
def pS{x l}(h:du (x::l)=true):x ∉l∧du l=true:=by
 simp only[du,yp,jq]at h;refine⟨fun hx=>?_,h.2⟩;have:=y3z.1 h.1 x hx;simp_all
theorem nZ{k}:∀{l:List Nat}{j i:Nat},bX k l j=some i→∃m,i=j+m∧l[m]?=some k
 |[],_,_,h=>by grind[bX]
 |x::r,j,i,h=>by
  simp only[bX]at h;split at h
  ·simp_all
  ·obtain⟨m,h1,h2⟩:=nZ h;exact⟨m+1,by omega,by grind⟩
theorem KI{k}:∀{l:List Nat}{j m:Nat},du l=true→l[m]?=some k→bX k l j=some (j+m)
 |[],_,_,_,h=>by grind
 |x::r,j,m,hu,h=>by
  obtain⟨h1,h2⟩:=pS hu;simp only[bX];cases m with
  |zero=>simp_all
  |succ m=>
   have hm:r[m]?=some k:=by grind
   have hb:Nat.beq x k=false:=by
    grind[Nat.beq,Nat.eq_of_beq_eq_true]
   rw[KI h2 hm];grind
def RR{k}:∀{l:List Nat}{j:Nat},bX k l j=none→k ∉l
 |[],_,_=>by simp
 |x::r,j,h=>by
  simp only[bX]at h;split at h
  ·grind
  ·have:=RR h;simp;refine⟨?_,this⟩;rintro rfl;simp_all
def Gw:∀{oks:List Nat}{os:List (Ob U)},s.passed oks=some os→os.length=oks.length∧∀(j k:Nat),oks[j]?=some k→∃o,s.ob[k]?=some (some o)∧os[j]?=some {o with ver:=0}
 |[],os,h=>by simp[S.passed]at h;subst h;exact⟨rfl,fun j k hk=>by simp at hk⟩
 |k::ks,os,h=>by
  simp only[S.passed]at h;split at h
  ·rename_i o r h1 h2;obtain⟨i1,i2⟩:=Gw h2;grind
  grind
def Gx:∀{ks:List Nat}{bs:List (Bool×List (C U))},s.boxesAt ks=some bs→bs.length=ks.length∧∀(i k:Nat),ks[i]?=some k→∃b,s.bx[k]?=some (some b)∧bs[i]?=some b
 |[],bs,h=>by simp[S.boxesAt]at h;subst h;exact⟨rfl,fun j k hk=>by simp at hk⟩
 |k::ks,bs,h=>by
  simp only[S.boxesAt]at h;split at h
  ·rename_i o r h1 h2;obtain⟨i1,i2⟩:=Gx h2;grind
  grind
def KJ:∀{oks:List Nat}(l:List (Option<|Ob U)),du oks=true→(∀k∈oks,l[k]?=s.ob[k]?)→∀k,(aH l<|s.spents oks)[k]?=if k∈oks then(s.ob[k]?).map (Option.map Ob.spent)else l[k]?
 |[],l,_,_,k=>by rfl
 |q::oks,l,hu,hl,k=>by
  obtain⟨h1,h2⟩:=pS hu;simp only[S.spents];split
  ·rename_i o ho;simp only[aH]
   rw[KJ (l.set q (some o.spent)) h2 (fun k hk=>by
    grind) k]
   grind
  ·rw[KJ l h2 (fun k hk=>hl k<|by grind) k];by_cases e:k=q
   ·subst e;rw[if_neg h1,if_pos<|by simp,hl k<|by simp];cases hk:s.ob[k]? with
    |none=>rfl
    |some x=>
     cases x with
     |none=>rfl
     |some o=>grind
   grind
def G.sub(g:G)(ks oks:List Nat):G:=
 {β:=fun i=>g.β (ks.getD i 0),lb:=fun i=>i<ks.length,
  ω:=fun b o=>match g.ω b o with|some .st=>some .st|some (.box k)=>(bX k ks 0).map Own.box|some (.obj k)=>(bX k oks 0).map Own.obj|none=>none,
  tk:=fun j=>g.tk (oks.getD j 0)}
theorem sub_st{ks oks b o}:(g.sub ks oks).St b o↔g.St b o:=by
 show(match g.ω b o with|some .st=>some Own.st|some (.box k)=>(bX k ks 0).map Own.box|some (.obj k)=>(bX k oks 0).map Own.obj|none=>none)=some .st↔g.ω b o=some .st;cases hx:g.ω b o with
 |none=>simp
 |some x=>
  cases x with
  |st=>simp
  |box k=>simp
  |obj k=>simp
def sK{ks oks}:Keeps g.St w (g.sub ks oks).St w:=fun _ _ h=>⟨sub_st.2 h,rfl⟩
def agx{ks oks}(hu:du ks=true){b o i k}(hk:ks[i]?=some k)(h:g.ω b o=some (.box k)):(g.sub ks oks).ω b o=some (.box i):=by
 show(match g.ω b o with|some .st=>some Own.st|some (.box k)=>(bX k ks 0).map Own.box|some (.obj k)=>(bX k oks 0).map Own.obj|none=>none)=_;rw[h];simp only[KI hu hk,iE];rfl
theorem RS{ks oks}(hu:du oks=true){b o j k}(hk:oks[j]?=some k)(h:g.ω b o=some (.obj k)):(g.sub ks oks).ω b o=some (.obj j):=by
 show(match g.ω b o with|some .st=>some Own.st|some (.box k)=>(bX k ks 0).map Own.box|some (.obj k)=>(bX k oks 0).map Own.obj|none=>none)=_;rw[h];simp only[KI hu hk,iE];rfl
theorem KK{ks oks b o}(h:(g.sub ks oks).mine b o):(∃k∈ks,g.ω b o=some (.box k))∨∃k∈oks,g.ω b o=some (.obj k):=by
 obtain⟨y,hne,hy⟩:=h;have hy':(match g.ω b o with|some .st=>some Own.st|some (.box k)=>(bX k ks 0).map Own.box|some (.obj k)=>(bX k oks 0).map Own.obj|none=>none)=some y:=hy;split at hy'
 ·grind
 ·rename_i k hk;cases hi:bX k ks 0 with
  |none=>grind
  |some i=>
   grind[nZ,List.mem_of_getElem?]
 ·rename_i k hk;cases hi:bX k oks 0 with
  |none=>grind
  |some i=>
   grind[nZ,List.mem_of_getElem?]
 grind
def Dw(h:Sim P E fr g s a w){ks oks os}(hos:s.passed oks=some os){v c}(hc:CRel P E g s.ob w v c):CRel P E (g.sub ks oks) (os.map some) w v (c.pass s ks oks):=by
 obtain⟨hl,hp⟩:=Gw hos;have hone:=hc.one;cases c with
 |s x=>exact hc
 |sl τ xs f=>exact⟨hc.1.mono sK,hc.2⟩
 |ob k ver=>
  simp only[C.pass];split
  ·rename_i o j ho hj;obtain⟨m,hm,hm'⟩:=nZ hj;obtain⟨i1,i2⟩:=gN ho;refine⟨hone,{o with ver:=0},by grind,y7 _,fun _=>?_⟩;have:=h.obval ho hc;show v=.slice (g.tk<|oks.getD _ 0).1 o.xs.length (g.tk<|oks.getD _ 0).2;grind
  ·exact hone
 |bx k off=>
  simp only[C.pass];split
  ·rename_i i hi;obtain⟨m,hm,hm'⟩:=nZ hi;rw[iE]at hm;subst hm;refine⟨(ym.1 hm').1,?_⟩;show v=.pointer (some ⟨g.β<|ks.getD _ 0,off,none⟩);rw[yf,hm'];exact hc.2
  ·exact hone
 |el τ xs i off=>
  obtain⟨h1,b,o,cap,h2,h3⟩:=hc;exact⟨h1,b,o,cap,h2,h3.mono sK⟩
 |em k ver i off=>
  simp only[C.pass];split
  ·rename_i o j ho hj;obtain⟨m,hm,hm'⟩:=nZ hj;obtain⟨i1,i2⟩:=gN ho;obtain⟨_,o2,c2,c3,c4⟩:=hc;rw[i1]at c2;simp at c2;subst c2;obtain⟨d1,b,o3,d2,d3⟩:=c4 i2.symm;refine⟨hone,{o with ver:=0},by grind,y7 _,fun _=>⟨d1,b,o3,?_,d3⟩⟩;show(g.tk<|oks.getD _ 0).1=_;grind
  ·exact hone
 |fv φ=>exact FunRel.mono sK hc
 |fc f caps=>exact hone
 |top=>exact hc
def uq{α β γ R R'}(f:β→γ)(h:∀a b,R a b→R' a (f b)){l:List α}{r}(hh:All2 R l r):All2 R' l (r.map f):=All2.map_right f h hh
theorem Sim.part(h:Sim P E fr g s a w){ks oks bs os}(hu:du ks=true)(huo:du oks=true)(hbs:s.boxesAt ks=some bs)(hos:s.passed oks=some os):
 Part P E (g.sub ks oks) w (bs.map fun b=>(b.1,b.2.map<|C.pass s ks oks)) os:=by
 obtain⟨hbl,hb⟩:=Gx hbs;obtain⟨hol,ho⟩:=Gw hos;refine⟨fun i fz cells hi=>?_,fun k hk=>by have hk':k<ks.length:=hk;grind,fun j o hj=>?_,fun b o x hx=>?_,h.ext.laid,fun b o x hl hx=>?_⟩
 ·rw[dn]at hi;cases hbi:bs[i]? with
  |none=>grind
  |some b0=>
   rw[hbi]at hi;obtain⟨rfl,rfl⟩:=hi;have hil:i<ks.length:=by grind
   obtain⟨b1,h1,h2⟩:=hb i _<|ya hil;rw[hbi]at h2;simp at h2;subst h2;obtain⟨_,vs,hvs,hcell⟩:=h.bxs _ b0.1 b0.2 h1;refine⟨hil,vs,uq _ (fun _ _ hh=>Dw h hos hh) hvs,fun n v hv=>?_⟩;obtain⟨c1,c2,c3⟩:=hcell n v hv;have hβ:(g.sub ks oks).β i=g.β ks[i]:=by show g.β (ks.getD i 0)=_;grind
   rw[hβ];exact⟨c1,fun hf=>⟨(c2 hf).1,agx hu (ya hil) (c2 hf).2⟩,fun hf=>sub_st.2<|c3 hf⟩
 ·have hjl:j<oks.length:=by grind
  obtain⟨o',h1,h2⟩:=ho j _<|ya hjl;rw[hj]at h2;simp at h2;subst h2;refine⟨?_,rfl⟩;have ht:(g.sub ks oks).tk j=g.tk oks[j]:=by show g.tk (oks.getD j 0)=_;grind
  obtain⟨⟨q1,q2⟩,q3⟩:=h.obs _ o' h1;refine⟨⟨by grind,q2⟩,fun hcap=>?_⟩;rw[ht]at hcap ⊢;obtain⟨b,off,cv,eb,hA⟩:=q3 hcap;refine⟨b,off,cv,eb,⟨fun i1 j1 hi hj1=>?_,fun i1 hi j1 d hd=>(hA.rel i1 hi j1 d hd).mono sK,fun hl x hx hx'=>?_⟩⟩
  ·obtain⟨d1,d2⟩:=hA.cell i1 j1 hi hj1;unfold eu at d2 ⊢;grind[sub_st,RS,List.getElem?_eq_getElem]
  ·obtain⟨d1,d2,d3⟩:=hA.spare hl x hx hx';exact⟨RS huo (ya hjl) d1,d2,d3⟩
 ·have hx':(match g.ω b o with|some .st=>some Own.st|some (.box k)=>(bX k ks 0).map Own.box|some (.obj k)=>(bX k oks 0).map Own.obj|none=>none)=some x:=hx;cases hω:g.ω b o with
  |none=>grind
  |some y=>exact(h.own b o y hω).1
 ·have hx':(match g.ω b o with|some .st=>some Own.st|some (.box k)=>(bX k ks 0).map Own.box|some (.obj k)=>(bX k oks 0).map Own.obj|none=>none)=some x:=hx;cases hω:g.ω b o with
  |none=>grind
  |some y=>
   have:=h.nlb hl hω;grind
end B
namespace B
open Go Go.RowKit
variable {U:Uni} {P:Program} {E:Enc U} {fr:Fr} {w:World} {g:G} {s:S U} {a:Act}
def agy{g' w' k o}(h:ObRel E g w k o)(hk:Keeps g.St w g'.St w')(ht:g'.tk k=g.tk k):ObRel E g' w' k o.spent:=by
 obtain⟨⟨h1,h1'⟩,h2⟩:=h;unfold Ob.spent;split
 ·rename_i hf;refine⟨⟨by grind,by omega⟩,fun hc=>?_⟩;rw[ht]at hc ⊢;obtain⟨b,off,cv,e,hA⟩:=h2 hc;refine⟨b,off,cv,e,⟨fun i j hi hj=>?_,fun i hi j d hd=>(hA.rel i hi j d hd).mono hk,by simp⟩⟩;obtain⟨c1,c2⟩:=hA.cell i j hi hj;unfold eu at c2 ⊢;simp only[hf]at c2 ⊢;obtain⟨k1,k2⟩:=hk _ _ c2;grind
 ·refine⟨⟨⟨yc _,yc _⟩,by simp⟩,fun hc=>?_⟩;rw[ht]at hc ⊢;obtain⟨b,off,cv,e,hA⟩:=h2 hc;exact⟨b,off,cv,e,⟨fun i j hi=>absurd hi<|cQ _,fun i hi=>absurd hi<|cQ _,by simp⟩⟩
def RT{ks0:List Nat}{q}{vers:List Nat}:∀{ks:List Nat}{bs:List (Bool×List (C U))}(l:List (Option<|Bool×List (C U))),du ks=true→bs.length=ks.length→(∀k∈ks,k<l.length)→∀k,(aH l<|rI ks0 q vers ks bs)[k]?=match bX k ks 0 with|some i=>(bs[i]?).map (fun b=>some (b.1,b.2.map<|C.back ks0 q vers))|none=>l[k]?
 |[],bs,l,_,_,_,k=>by rfl
 |x::ks,[],l,_,hl,_,k=>by grind
 |x::ks,b::bs,l,hu,hl,hlt,k=>by
  obtain⟨h1,h2⟩:=pS hu;simp only[rI,aH];rw[RT (l.set x _) h2 (by grind) (fun k hk=>by grind) k];have hshift:∀(l:List Nat)(j:Nat),bX k l (j+1)=(bX k l j).map (·+1):=by
   intro l
   induction l with
   |nil=>intro j;rfl
   |cons y r ih=>grind[bX]
  simp only[bX];cases hb:Nat.beq x k with
  |true=>
   have:=PU hb;subst this;have:bX x ks 0=none:=by
    cases hi:bX x ks 0 with
    |none=>rfl
    |some i=>obtain⟨m,_,hm⟩:=nZ hi;exact(h1<|y9 hm).elim
   rw[this];simp;rw[eH<|hlt x<|by simp]
  |false=>
   have hne:x≠k:=by rintro rfl;simp_all
   grind
open Classical in
def Sim.gcall(h:Sim P E fr g s a w){ks oks:List Nat}{bs bs':List (Bool×List (C U))}{os os':List (Ob U)}{q:Nat}{vers:List Nat}{w':World}{v:Value}{rs:List (A U)}
    (hu:du ks=true)(huo:du oks=true)(hbs:s.boxesAt ks=some bs)(hos:s.passed oks=some os)(hlen:bs'.length=bs.length)(hv:s.vers q os'=some vers)
    (hr:rM P E (g.sub ks oks) w w' v rs bs' os'):
    ∃g2,Sim P E fr g2 {s with bx:=aH s.bx (rI ks q vers ks bs'),ob:=aH s.ob (s.spents oks++fe q os' vers)} a w'∧AVRel P E g2 (aH s.ob (s.spents oks++fe q os' vers)) w' v (nS (rs.map (A.back ks q vers))):=by
  obtain⟨g',hfx,hp,hβ,hor,hrel⟩:=hr;obtain⟨hbl,hb⟩:=Gx hbs;obtain⟨hol,ho⟩:=Gw hos;obtain⟨hvl,hvs⟩:=KG hv;rw[pR];have hsl:(aH s.ob (s.spents oks)).length=s.ob.length:=by
    have:∀(x:List (Nat×Option (Ob U)))(l:List (Option (Ob U))),(aH l x).length=l.length:=by
      intro x
      induction x with
      |nil=>intro l;rfl
      |cons y x ih=>simp_all[aH]
    grind
  have hget0:=KH os' vers q (aH s.ob (s.spents oks)) hvl (fun j hj=>by grind);have hgets:=KJ (s:=s) s.ob huo (fun _ _=>rfl);generalize hob2:aH (aH s.ob (s.spents oks)) (fe q os' vers)=ob2 at hget0
  have hbget:=RT (ks0:=ks) (q:=q) (vers:=vers) s.bx hu (by rw[hlen,hbl]) (fun k hk=>by
    grind[List.getElem?_of_mem,List.getElem?_eq_some_iff])
  generalize hbx2:aH s.bx (rI ks q vers ks bs')=bx2 at hbget
  let g2:G:={β:=g.β,lb:=g.lb,
                  ω:=fun b o=>if(g.sub ks oks).mine b o∨¬b<w.heap.size then(match g'.ω b o with|some .st=>some .st|some (.box i)=>(ks[i]?).map Own.box|some (.obj j)=>some (.obj (q+j))|none=>none)else g.ω b o,
                  tk:=fun k=>if q≤k∧k<q+os'.length then g'.tk (k- q)else g.tk k}
  have hωo:∀b o,b<w.heap.size→¬(g.sub ks oks).mine b o→g2.ω b o=g.ω b o:=fun b o h1 h2=>by
    grind
  have hωn:∀b o,((g.sub ks oks).mine b o∨¬b<w.heap.size)→g2.ω b o=(match g'.ω b o with|some .st=>some Own.st|some (.box i)=>(ks[i]?).map Own.box|some (.obj j)=>some (.obj (q+j))|none=>none):=fun b o h1=>by
    grind
  have htq:∀j,j<os'.length→g2.tk (q+j)=g'.tk j:=fun j hj=>by grind
  have htn:∀k,¬(q≤k∧k<q+os'.length)→g2.tk k=g.tk k:=fun k hk=>by grind
  have hsame:∀x,x=.st∨(∃k,x=.box k∧k ∉ks)∨(∃k,x=.obj k∧k ∉oks)→Same g w g2 w' x:=by
    intro x hx b o hω;have hlt:=(h.own b o x hω).1;have hnm:¬(g.sub ks oks).mine b o:=by
      grind[KK]
    exact⟨by grind,hfx.cell b o hlt hnm,hfx.frozen b o hlt hnm⟩
  have hst:Keeps g.St w g2.St w':=(hsame .st (.inl rfl)).keeps;have hkr:Keeps g'.St w' g2.St w':=by
    intro b o hi;refine⟨?_,rfl⟩;have hi':g'.ω b o=some .st:=hi;by_cases hb':b<w.heap.size
    · rcases hor b o _ hb' hi' with hm|⟨_,hm⟩
      · show g2.ω b o=_;grind
      · exact(hst b o (sub_st.1 hm)).1
    · show g2.ω b o=_;grind
  have hbox:∀b o i k,ks[i]?=some k→g'.ω b o=some (.box i)→g2.ω b o=some (.box k):=by
    grind
  have hobj:∀b o j,g'.ω b o=some (.obj j)→g2.ω b o=some (.obj (q+j)):=by
    grind
  have hgn:∀j o,os'[j]?=some o→ob2[q+j]?=some (some {o with ver:=vers.getD j 0}):=fun j o ho=>by
    grind
  have hg:GLe g s.ob w g2 ob2 w':=by
    refine⟨hst,fun k hl=>⟨hl,rfl⟩,fun k o hk=>?_⟩;by_cases hin':q≤k∧k<q+os'.length
    · have hj:k- q<os'.length:=by omega
      obtain⟨_,vj,hvj,hlt⟩:=hvs (k- q) hj;rw[show q+(k- q)=k from by omega]at hlt;have:=hlt o hk;refine⟨_,by rw[←show q+(k- q)=k from by omega];exact hgn (k- q) _ (ya hj),?_,fun e=>?_⟩
      all_goals grind
    · by_cases hko:k∈oks
      · refine⟨o.spent,by rw[hget0,if_neg hin',hgets,if_pos hko,hk];rfl,(nY o).1,fun e=>⟨((nY o).2 e).1,((nY o).2 e).2,htn k hin'⟩⟩
      · exact⟨o,by rw[hget0,if_neg hin',hgets,if_neg hko];exact hk,y7 _,fun _=>⟨rfl,rfl,htn k hin'⟩⟩
  have hnew:∀j o,os'[j]?=some o→ObRel E g2 w' (q+j) {o with ver:=vers.getD j 0}:=by
    intro j o ho;have hj:j<os'.length:=(ym.1 ho).1;obtain⟨⟨⟨h1,h1'⟩,h2⟩,_⟩:=hp.obs j o ho;refine⟨⟨by grind,h1'⟩,fun hc=>?_⟩;rw[htq j hj]at hc ⊢;obtain⟨b,off,cv,e,hA⟩:=h2 hc;refine⟨b,off,cv,e,⟨fun i j' hi hj'=>?_,fun i hi j' d hd=>(hA.rel i hi j' d hd).mono hkr,fun hl x hx hx'=>?_⟩⟩
    · obtain⟨c1,c2⟩:=hA.cell i j' hi hj';refine⟨c1,?_⟩;unfold eu at c2 ⊢;show match o.fr with|none=>_|some f=>_
      split at c2
      · rename_i hf;simp only[hf];exact(hkr _ _ c2).1
      · rename_i f hf;simp only[hf];exact⟨fun hh=>(hkr _ _ (c2.1 hh)).1,fun hh=>⟨hobj _ _ _ (c2.2 hh).1,(c2.2 hh).2⟩⟩
    · obtain⟨d1,d2,d3⟩:=hA.spare hl x hx hx';grind
  have hlbk:∀i,g'.lb i→∃k,ks[i]?=some k∧g'.β i=g.β k∧g.lb k:=by
    intro i hi;have hil:i<ks.length:=by have:=hp.lbs i hi;omega
    obtain⟨b,h1,_⟩:=hb i _ (ya hil);refine⟨_,ya hil,?_,(h.bxs _ b.1 b.2 h1).1⟩;rw[hβ i hil];show g.β (ks.getD i 0)=_;grind
  have hc:∀{u:Value}{c:C U},CRel P E g' (os'.map some) w' u c→CRel P E g2 ob2 w' u (c.back ks q vers):=by
    intro u c hu';have hone:=hu'.one;cases c with
    |s x=>exact hu'
    |sl τ xs f=>exact⟨hu'.1.mono hkr,hu'.2⟩
    |ob j ver=>
      cases ver with
      |zero=>
        simp only[C.back];split
        · rename_i vj hvj;obtain⟨_,o,ho1,_,hval⟩:=hu';have ho':os'[j]?=some o:=by
            rw[dn]at ho1;cases hoj:os'[j]? with
            |none=>rw[hoj]at ho1;simp at ho1
            |some o2=>rw[hoj]at ho1;simp at ho1;rw[ho1]
          have hj:j<os'.length:=(ym.1 ho').1;have hver:=(hp.obs j o ho').2;refine⟨hone,_,hgn j o ho',by rw[yf,hvj];exact y7 _,fun _=>?_⟩;rw[htq j hj];exact hval hver.symm
        · exact hone
      |succ n=>exact hone
    |em j ver i off=>exact hone
    |bx i off=>
      simp only[C.back];obtain⟨k,h1,h2,h3⟩:=hlbk i hu'.1;rw[h1];exact⟨h3,by show u=.pointer (some ⟨g.β k,off,none⟩);rw[←h2];exact hu'.2⟩
    |el τ xs i off=>
      obtain⟨h1,b,o,cap,h2,h3⟩:=hu';exact⟨h1,b,o,cap,h2,h3.mono hkr⟩
    |fv φ=>exact FunRel.mono hkr hu'
    |fc f caps=>exact hone
    |top=>exact hu'
  have ha:∀(u:Value)(x:A U),ARel P E g' (os'.map some) w' u x→ARel P E g2 ob2 w' u (x.back ks q vers):=by
    intro u x hu';cases x with
    |c y=>exact hc hu'
    |agg cs=>
      obtain⟨arr,e,hh⟩:=hu';exact⟨arr,e,uq (C.back ks q vers) (fun _ _ hx=>hc hx) hh⟩
    |top=>trivial
  refine⟨g2,?_,?_⟩
  · refine{ext:=?_,tms:=h.tms.imp fun _ _=>AVRel.mono hg,bxs:=fun k fz cells hk=>?_,lbs:=fun k hl=>?_,obs:=fun k o hk=>?_,own:=fun b o x hx=>?_,dfr:=h.dfr,fix:=h.fix,bas:=h.bas}
    · have hown:∀b o,(g.sub ks oks).mine b o→fr.w0.heap.size≤b∨fr.own b o:=by
        intro b o hm;rcases KK hm with⟨k,_,hh⟩|⟨k,_,hh⟩
        · exact h.wr hh (by simp)
        · exact h.wr hh (by simp)
      have hle:fr.w0.heap.size≤w.heap.size:=h.ext.size;refine⟨hfx.os.trans h.ext.os,hfx.tape.trans h.ext.tape,hfx.output.trans h.ext.output,gK h.ext.size hfx.size,fun k hk hn=>?_,fun b o hb' hn=>?_,fun b o hb' hn=>?_,hfx.laid,h.ext.lb0,h.ext.nlb⟩
      · rw[hfx.block k (yu hk hle) (fun o hm=>by rcases hown k o hm with h1|h1;omega;exact hn o h1)];exact h.ext.block k hk hn
      · rw[hfx.cell b o (yu hb' hle) (fun hm=>by rcases hown b o hm with h1|h1;omega;exact hn h1)];exact h.ext.cell b o hb' hn
      · rw[hfx.frozen b o (yu hb' hle) (fun hm=>by rcases hown b o hm with h1|h1;omega;exact hn h1)];exact h.ext.frozen b o hb' hn
    · have hk':bx2[k]?=some (some (fz,cells)):=hk;rw[hbget]at hk';cases hi:bX k ks 0 with
      |none=>
        rw[hi]at hk';obtain⟨hl,hbr⟩:=h.bxs k fz cells hk';exact⟨hl,hbr.keep hl hg (hsame _ (.inr (.inl ⟨k,rfl,RR hi⟩)))⟩
      |some i=>
        rw[hi]at hk';dsimp only at hk';obtain⟨m,hm,hm'⟩:=nZ hi;rw[iE]at hm;subst hm;cases hbi:bs'[i]? with
        |none=>rw[hbi]at hk';simp at hk'
        |some b0=>
          rw[hbi]at hk';simp at hk';obtain⟨rfl,rfl⟩:=hk';obtain⟨hl,vs,hvs',hcell⟩:=hp.bxs i b0.1 b0.2 hbi;obtain⟨k',e1,e2,e3⟩:=hlbk i hl;rw[hm']at e1;simp at e1;subst e1;refine⟨e3,vs,uq (C.back ks q vers) (fun _ _ hx=>hc hx) hvs',fun n u hu'=>?_⟩;obtain⟨c1,c2,c3⟩:=hcell n u hu';show w'.cell? ⟨g.β k,n,none⟩=_∧(_→stuck w' ⟨g.β k,n,none⟩=false∧g2.ω (g.β k) n=_)∧(_→g2.St (g.β k) n);rw[←e2];exact⟨c1,fun hf=>⟨(c2 hf).1,hbox _ _ _ _ hm' (c2 hf).2⟩,fun hf=>(hkr _ _ (c3 hf)).1⟩
    · show∃c,bx2[k]?=_;rw[hbget];cases hi:bX k ks 0 with
      |none=>exact h.lbs k hl
      |some i=>
        obtain⟨m,hm,hm'⟩:=nZ hi;rw[iE]at hm;subst hm;have hil:i<bs'.length:=by rw[hlen,hbl];exact(ym.1 hm').1
        simp only[ya hil];exact⟨_,rfl⟩
    · have hk':ob2[k]?=some (some o):=hk;by_cases hin':q≤k∧k<q+os'.length
      · have hj:k- q<os'.length:=by omega
        have h1:=hgn (k- q) _ (ya hj);rw[show q+(k- q)=k from by omega,hk']at h1;simp at h1;subst h1;have:=hnew (k- q) _ (ya hj);rw[show q+(k- q)=k from by omega]at this;exact this
      · rw[hget0,if_neg hin',hgets]at hk';by_cases hko:k∈oks
        · rw[if_pos hko]at hk';cases hsk:s.ob[k]? with
          |none=>rw[hsk]at hk';simp at hk'
          |some x=>
            cases x with
            |none=>rw[hsk]at hk';simp at hk'
            |some o0=>
              rw[hsk]at hk';simp at hk';subst hk';exact agy (h.obs k o0 hsk) hst (htn k hin')
        · rw[if_neg hko]at hk';exact(h.obs k o hk').keep hst (hsame _ (.inr (.inr ⟨k,rfl,hko⟩))) (htn k hin')
    · have hsz:=hfx.size;by_cases hc':(g.sub ks oks).mine b o∨¬b<w.heap.size
      · rw[hωn b o hc']at hx;have hlt:b<w'.heap.size:=by
          cases hω:g'.ω b o with
          |none=>rw[hω]at hx;simp at hx
          |some y=>exact hp.own b o y hω
        refine⟨hlt,?_⟩;rcases hc' with hm|hn
        · rcases KK hm with⟨k,_,hh⟩|⟨k,_,hh⟩
          · exact(h.wr hh (by simp)).elim .inl (fun hh=>.inr (.inl hh))
          · exact(h.wr hh (by simp)).elim .inl (fun hh=>.inr (.inl hh))
        · exact .inl (by have:=h.ext.size;omega)
      · have hb':b<w.heap.size:=by
          by_cases hlt:b<w.heap.size
          · exact hlt
          · exact(hc' (.inr hlt)).elim
        rw[hωo b o hb' (fun hm=>hc' (.inl hm))]at hx;exact⟨yu hb' hsz,(h.own b o x hx).2⟩
  · match rs,hrel with
    |[],hrel=>obtain⟨arr,e,hh⟩:=hrel;exact⟨arr,e,uq (A.back ks q vers) ha hh⟩
    |[x],hrel=>exact ha _ _ hrel
    |x::y::r,hrel=>obtain⟨arr,e,hh⟩:=hrel;exact⟨arr,e,uq (A.back ks q vers) ha hh⟩
end B
end Go.Proofs.YtjfpbchdcbhfgaaGreat
