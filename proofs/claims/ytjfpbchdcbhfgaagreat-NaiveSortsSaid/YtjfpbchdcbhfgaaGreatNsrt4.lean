/- Part 4 of the proof: BSim2. -/
import Derived.Test.YtjfpbchdcbhfgaaGreatNsrt3
namespace Go.Proofs.YtjfpbchdcbhfgaaGreat.B
open Go Go.RowKit
variable {U:Uni} {P:Program} {E:Enc U} {fr:Fr} {w:World} {g:G} {s:S U} {a:Act}
theorem z188 (w:World) (vs:List Value) (t:TypeId) (i:Nat) (v:Value) (h:vs[i]? = some v) : (w.alloc (.cells vs.toArray t)).cell? ⟨w.heap.size,i,none⟩=some v:=by
 simp [h]
theorem Sim.sameNew (h:Sim P E fr g s a w) (O:Obj) {g':G} (hω:∀ b o,b<w.heap.size→g'.ω b o=g.ω b o) (x:Own) : Same g w g' (w.alloc O) x:=by
 intro b o hx
 have hb:=(h.own b o x hx).1
 have hext:Ext w (w.alloc O):=(Ext.refl _).alloc _
 exact⟨by rw[hω b o hb];exact hx,hext.cell (p:=⟨b,o,none⟩) hb,hext.stuck (p:=⟨b,o,none⟩) hb⟩
theorem Sim.newBox (h:Sim P E fr g s a w) {k:Nat} {vs:List Value} {cs:List (C U)} (t:TypeId) (hk:s.bx[k]? = some none) (hkb:s.base≤k) (hr:All2 (CRel P E g s.ob w) vs cs) :
  ∃ g',Sim P E fr g' { s with bx:=s.bx.set k (some (false,cs)) } a (w.alloc (.cells vs.toArray t))∧CRel P E g' s.ob (w.alloc (.cells vs.toArray t)) (.pointer (some ⟨w.heap.size,0,none⟩)) (.bx k 0):=by
 have hext:Ext w (w.alloc (.cells vs.toArray t)):=(Ext.refl _).alloc _
 have hnl:¬ g.lb k:=fun hl=>by obtain⟨cells,hc⟩:=h.lbs _ hl;rw[hk] at hc;simp at hc
 let g' : G:={ g with β:=fun q=>if q=k then w.heap.size else g.β q,lb:=fun q=>g.lb q∨q=k,ω:=fun b o=>if b=w.heap.size then (if o<vs.length then some (.box k) else none) else g.ω b o }
 have hω:∀ b o,b<w.heap.size→g'.ω b o=g.ω b o:=fun b o hb=>by show (if b=w.heap.size then _ else _)=_;rw[if_neg (by omega)]
 have hs:=fun x=>h.sameNew (.cells vs.toArray t) hω x
 have hne:∀ q,g.lb q→q≠k:=fun q hl e=>hnl (e ▸ hl)
 have hg:GLe g s.ob w g' s.ob (w.alloc (.cells vs.toArray t)) :=
  ⟨(hs .st).keeps,fun q hl=>⟨.inl hl,by show (if q=k then _ else _)=_;rw[if_neg (hne q hl)]⟩,fun q o hq=>⟨o,hq,Nat.le_refl _,fun _=>⟨rfl,rfl,rfl⟩⟩⟩
 have hbk:g'.β k=w.heap.size:=by show (if k=k then _ else _)=_;rw[if_pos rfl]
 have hklt:k<s.bx.length:=(List.getElem?_eq_some_iff.1 hk).1
 refine⟨g',?_,⟨.inr rfl,by rw[hbk]⟩⟩
 refine { ext:=h.ext.later hext,tms:=h.tms.imp fun _ _=>AVRel.mono hg,bxs:=?_,lbs:=?_,obs:=fun q o hq=>(h.obs q o hq).keep hg.st (hs _) rfl,own:=?_,dfr:=h.dfr,fix:=fun q hq hl=>?_,bas:=h.bas }
 ·intro q fz cells hc
  have hc':(s.bx.set k (some (false,cs)))[q]? = some (some (fz,cells)):=hc
  by_cases e : q=k
  ·subst e
   rw[List.getElem?_set_self hklt] at hc'
   simp at hc';obtain⟨rfl,rfl⟩:=hc'
   refine⟨.inr rfl,vs,hr.imp fun _ _=>CRel.mono hg,fun i v hv=>?_⟩
   rw[hbk]
   refine⟨z188 w vs t i v hv,fun _=>⟨by simp,?_⟩,by simp⟩
   show (if w.heap.size=w.heap.size then _ else _)=_
   rw[if_pos rfl,if_pos (List.getElem?_eq_some_iff.1 hv).1]
  ·rw[List.getElem?_set_ne (Ne.symm e)] at hc'
   obtain⟨hl,hb⟩:=h.bxs q fz cells hc'
   exact⟨.inl hl,hb.keep hl hg (hs _)⟩
 ·intro q hl
  show ∃ c,(s.bx.set k (some (false,cs)))[q]? = some (some c)
  by_cases e : q=k
  ·subst e;exact⟨_,List.getElem?_set_self hklt⟩
  ·rcases hl with hl | hl
   ·obtain⟨c,hc⟩:=h.lbs q hl
    exact⟨c,by rw[List.getElem?_set_ne (Ne.symm e)];exact hc⟩
   ·exact (e hl).elim
 ·intro b o x hx
  rcases Nat.lt_or_ge b w.heap.size with hb | hb
  ·rw[hω b o hb] at hx
   exact⟨Nat.lt_of_lt_of_le hb hext.le,(h.own b o x hx).2⟩
  ·have hx':(if b=w.heap.size then (if o<vs.length then some (Own.box k) else none) else g.ω b o)=some x:=hx
   by_cases e : b=w.heap.size
   ·exact⟨by simp;omega,.inl (by have:=h.ext.size;omega)⟩
   ·rw[if_neg e] at hx'
    have:=(h.own b o x hx').1;omega
 ·have hne':q≠k:=by have:=h.bas;omega
  show (if q=k then w.heap.size else g.β q)=fr.β q
  rw[if_neg hne']
  rcases hl with hl | hl
  ·exact h.fix q hq hl
  ·exact (hne' hl).elim
theorem All2.splice {α β:Type} {R:α→β→Prop} {l l':List α} {r r':List β} (h:All2 R l r) (h':All2 R l' r') (off:Nat) :
  All2 R (l.take off++l'++l.drop (off+l'.length)) (r.take off++r'++r.drop (off+r'.length)):=by
 rw[h'.length]
 exact ((h.take off).append h').append (h.drop _)
theorem z1an {α:Type} (l l':List α) (off i:Nat) (v:α) (hl:off+l'.length≤l.length) (h:(l.take off++l'++l.drop (off+l'.length))[i]? = some v) :
  (off≤i∧i<off+l'.length∧l'[i - off]? = some v)∨((i<off∨off+l'.length≤i)∧l[i]? = some v):=by
 have ht:(l.take off).length=off:=by simp;omega
 rcases Nat.lt_or_ge i off with h1 | h1
 ·right
  refine⟨.inl h1,?_⟩
  rw[List.append_assoc,List.getElem?_append_left (by omega),List.getElem?_take_of_lt h1] at h
  exact h
 ·rcases Nat.lt_or_ge i (off+l'.length) with h2 | h2
  ·left
   rw[List.append_assoc,List.getElem?_append_right (by omega),ht,List.getElem?_append_left (by omega)] at h
   exact⟨h1,h2,h⟩
  ·right
   refine⟨.inr h2,?_⟩
   rw[List.getElem?_append_right (by simp;omega),List.getElem?_drop] at h
   simp only[List.length_append,ht] at h
   rw[show off+l'.length+(i - (off+l'.length))=i from by omega] at h
   exact h
theorem zse {g:G} {w w':World} {b off:Nat} {vs:List Value} (hst:Stored w w' b off vs) {y:Own} (hy:∀ (i:Nat),i<vs.length→g.ω b (off+i)=some y) {x:Own} (hne:x≠y) : Same g w g w' x:=by
 intro b' o hx
 refine⟨hx,hst.other _ ?_,hst.frozen _⟩
 by_cases e : b'=b
 ·subst e
  by_cases h1 : o<off
  ·exact .inl h1
  ·by_cases h2 : off+vs.length≤o
   ·exact .inr (.inl h2)
   ·have:=hy (o - off) (by omega)
    rw[show off+(o - off)=o from by omega,hx] at this
    simp at this;exact (hne this).elim
 ·exact .inr (.inr e)
theorem Sim.store (h:Sim P E fr g s a w) {k off:Nat} {cells cs:List (C U)} {vs:List Value} {w':World} (hk:s.bx[k]? = some (some (false,cells))) (hlen:off+cs.length≤cells.length)
  (hr:All2 (CRel P E g s.ob w) vs cs) (hst:Stored w w' (g.β k) off vs) : Sim P E fr g { s with bx:=s.bx.set k (some (false,cells.take off++cs++cells.drop (off+cs.length))) } a w':=by
 obtain⟨hl,vs0,h1,h2⟩:=h.bxs k false cells hk
 have hvl:=hr.length
 have hv0:=h1.length
 have hy:∀ (i:Nat),i<vs.length→g.ω (g.β k) (off+i)=some (.box k):=fun i hi=>by
  have hlt:off+i<vs0.length:=by omega
  exact ((h2 _ _ (List.getElem?_eq_getElem hlt)).2.1 rfl).2
 have hs:=fun x (hne:x≠Own.box k)=>zse hst hy hne
 have hg:GLe g s.ob w g s.ob w':={ GLe.refl g s.ob w with st:=(hs .st (by simp)).keeps }
 have hklt:k<s.bx.length:=(List.getElem?_eq_some_iff.1 hk).1
 refine { ext:=h.ext.stored hst (fun i hi=>h.wr (hy i hi) (by simp)),tms:=h.tms.imp fun _ _=>AVRel.mono hg,bxs:=?_,lbs:=?_,obs:=fun q o hq=>(h.obs q o hq).keep hg.st (hs _ (by simp)) rfl,own:=fun b o x hx=>by rw[hst.size];exact h.own b o x hx,dfr:=h.dfr,fix:=h.fix,bas:=h.bas }
 ·intro q fz cells' hc
  have hc':(s.bx.set k (some (false,cells.take off++cs++cells.drop (off+cs.length))))[q]? = some (some (fz,cells')):=hc
  by_cases e : q=k
  ·subst e
   rw[List.getElem?_set_self hklt] at hc'
   simp at hc';obtain⟨rfl,rfl⟩:=hc'
   refine⟨hl,vs0.take off++vs++vs0.drop (off+vs.length),?_,fun i u hu=>?_⟩
   ·have:=(h1.splice hr off).imp fun _ _=>CRel.mono hg
    simpa [List.append_assoc] using this
   ·have hlt:i<vs0.length:=by
     have:=(List.getElem?_eq_some_iff.1 hu).1
     simp only[List.length_append,List.length_take,List.length_drop] at this;omega
    obtain⟨i1,i2,_⟩:=h2 i _ (List.getElem?_eq_getElem hlt)
    rcases z1an vs0 vs off i u (by omega) hu with ⟨g1,g2,g3⟩ | ⟨g1,g2⟩
    ·have:=hst.cell (i - off) u g3
     rw[show off+(i - off)=i from by omega] at this
     exact⟨this,fun _=>⟨by rw[hst.frozen];exact (i2 rfl).1,(i2 rfl).2⟩,by simp⟩
    ·exact⟨by rw[hst.other _ (by rcases g1 with g1 | g1;exact .inl g1;exact .inr (.inl g1))];exact (h2 i u g2).1,fun _=>⟨by rw[hst.frozen];exact (i2 rfl).1,(i2 rfl).2⟩,by simp⟩
  ·rw[List.getElem?_set_ne (Ne.symm e)] at hc'
   obtain⟨hl',hb⟩:=h.bxs q fz cells' hc'
   exact⟨hl',hb.keep hl' hg (hs _ (by simpa using e))⟩
 ·intro q hl'
  obtain⟨c,hc⟩:=h.lbs q hl'
  show ∃ c,(s.bx.set k _)[q]? = some (some c)
  by_cases e : q=k
  ·subst e;exact⟨_,List.getElem?_set_self hklt⟩
  ·exact⟨c,by rw[List.getElem?_set_ne (Ne.symm e)];exact hc⟩
open Classical in
theorem Sim.frz1 (h:Sim P E fr g s a w) {k:Nat} {o:Ob U} (hk:s.ob[k]? = some (some o)) :
  ∃ g',Sim P E fr g' { s with ob:=s.ob.set k (some { o with fr:=none }) } a w∧GLe g s.ob w g' (s.ob.set k (some { o with fr:=none })) w:=by
 let g' : G:={ g with ω:=fun b i=>if g.ω b i=some (.obj k)∧∃ off,(g.tk k).1=some ⟨b,off,none⟩∧off≤i∧i<off+o.xs.length*U.sz o.τ then some .st else g.ω b i }
 have hω:∀ b i x,x≠.obj k→g.ω b i=some x→g'.ω b i=some x:=fun b i x hne hx=>by
  show (if _ then _ else _)=_
  rw[if_neg (by rintro ⟨h1,_⟩;rw[hx] at h1;simp at h1;exact hne h1)];exact hx
 have hs:∀ x,x≠.obj k→Same g w g' w x:=fun x hne b i hx=>⟨hω b i x hne hx,rfl,rfl⟩
 have hklt:k<s.ob.length:=(List.getElem?_eq_some_iff.1 hk).1
 have hg:GLe g s.ob w g' (s.ob.set k (some { o with fr:=none })) w:=by
  refine⟨(hs .st (by simp)).keeps,fun q hl=>⟨hl,rfl⟩,fun q o' hq=>?_⟩
  by_cases e : q=k
  ·subst e
   rw[hk] at hq;simp at hq;subst hq
   exact⟨_,List.getElem?_set_self hklt,Nat.le_refl _,fun _=>⟨rfl,rfl,rfl⟩⟩
  ·exact⟨o',by rw[List.getElem?_set_ne (Ne.symm e)];exact hq,Nat.le_refl _,fun _=>⟨rfl,rfl,rfl⟩⟩
 refine⟨g',?_,hg⟩
 refine { ext:=h.ext,tms:=h.tms.imp fun _ _=>AVRel.mono hg,bxs:=fun q fz cells hc=>?_,lbs:=h.lbs,obs:=?_,own:=?_,dfr:=h.dfr,fix:=h.fix,bas:=h.bas }
 ·obtain⟨hl,hb⟩:=h.bxs q fz cells hc
  exact⟨hl,hb.keep hl hg (hs _ (by simp))⟩
 ·intro q o' hq
  have hq':(s.ob.set k (some { o with fr:=none }))[q]? = some (some o'):=hq
  by_cases e : q=k
  ·subst e
   rw[List.getElem?_set_self hklt] at hq'
   simp at hq';subst hq'
   obtain⟨⟨h1,_⟩,h2⟩:=h.obs q o hk
   refine⟨⟨h1,by simp⟩,fun hc=>?_⟩
   obtain⟨b,off,cv,e,hA⟩:=h2 hc
   refine⟨b,off,cv,e,⟨fun i j hi hj=>?_,fun i hi j d hd=>(hA.rel i hi j d hd).mono hg.st,fun hl x hx hx'=>?_⟩⟩
   ·obtain⟨c1,c2⟩:=hA.cell i j hi hj
    refine⟨c1,?_⟩
    have hin:off+i*U.sz o.τ+j<off+o.xs.length*U.sz o.τ:=by
     have : (i+1)*U.sz o.τ≤o.xs.length*U.sz o.τ:=Nat.mul_le_mul_right _ hi
     have hj':j<U.sz o.τ:=hj
     rw[Nat.add_mul] at this;omega
    have hst:g.ω b (off+i*U.sz o.τ+j)=some .st∨g.ω b (off+i*U.sz o.τ+j)=some (.obj q):=by
     unfold Mode at c2
     split at c2
     ·exact .inl c2
     ·rename_i f _
      rcases Nat.lt_or_ge i f with hlt | hge
      ·exact .inl (c2.1 hlt)
      ·exact .inr (c2.2 hge).1
    show g'.ω b _=some .st
    rcases hst with hst | hst
    ·exact hω _ _ _ (by simp) hst
    ·show (if _ then _ else _)=_
     rw[if_pos ⟨hst,off,e,by omega,hin⟩]
   ·obtain⟨d1,d2,d3⟩:=hA.spare hl x hx hx'
    refine⟨?_,d2,d3⟩
    show (if _ then _ else _)=_
    rw[if_neg ?_]
    ·exact d1
    ·rintro ⟨_,off',e',h1',h2'⟩
     rw[e] at e';simp at e';subst e'
     have : o.xs.length*U.sz o.τ≤x:=hx
     omega
  ·rw[List.getElem?_set_ne (Ne.symm e)] at hq'
   exact (h.obs q o' hq').keep hg.st (hs _ (by simpa using e)) rfl
 ·intro b i x hx
  have hx':(if g.ω b i=some (.obj k)∧∃ off,(g.tk k).1=some ⟨b,off,none⟩∧off≤i∧i<off+o.xs.length*U.sz o.τ then some Own.st else g.ω b i)=some x:=hx
  split at hx'
  ·rename_i hc
   simp at hx';subst hx'
   exact⟨(h.own b i _ hc.1).1,(h.wr hc.1 (by simp)).elim .inl (fun hh=>.inr (.inl hh))⟩
  ·exact h.own b i x hx'
def FrzLe (ob ob':List (Option (Ob U))) : Prop:=∀ k : Nat,(∀ o : Ob U,ob[k]? = some (some o)→∃ o',ob'[k]? = some (some o')∧(o'=o∨o'=({ o with fr:=none } : Ob U)))∧((∀ o : Ob U,ob[k]? ≠ some (some o))→ob'[k]? = ob[k]?)
theorem FrzLe.refl (ob:List (Option (Ob U))) : FrzLe ob ob:=fun _=>⟨fun o h=>⟨o,h,.inl rfl⟩,fun _=>rfl⟩
theorem Sim.frzs {ob0:List (Option (Ob U))} : ∀ (ks:List Nat) {g:G} {s:S U} {s0:S U},s0.ob=ob0→Sim P E fr g s a w→FrzLe ob0 s.ob →
  ∃ g',Sim P E fr g' { s with ob:=sets s.ob (s0.frz ks) } a w∧GLe g s.ob w g' (sets s.ob (s0.frz ks)) w∧FrzLe ob0 (sets s.ob (s0.frz ks)) ∧
   (∀ k,(k∈ks∨∀ o,s.ob[k]? = some (some o)→o.fr=none)→∀ o,(sets s.ob (s0.frz ks))[k]? = some (some o)→o.fr=none)
 | [],g,s,s0,_,h,hf=>⟨g,h,GLe.refl _ _ _,hf,fun k hk o ho=>by
   rcases hk with hk | hk
   ·simp at hk
   ·exact hk o ho⟩
 | k::ks,g,s,s0,h0,h,hf=>by
  simp only[S.frz]
  cases hk : s0.ob[k]? with
  | none =>
   obtain⟨g',h1,h2,h3,h4⟩:=Sim.frzs ks h0 h hf
   refine⟨g',h1,h2,h3,fun q hq=>h4 q ?_⟩
   rcases hq with hq | hq
   ·rcases List.mem_cons.1 hq with rfl | hq
    ·have:=(hf q).2 (by rw[← h0,hk];simp)
     exact .inr (fun o ho=>by rw[this,← h0,hk] at ho;simp at ho)
    ·exact .inl hq
   ·exact .inr hq
  | some x =>
   cases x with
   | none =>
    obtain⟨g',h1,h2,h3,h4⟩:=Sim.frzs ks h0 h hf
    refine⟨g',h1,h2,h3,fun q hq=>h4 q ?_⟩
    rcases hq with hq | hq
    ·rcases List.mem_cons.1 hq with rfl | hq
     ·have:=(hf q).2 (by rw[← h0,hk];simp)
      exact .inr (fun o ho=>by rw[this,← h0,hk] at ho;simp at ho)
     ·exact .inl hq
    ·exact .inr hq
   | some o =>
    rw[h0] at hk
    obtain⟨o',ho',hor⟩:=(hf k).1 o hk
    have he:({ o with fr:=none } : Ob U)={ o' with fr:=none }:=by rcases hor with rfl | rfl<;>rfl
    obtain⟨g1,h1,hg1⟩:=h.frz1 ho'
    have hklt:k<s.ob.length:=(List.getElem?_eq_some_iff.1 ho').1
    simp only[sets]
    rw[he]
    have hf1:FrzLe ob0 (s.ob.set k (some { o' with fr:=none })):=by
     intro q
     by_cases e : q=k
     ·subst e
      refine⟨fun o2 h2=>?_,fun hn=>(hn o hk).elim⟩
      rw[hk] at h2;simp at h2;subst h2
      exact⟨_,List.getElem?_set_self hklt,.inr he.symm⟩
     ·rw[List.getElem?_set_ne (Ne.symm e)];exact hf q
    obtain⟨g',i1,i2,i3,i4⟩:=Sim.frzs ks h0 h1 hf1
    refine⟨g',i1,hg1.trans i2,i3,fun q hq=>i4 q ?_⟩
    rcases hq with hq | hq
    ·rcases List.mem_cons.1 hq with rfl | hq
     ·right
      intro o2 h2
      have h2':(s.ob.set q (some { o' with fr:=none }))[q]? = some (some o2):=h2
      rw[List.getElem?_set_self hklt] at h2'
      simp at h2';subst h2';rfl
     ·exact .inl hq
    ·right
     intro o2 h2
     have h2':(s.ob.set k (some { o' with fr:=none }))[q]? = some (some o2):=h2
     by_cases e : q=k
     ·subst e
      rw[List.getElem?_set_self hklt] at h2'
      simp at h2';subst h2';rfl
     ·rw[List.getElem?_set_ne (Ne.symm e)] at h2'
      exact hq o2 h2'
theorem Sim.frozenV {s0:S U} (h:Sim P E fr g s a w) (hf:FrzLe s0.ob s.ob) {v:Value} {c:C U} {d:V U} (hk:∀ k∈c.obs,∀ o,s.ob[k]? = some (some o)→o.fr=none) (hd:s0.toV c=some d) (hc:CRel P E g s.ob w v c) : VRel E g.St w v d:=by
 cases c with
 | s x=>simp [S.toV] at hd;subst hd;obtain⟨rfl,h⟩:=hc;exact .s _ h
 | sl τ xs t=>simp [S.toV] at hd;subst hd;exact hc.1
 | ob k ver =>
  simp only[S.toV] at hd
  split at hd
  ·rename_i o ho
   simp at hd;subst hd
   obtain⟨h1,h2⟩:=z7c ho
   obtain⟨o',h3,h4⟩:=(hf k).1 o h1
   obtain⟨_,o2,h5,h6,h7⟩:=hc
   rw[h3] at h5;simp at h5;subst h5
   have hfr:=hk k (by simp [C.obs]) o' h3
   have hrel:=(h.obs k o' h3).data hfr
   have hver:ver=o'.ver:=by rcases h4 with rfl | rfl<;>exact h2.symm
   rw[h7 hver]
   rcases h4 with rfl | rfl
   ·exact hrel
   ·exact hrel
  ·simp at hd
 | _=>simp [S.toV] at hd
theorem Sim.frozenVs {s0:S U} (h:Sim P E fr g s a w) (hf:FrzLe s0.ob s.ob) : ∀ {vs:List Value} {cs:List (C U)} {ds:List (V U)},(∀ k∈Cs.obs cs,∀ o,s.ob[k]? = some (some o)→o.fr=none)→s0.toVs cs=some ds→All2 (CRel P E g s.ob w) vs cs→All2 (VRel E g.St w) vs ds
 | [],[],ds,_,hd,_=>by simp [S.toVs] at hd;subst hd;trivial
 | v::vs,c::cs,ds,hk,hd,hr=>by
  simp only[S.toVs] at hd
  split at hd
  ·rename_i d r h1 h2
   simp at hd;subst hd
   exact⟨h.frozenV hf (fun k hm=>hk k (by simp [Cs.obs,hm])) h1 hr.1,h.frozenVs hf (fun k hm=>hk k (by simp [Cs.obs,hm])) h2 hr.2⟩
  ·simp at hd
end Go.Proofs.YtjfpbchdcbhfgaaGreat.B
namespace Go.Proofs.YtjfpbchdcbhfgaaGreat.B
open Go Go.RowKit
variable {U:Uni} {P:Program} {E:Enc U} {fr:Fr} {w:World} {g:G} {s:S U} {a:Act}
theorem z1ij {g g':G} {ob:List (Option (Ob U))} {w w':World} {q:Nat} {o:Ob U} (hq:q<ob.length) (hver:∀ o0,ob[q]? = some (some o0)→o0.ver<o.ver) (hst:Keeps g.St w g'.St w') (hlb:∀ k,g.lb k→g'.lb k∧g'.β k=g.β k)
  (htk:∀ k,k≠q→g'.tk k=g.tk k) : GLe g ob w g' (ob.set q (some o)) w':=by
 refine⟨hst,hlb,fun k o' hk=>?_⟩
 by_cases e : k=q
 ·subst e
  have:=hver o' hk
  exact⟨o,List.getElem?_set_self hq,by omega,fun e=>by omega⟩
 ·exact⟨o',by rw[List.getElem?_set_ne (Ne.symm e)];exact hk,Nat.le_refl _,fun _=>⟨rfl,rfl,htk k e⟩⟩
theorem ztu {i j n z:Nat} (hi:i<n) (hj:j<z) : i*z+j<n*z:=by
 have : (i+1)*z≤n*z:=Nat.mul_le_mul_right _ hi
 rw[Nat.add_mul] at this;omega
theorem Sim.newObj (h:Sim P E fr g s a w) {q:Nat} {o:Ob U} (hq:q<s.ob.length) (hver:∀ o0,s.ob[q]? = some (some o0)→o0.ver<o.ver) (t:TypeId) {arr:List Value} {cap f:Nat} (hfr:o.fr=some f) (hf:f≤o.xs.length) (hcap0:o.xs.length≤cap∧o.xs.length≤9223372036854775807)
  (harr:arr.length=cap*U.sz o.τ) (hrel:∀ i (hi:i<o.xs.length) j d,(E.enc o.τ o.xs[i])[j]? = some d→∃ u,arr[i*U.sz o.τ+j]? = some u∧VRel E g.St w u d) :
  ∃ g',Sim P E fr g' { s with ob:=s.ob.set q (some o) } a (w.alloc (.cells arr.toArray t)) ∧
   CRel P E g' (s.ob.set q (some o)) (w.alloc (.cells arr.toArray t)) (.slice (some ⟨w.heap.size,0,none⟩) o.xs.length cap) (.ob q o.ver):=by
 have hcap:=hcap0.1
 have hext:Ext w (w.alloc (.cells arr.toArray t)):=(Ext.refl _).alloc _
 let g' : G:={ g with ω:=fun b i=>if b=w.heap.size then (if i<f*U.sz o.τ then some .st else if i<arr.length then some (.obj q) else none) else g.ω b i,tk:=fun k=>if k=q then (some ⟨w.heap.size,0,none⟩,cap) else g.tk k }
 have hω:∀ b i,b<w.heap.size→g'.ω b i=g.ω b i:=fun b i hb=>by show (if b=w.heap.size then _ else _)=_;rw[if_neg (by omega)]
 have hωn:∀ i,g'.ω w.heap.size i=if i<f*U.sz o.τ then some .st else if i<arr.length then some (.obj q) else none:=fun i=>by show (if w.heap.size=w.heap.size then _ else _)=_;rw[if_pos rfl]
 have hs:=fun x=>h.sameNew (.cells arr.toArray t) hω x
 have htq:g'.tk q=(some ⟨w.heap.size,0,none⟩,cap):=by show (if q=q then _ else _)=_;rw[if_pos rfl]
 have htn:∀ k,k≠q→g'.tk k=g.tk k:=fun k e=>by show (if k=q then _ else _)=_;rw[if_neg e]
 have hg:GLe g s.ob w g' (s.ob.set q (some o)) (w.alloc (.cells arr.toArray t)):=z1ij hq hver (hs .st).keeps (fun k hl=>⟨hl,rfl⟩) htn
 refine⟨g',?_,⟨rfl,o,List.getElem?_set_self hq,Nat.le_refl _,fun _=>by rw[htq]⟩⟩
 refine { ext:=h.ext.later hext,tms:=h.tms.imp fun _ _=>AVRel.mono hg,bxs:=fun k fz cells hk=>?_,lbs:=h.lbs,obs:=?_,own:=?_,dfr:=h.dfr,fix:=h.fix,bas:=h.bas }
 ·obtain⟨hl,hb⟩:=h.bxs k fz cells hk
  exact⟨hl,hb.keep hl hg (hs _)⟩
 ·intro k o' hk
  have hk':(s.ob.set q (some o))[k]? = some (some o'):=hk
  by_cases e : k=q
  ·subst e
   rw[List.getElem?_set_self hq] at hk'
   simp at hk';subst hk'
   refine⟨⟨by rw[htq];exact hcap0,fun f' hf'=>by rw[hfr] at hf';simp at hf';omega⟩,fun _=>⟨w.heap.size,0,fun i j=>arr.getD (i*U.sz o.τ+j) undef,by rw[htq],⟨fun i j hi hj=>?_,fun i hi j d hd=>?_,fun hl x hx hx'=>?_⟩⟩⟩
   ·have h1:i*U.sz o.τ+j<cap*U.sz o.τ:=ztu (Nat.lt_of_lt_of_le hi hcap) hj
    have hlt:i*U.sz o.τ+j<arr.length:=by omega
    rw[Nat.zero_add]
    refine⟨?_,?_⟩
    ·rw[List.getD_eq_getElem?_getD,List.getElem?_eq_getElem hlt]
     exact z188 w arr t _ _ (List.getElem?_eq_getElem hlt)
    ·unfold Mode
     rw[hfr]
     refine⟨fun hif=>?_,fun hif=>⟨?_,by simp⟩⟩
     ·show g'.ω _ _=_
      rw[hωn,if_pos (ztu hif hj)]
     ·have : f*U.sz o.τ≤i*U.sz o.τ:=Nat.mul_le_mul_right _ hif
      rw[hωn,if_neg (by omega),if_pos hlt]
   ·obtain⟨u,hu,hr⟩:=hrel i hi j d hd
    rw[List.getD_eq_getElem?_getD,hu]
    exact hr.mono hg.st
   ·rw[htq] at hx'
    have hx'':x<cap*U.sz o.τ:=hx'
    have hlt:x<arr.length:=by omega
    have hx0:o.xs.length*U.sz o.τ≤x:=hx
    have : f*U.sz o.τ≤o.xs.length*U.sz o.τ:=Nat.mul_le_mul_right _ hf
    rw[Nat.zero_add]
    exact⟨by rw[hωn,if_neg (by omega),if_pos hlt],⟨_,z188 w arr t x _ (List.getElem?_eq_getElem hlt)⟩,by simp⟩
  ·rw[List.getElem?_set_ne (Ne.symm e)] at hk'
   exact (h.obs k o' hk').keep hg.st (hs _) (htn k e)
 ·intro b i x hx
  rcases Nat.lt_or_ge b w.heap.size with hb | hb
  ·rw[hω b i hb] at hx
   exact⟨Nat.lt_of_lt_of_le hb hext.le,(h.own b i x hx).2⟩
  ·by_cases e : b=w.heap.size
   ·exact⟨by simp;omega,.inl (by have:=h.ext.size;omega)⟩
   ·have hx':(if b=w.heap.size then (if i<f*U.sz o.τ then some Own.st else if i<arr.length then some (.obj q) else none) else g.ω b i)=some x:=hx
    rw[if_neg e] at hx'
    have:=(h.own b i x hx').1;omega
theorem zaj (o:Ob U) : o.ver≤o.spent.ver∧(o.ver=o.spent.ver→o.spent.xs.length=o.xs.length∧U.sz o.spent.τ=U.sz o.τ):=by
 unfold Ob.spent
 split
 ·exact⟨Nat.le_refl _,fun _=>⟨rfl,rfl⟩⟩
 ·refine⟨Nat.le_succ _,fun e=>?_⟩
  have e':o.ver=o.ver+1:=e
  omega
theorem z1ik {k:Nat} {o:Ob U} (h:ObRel E g w k o) : ObRel E g w k o.spent:=by
 unfold Ob.spent
 split
 ·rename_i hf
  obtain⟨⟨h1,_⟩,h2⟩:=h
  refine⟨⟨h1,by rw[hf];simp⟩,fun hc=>?_⟩
  obtain⟨b,off,cv,e,hA⟩:=h2 hc
  exact⟨b,off,cv,e,⟨hA.cell,hA.rel,by simp⟩⟩
 ·refine⟨⟨⟨Nat.zero_le _,Nat.zero_le _⟩,by simp⟩,fun hc=>?_⟩
  obtain⟨b,off,cv,e,hA⟩:=h.2 hc
  exact⟨b,off,cv,e,⟨fun i j hi=>absurd hi (Nat.not_lt_zero _),fun i hi=>absurd hi (Nat.not_lt_zero _),by simp⟩⟩
theorem Sim.spend (h:Sim P E fr g s a w) {k:Nat} {o:Ob U} (hk:s.ob[k]? = some (some o)) : Sim P E fr g { s with ob:=s.ob.set k (some o.spent) } a w∧GLe g s.ob w g (s.ob.set k (some o.spent)) w:=by
 have hklt:k<s.ob.length:=(List.getElem?_eq_some_iff.1 hk).1
 have hg:GLe g s.ob w g (s.ob.set k (some o.spent)) w:=by
  refine⟨Keeps.refl _ _,fun _ hl=>⟨hl,rfl⟩,fun q o' hq=>?_⟩
  by_cases e : q=k
  ·subst e
   rw[hk] at hq;simp at hq;subst hq
   exact⟨_,List.getElem?_set_self hklt,(zaj o).1,fun e=>⟨((zaj o).2 e).1,((zaj o).2 e).2,rfl⟩⟩
  ·exact⟨o',by rw[List.getElem?_set_ne (Ne.symm e)];exact hq,Nat.le_refl _,fun _=>⟨rfl,rfl,rfl⟩⟩
 refine⟨{ ext:=h.ext,tms:=h.tms.imp fun _ _=>AVRel.mono hg,bxs:=fun q fz cells hc=>?_,lbs:=h.lbs,obs:=fun q o' hq=>?_,own:=h.own,dfr:=h.dfr,fix:=h.fix,bas:=h.bas },hg⟩
 ·obtain⟨hl,hb⟩:=h.bxs q fz cells hc
  exact⟨hl,hb.keep hl hg (fun b i hx=>⟨hx,rfl,rfl⟩)⟩
 ·have hq':(s.ob.set k (some o.spent))[q]? = some (some o'):=hq
  by_cases e : q=k
  ·subst e
   rw[List.getElem?_set_self hklt] at hq'
   simp at hq';subst hq'
   exact z1ik (h.obs q o hk)
  ·rw[List.getElem?_set_ne (Ne.symm e)] at hq'
   exact h.obs q o' hq'
open Classical in
theorem Sim.appIn (h:Sim P E fr g s a w) {k q:Nat} {o:Ob U} {ver:Nat} {ys:List (U.Den o.τ)} (hz:0<U.sz o.τ) (hk:s.ob[k]? = some (some o)) (hlive:o.live=true) (hq:q<s.ob.length) (hver:∀ o0,s.ob[q]? = some (some o0)→o0.ver<ver)
  (hroom:o.xs.length+ys.length≤(g.tk k).2) (hmx:o.xs.length+ys.length≤9223372036854775807) {us:List Value} (hus:us.length=ys.length*U.sz o.τ) {w':World} (hst:us=[]∧w'=w∨∃ b off,(g.tk k).1=some ⟨b,off,none⟩∧Stored w w' b (off+o.xs.length*U.sz o.τ) us)
  (hrel:∀ i (hi:i<ys.length) j d,(E.enc o.τ ys[i])[j]? = some d→∃ u,us[i*U.sz o.τ+j]? = some u∧VRel E g.St w u d) :
  ∃ g',Sim P E fr g' { s with ob:=(s.ob.set k (some o.spent)).set q (some ⟨ver,o.τ,o.xs++ys,some o.frozen,true⟩) } a w' ∧
   CRel P E g' ((s.ob.set k (some o.spent)).set q (some ⟨ver,o.τ,o.xs++ys,some o.frozen,true⟩)) w' (.slice (g.tk k).1 (o.xs.length+ys.length) (g.tk k).2) (.ob q ver):=by
 have hoR:=h.obs k o hk
 have hklt:k<s.ob.length:=(List.getElem?_eq_some_iff.1 hk).1
 let g' : G:={ g with ω:=fun b i=>if g.ω b i=some (.obj k) then some (.obj q) else g.ω b i,tk:=fun k'=>if k'=q then g.tk k else g.tk k' }
 have htq:g'.tk q=g.tk k:=by show (if q=q then _ else _)=_;rw[if_pos rfl]
 have htn:∀ k',k'≠q→g'.tk k'=g.tk k':=fun k' e=>by show (if k'=q then _ else _)=_;rw[if_neg e]
 have hwk:∀ b i,g.ω b i=some (.obj k)→g'.ω b i=some (.obj q):=fun b i e=>by show (if _ then _ else _)=_;rw[if_pos e]
 have hwn:∀ b i x,x≠.obj k→g.ω b i=some x→g'.ω b i=some x:=fun b i x hne e=>by show (if _ then _ else _)=_;rw[if_neg (by rw[e];simpa using hne)];exact e
 have hfroz:o.frozen≤o.xs.length:=by
  unfold Ob.frozen;split
  ·exact Nat.le_refl _
  ·rename_i f hf;exact hoR.1.2 f hf
 have hw:(∀ x,x≠Own.obj k→Same g w g w' x)∧FExt fr w'∧w'.heap.size=w.heap.size∧(∀ p : Addr,stuck w' p=stuck w p):=by
  rcases hst with ⟨_,rfl⟩ | ⟨b,off,e,hst⟩
  ·exact⟨fun x _ b i hx=>⟨hx,rfl,rfl⟩,h.ext,rfl,fun _=>rfl⟩
  ·have hy:∀ (i:Nat),i<us.length→g.ω b (off+o.xs.length*U.sz o.τ+i)=some (.obj k):=fun i hi=>by
    have h1:(o.xs.length+ys.length)*U.sz o.τ≤(g.tk k).2*U.sz o.τ:=Nat.mul_le_mul_right _ hroom
    rw[Nat.add_mul] at h1
    obtain⟨b',off',cv,e',hA⟩:=hoR.2 (by
     rcases Nat.eq_zero_or_pos (g.tk k).2 with h0 | h0
     ·rw[h0] at h1;simp at h1;omega
     ·exact h0)
    rw[e] at e';simp at e';obtain⟨rfl,rfl⟩:=e'
    have:=(hA.spare hlive (o.xs.length*U.sz o.τ+i) (by omega) (by omega)).1
    rw[Nat.add_assoc];exact this
   exact⟨fun x hne=>zse hst hy hne,h.ext.stored hst (fun i hi=>h.wr (hy i hi) (by simp)),hst.size,hst.frozen⟩
 obtain⟨hsame,hext,hsize,hfrozen⟩:=hw
 have hs:∀ x,x≠Own.obj k→Same g w g' w' x:=fun x hne b i hx=>⟨hwn b i x hne hx,(hsame x hne b i hx).2⟩
 have hst':Keeps g.St w g'.St w':=(hs .st (by simp)).keeps
 have hg1:GLe g s.ob w g' ((s.ob.set k (some o.spent)).set q (some ⟨ver,o.τ,o.xs++ys,some o.frozen,true⟩)) w':=by
  refine⟨hst',fun _ hl=>⟨hl,rfl⟩,fun k' o' hk'=>?_⟩
  by_cases e : k'=q
  ·subst e
   have:=hver o' hk'
   exact⟨_,List.getElem?_set_self (by simpa using hq),by show _≤ver;omega,fun e=>by have e':o'.ver=ver:=e;omega⟩
  ·rw[List.getElem?_set_ne (Ne.symm e)]
   by_cases e2 : k'=k
   ·subst e2
    rw[hk] at hk';simp at hk';subst hk'
    exact⟨_,List.getElem?_set_self hklt,(zaj o).1,fun e=>⟨((zaj o).2 e).1,((zaj o).2 e).2,htn _ (by assumption)⟩⟩
   ·rw[List.getElem?_set_ne (Ne.symm e2)]
    exact⟨o',hk',Nat.le_refl _,fun _=>⟨rfl,rfl,htn _ e⟩⟩
 refine⟨g',?_,⟨rfl,_,List.getElem?_set_self (by simpa using hq),Nat.le_refl _,fun _=>by rw[htq];simp⟩⟩
 refine { ext:=hext,tms:=h.tms.imp fun _ _=>AVRel.mono hg1,bxs:=fun k' fz cells hc=>?_,lbs:=h.lbs,obs:=?_,own:=?_,dfr:=h.dfr,fix:=h.fix,bas:=h.bas }
 ·obtain⟨hl,hb⟩:=h.bxs k' fz cells hc
  exact⟨hl,hb.keep hl hg1 (hs _ (by simp))⟩
 ·intro k' o' hk'
  have hk2:((s.ob.set k (some o.spent)).set q (some ⟨ver,o.τ,o.xs++ys,some o.frozen,true⟩))[k']? = some (some o'):=hk'
  by_cases e : k'=q
  ·subst e
   rw[List.getElem?_set_self (by simpa using hq)] at hk2
   simp at hk2;subst hk2
   refine⟨⟨by rw[htq];simpa using ⟨hroom,hmx⟩,fun f hf=>by simp at hf;subst hf;simp;omega⟩,fun hc=>?_⟩
   rw[htq] at hc ⊢
   obtain⟨b,off,cv,e,hA⟩:=hoR.2 hc
   refine⟨b,off,fun i j=>if i<o.xs.length then cv i j else us.getD ((i - o.xs.length)*U.sz o.τ+j) undef,e,⟨fun i j hi hj=>?_,fun i hi j d hd=>?_,fun hl x hx hx'=>?_⟩⟩
   ·have hj':j<U.sz o.τ:=hj
    have hi':i<o.xs.length+ys.length:=by simpa using hi
    rcases Nat.lt_or_ge i o.xs.length with hlt | hge
    ·obtain⟨c1,c2⟩:=hA.cell i j hlt hj'
     simp only[if_pos hlt]
     unfold Mode at c2 ⊢
     have hcase:(g.St b (off+i*U.sz o.τ+j)∧i<o.frozen)∨(o.frozen≤i∧g.ω b (off+i*U.sz o.τ+j)=some (.obj k)∧stuck w ⟨b,off+i*U.sz o.τ+j,none⟩=false):=by
      split at c2
      ·rename_i hf
       have hz:o.frozen=o.xs.length:=by unfold Ob.frozen;rw[hf]
       exact .inl ⟨c2,by rw[hz];exact hlt⟩
      ·rename_i f hf
       have hz:o.frozen=f:=by unfold Ob.frozen;rw[hf]
       rw[hz]
       rcases Nat.lt_or_ge i f with h1 | h1
       ·exact .inl ⟨c2.1 h1,h1⟩
       ·exact .inr ⟨h1,c2.2 h1⟩
     rcases hcase with ⟨h1,h2⟩ | ⟨h1,h2,h3⟩
     ·obtain⟨k1,k2⟩:=hst' _ _ h1
      exact⟨by rw[k2];exact c1,fun _=>k1,fun hh=>by have hh':o.frozen≤i:=hh;omega⟩
     ·have hcell:w'.cell? ⟨b,off+i*U.sz o.τ+j,none⟩=w.cell? ⟨b,off+i*U.sz o.τ+j,none⟩:=by
       rcases hst with ⟨_,rfl⟩ | ⟨b',off',e',hst⟩
       ·rfl
       ·rw[e] at e';simp at e';obtain⟨rfl,rfl⟩:=e'
        exact hst.other _ (.inl (by have:=ztu hlt hj';show off+i*U.sz o.τ+j<_;omega))
      exact⟨by rw[hcell];exact c1,fun hh=>by have hh':i<o.frozen:=hh;omega,fun _=>⟨hwk _ _ h2,by rw[hfrozen];exact h3⟩⟩
    ·have hn:¬ i<o.xs.length:=by omega
     simp only[if_neg hn]
     have hidx:(i - o.xs.length)*U.sz o.τ+j<us.length:=by rw[hus];exact ztu (by omega) hj'
     have hsplit:i*U.sz o.τ=o.xs.length*U.sz o.τ+(i - o.xs.length)*U.sz o.τ:=by rw[← Nat.add_mul];congr 1;omega
     have hlt2:i*U.sz o.τ+j<(g.tk k).2*U.sz o.τ:=ztu (by omega) hj'
     obtain⟨d1,_,d3⟩:=hA.spare hlive (i*U.sz o.τ+j) (by omega) hlt2
     rw[← Nat.add_assoc] at d1 d3
     refine⟨?_,?_⟩
     ·rcases hst with ⟨hnil,_⟩ | ⟨b',off',e',hst⟩
      ·rw[hnil] at hidx;simp at hidx
      ·rw[e] at e';simp at e';obtain⟨rfl,rfl⟩:=e'
       have:=hst.cell _ _ (List.getElem?_eq_getElem hidx)
       rw[List.getD_eq_getElem?_getD,List.getElem?_eq_getElem hidx]
       have e2:off+o.xs.length*U.sz o.τ+((i - o.xs.length)*U.sz o.τ+j)=off+i*U.sz o.τ+j:=by omega
       rw[e2] at this;exact this
     ·unfold Mode
      exact⟨fun hh=>by have hh':i<o.frozen:=hh;omega,fun _=>⟨hwk _ _ d1,by rw[hfrozen];exact d3⟩⟩
   ·rcases Nat.lt_or_ge i o.xs.length with hlt | hge
    ·have hd':(E.enc o.τ o.xs[i])[j]? = some d:=by
      have : (o.xs++ys)[i]=o.xs[i]:=List.getElem_append_left hlt
      rw[← this];exact hd
     simp only[if_pos hlt]
     exact (hA.rel i hlt j d hd').mono hst'
    ·have hn:¬ i<o.xs.length:=by omega
     have hi2:i - o.xs.length<ys.length:=by have : i<(o.xs++ys).length:=hi;simp at this;omega
     have hd':(E.enc o.τ ys[i - o.xs.length])[j]? = some d:=by
      have : (o.xs++ys)[i]=ys[i - o.xs.length]:=List.getElem_append_right hge
      rw[← this];exact hd
     obtain⟨u,hu,hr⟩:=hrel _ hi2 j d hd'
     simp only[if_neg hn]
     rw[List.getD_eq_getElem?_getD,hu]
     exact hr.mono hst'
   ·have hx0:(o.xs++ys).length*U.sz o.τ≤x:=hx
    rw[List.length_append,Nat.add_mul] at hx0
    obtain⟨d1,⟨v,d2⟩,d3⟩:=hA.spare hlive x (by omega) hx'
    refine⟨hwk _ _ d1,⟨v,?_⟩,by rw[hfrozen];exact d3⟩
    rcases hst with ⟨_,rfl⟩ | ⟨b',off',e',hst⟩
    ·exact d2
    ·rw[e] at e';simp at e';obtain⟨rfl,rfl⟩:=e'
     rw[hst.other _ (.inr (.inl (by show off+o.xs.length*U.sz o.τ+us.length≤off+x;omega)))];exact d2
  ·rw[List.getElem?_set_ne (Ne.symm e)] at hk2
   by_cases e2 : k'=k
   ·subst e2
    rw[List.getElem?_set_self hklt] at hk2
    simp at hk2;subst hk2
    obtain⟨⟨i1,i2⟩,i3⟩:=z1ik hoR
    refine⟨⟨by rw[htn _ e];exact i1,i2⟩,fun hc=>?_⟩
    rw[htn _ e] at hc ⊢
    obtain⟨b,off,cv,e',hA⟩:=i3 hc
    refine⟨b,off,cv,e',⟨fun i j hi hj=>?_,fun i hi j d hd=>(hA.rel i hi j d hd).mono hst',fun hl=>?_⟩⟩
    ·obtain⟨c1,c2⟩:=hA.cell i j hi hj
     unfold Mode at c2 ⊢
     have hsf:o.spent.fr=none:=by unfold Ob.spent;split<;>first | rfl | assumption
     simp only[hsf] at c2 ⊢
     obtain⟨k1,k2⟩:=hst' _ _ c2
     exact⟨by rw[k2];exact c1,k1⟩
    ·have hsl:o.spent.live=false:=by unfold Ob.spent;split<;>rfl
     rw[hsl] at hl;simp at hl
   ·rw[List.getElem?_set_ne (Ne.symm e2)] at hk2
    exact (h.obs k' o' hk2).keep hst' (hs _ (by simpa using e2)) (htn _ e)
 ·intro b i x hx
  rw[hsize]
  have hx':(if g.ω b i=some (.obj k) then some (Own.obj q) else g.ω b i)=some x:=hx
  split at hx'
  ·rename_i hc
   exact⟨(h.own b i _ hc).1,(h.wr hc (by simp)).elim .inl (fun hh=>.inr (.inl hh))⟩
  ·exact h.own b i x hx'
theorem Sim.storeObj (h:Sim P E fr g s a w) {k i off f b off0:Nat} {o:Ob U} {y:U.Den o.τ} {us:List Value} {vs:List (V U)} {w':World} (hk:s.ob[k]? = some (some o)) (hfr:o.fr=some f) (hfi:f≤i) (hi:i<o.xs.length) (htk:(g.tk k).1=some ⟨b,off0,none⟩)
  (hst:Stored w w' b (off0+i*U.sz o.τ+off) us) (hlen:off+vs.length≤U.sz o.τ) (hrel:All2 (VRel E g.St w) us vs) (hy:E.enc o.τ y=(E.enc o.τ o.xs[i]).take off++vs++(E.enc o.τ o.xs[i]).drop (off+vs.length)) :
  Sim P E fr g { s with ob:=s.ob.set k (some { o with xs:=o.xs.set i y }) } a w':=by
 have hklt:k<s.ob.length:=(List.getElem?_eq_some_iff.1 hk).1
 have hoR:=h.obs k o hk
 obtain⟨b',off',cv,e',hA⟩:=hoR.2 (by have:=hoR.1.1;omega)
 rw[htk] at e';simp at e';obtain⟨rfl,rfl⟩:=e'
 have hul:=hrel.length
 have hyω:∀ (j:Nat),j<us.length→g.ω b (off0+i*U.sz o.τ+off+j)=some (.obj k):=fun j hj=>by
  have:=(hA.cell i (off+j) hi (by omega)).2
  unfold Mode at this;rw[hfr] at this
  have:=(this.2 hfi).1
  rw[← Nat.add_assoc] at this;exact this
 have hs:∀ x,x≠Own.obj k→Same g w g w' x:=fun x hne=>zse hst hyω hne
 have hst':Keeps g.St w g.St w':=(hs .st (by simp)).keeps
 have hg:GLe g s.ob w g (s.ob.set k (some { o with xs:=o.xs.set i y })) w':=by
  refine⟨hst',fun _ hl=>⟨hl,rfl⟩,fun q o' hq=>?_⟩
  by_cases e : q=k
  ·subst e
   rw[hk] at hq;simp at hq;subst hq
   exact⟨_,List.getElem?_set_self hklt,Nat.le_refl _,fun _=>⟨by simp,rfl,rfl⟩⟩
  ·exact⟨o',by rw[List.getElem?_set_ne (Ne.symm e)];exact hq,Nat.le_refl _,fun _=>⟨rfl,rfl,rfl⟩⟩
 refine { ext:=h.ext.stored hst (fun j hj=>h.wr (hyω j hj) (by simp)),tms:=h.tms.imp fun _ _=>AVRel.mono hg,bxs:=fun q fz cells hc=>?_,lbs:=h.lbs,obs:=?_,own:=fun b o x hx=>by rw[hst.size];exact h.own b o x hx,dfr:=h.dfr,fix:=h.fix,bas:=h.bas }
 ·obtain⟨hl,hb⟩:=h.bxs q fz cells hc
  exact⟨hl,hb.keep hl hg (hs _ (by simp))⟩
 ·intro q o' hq
  have hq':(s.ob.set k (some { o with xs:=o.xs.set i y }))[q]? = some (some o'):=hq
  by_cases e : q=k
  ·subst e
   rw[List.getElem?_set_self hklt] at hq'
   simp at hq';subst hq'
   refine⟨⟨by simpa using hoR.1.1,fun f' hf'=>by simpa using hoR.1.2 f' hf'⟩,fun hc=>⟨b,off0,fun i' j=>if i'=i∧off≤j∧j<off+us.length then us.getD (j - off) undef else cv i' j,htk,⟨fun i' j hi' hj=>?_,fun i' hi' j d hd=>?_,fun hl x hx hx'=>?_⟩⟩⟩
   ·have hi2:i'<o.xs.length:=by simpa using hi'
    have hj2:j<U.sz o.τ:=hj
    obtain⟨c1,c2⟩:=hA.cell i' j hi2 hj2
    have hmode:Mode g w' q o.fr i' b (off0+i'*U.sz o.τ+j):=by
     unfold Mode at c2 ⊢
     rw[hfr] at c2 ⊢
     exact⟨c2.1,fun hh=>⟨(c2.2 hh).1,by rw[hst.frozen];exact (c2.2 hh).2⟩⟩
    refine⟨?_,hmode⟩
    by_cases hin : i'=i∧off≤j∧j<off+us.length
    ·obtain⟨rfl,h1,h2⟩:=hin
     rw[if_pos (show i'=i'∧off≤j∧j<off+us.length from ⟨rfl,h1,h2⟩)]
     have hlt:j - off<us.length:=by omega
     have:=hst.cell _ _ (List.getElem?_eq_getElem hlt)
     rw[List.getD_eq_getElem?_getD,List.getElem?_eq_getElem hlt]
     rw[show off0+i'*U.sz o.τ+off+(j - off)=off0+i'*U.sz o.τ+j from by omega] at this
     exact this
    ·rw[if_neg hin]
     rw[hst.other _ ?_]
     ·exact c1
     ·show off0+i'*U.sz o.τ+j<off0+i*U.sz o.τ+off∨off0+i*U.sz o.τ+off+us.length≤off0+i'*U.sz o.τ+j∨b≠b
      rcases Nat.lt_trichotomy i' i with hlt | rfl | hgt
      ·have h1:(i'+1)*U.sz o.τ≤i*U.sz o.τ:=Nat.mul_le_mul_right _ hlt
       rw[Nat.add_mul] at h1
       exact .inl (by omega)
      ·by_cases h1 : off≤j
       ·by_cases h2 : j<off+us.length
        ·exact (hin ⟨rfl,h1,h2⟩).elim
        ·exact .inr (.inl (by omega))
       ·exact .inl (by omega)
      ·have h1:(i+1)*U.sz o.τ≤i'*U.sz o.τ:=Nat.mul_le_mul_right _ hgt
       rw[Nat.add_mul] at h1
       exact .inr (.inl (by omega))
   ·have hi2:i'<o.xs.length:=by simpa using hi'
    by_cases hii : i'=i
    ·subst hii
     have hd':(E.enc o.τ y)[j]? = some d:=by
      have : (o.xs.set i' y)[i']'(by simpa using hi2)=y:=List.getElem_set_self _
      rw[← this];exact hd
     rw[hy] at hd'
     have hEl:=E.len o.τ o.xs[i']
     rcases z1an _ vs off j d (by omega) hd' with ⟨g1,g2,g3⟩ | ⟨g1,g2⟩
     ·rw[if_pos ⟨rfl,g1,by omega⟩]
      obtain⟨u,hu,hr⟩:=hrel.get _ g3
      rw[List.getD_eq_getElem?_getD,hu]
      exact hr.mono hst'
     ·rw[if_neg (by rintro ⟨_,h1,h2⟩;omega)]
      exact (hA.rel i' hi2 j d g2).mono hst'
    ·have hd':(E.enc o.τ o.xs[i'])[j]? = some d:=by
      have : (o.xs.set i y)[i']'(by simpa using hi2)=o.xs[i']:=List.getElem_set_ne (Ne.symm hii) _
      rw[← this];exact hd
     rw[if_neg (by rintro ⟨h1,_⟩;exact hii h1)]
     exact (hA.rel i' hi2 j d hd').mono hst'
   ·have hx0:o.xs.length*U.sz o.τ≤x:=by simpa using hx
    obtain⟨d1,⟨v,d2⟩,d3⟩:=hA.spare hl x hx0 hx'
    refine⟨d1,⟨v,?_⟩,by rw[hst.frozen];exact d3⟩
    rw[hst.other _ (.inr (.inl ?_))]
    ·exact d2
    ·show off0+i*U.sz o.τ+off+us.length≤off0+x
     have h1:(i+1)*U.sz o.τ≤o.xs.length*U.sz o.τ:=Nat.mul_le_mul_right _ hi
     rw[Nat.add_mul] at h1
     omega
  ·rw[List.getElem?_set_ne (Ne.symm e)] at hq'
   exact (h.obs q o' hq').keep hst' (hs _ (by simpa using e)) rfl
end Go.Proofs.YtjfpbchdcbhfgaaGreat.B
namespace Go.Proofs.YtjfpbchdcbhfgaaGreat.B
open Go Go.RowKit
variable {U:Uni} {P:Program} {E:Enc U} {fr:Fr} {w:World} {g:G} {s:S U} {a:Act}
open Classical in
theorem Sim.frzBox (h:Sim P E fr g s a w) {k:Nat} {fz:Bool} {cells:List (C U)} (hk:s.bx[k]? = some (some (fz,cells))) :
  ∃ g',Sim P E fr g' { s with bx:=s.bx.set k (some (true,cells)) } a w∧GLe g s.ob w g' s.ob w:=by
 let g' : G:={ g with ω:=fun b i=>if g.ω b i=some (.box k) then some .st else g.ω b i }
 have hω:∀ b i x,x≠.box k→g.ω b i=some x→g'.ω b i=some x:=fun b i x hne hx=>by
  show (if _ then _ else _)=_
  rw[if_neg (by rw[hx];simpa using hne)];exact hx
 have hs:∀ x,x≠.box k→Same g w g' w x:=fun x hne b i hx=>⟨hω b i x hne hx,rfl,rfl⟩
 have hklt:k<s.bx.length:=(List.getElem?_eq_some_iff.1 hk).1
 have hg:GLe g s.ob w g' s.ob w:=⟨(hs .st (by simp)).keeps,fun q hl=>⟨hl,rfl⟩,fun q o hq=>⟨o,hq,Nat.le_refl _,fun _=>⟨rfl,rfl,rfl⟩⟩⟩
 refine⟨g',?_,hg⟩
 refine { ext:=h.ext,tms:=h.tms.imp fun _ _=>AVRel.mono hg,bxs:=?_,lbs:=?_,obs:=fun q o hq=>(h.obs q o hq).keep hg.st (hs _ (by simp)) rfl,own:=?_,dfr:=h.dfr,fix:=h.fix,bas:=h.bas }
 ·intro q fz' cells' hc
  have hc':(s.bx.set k (some (true,cells)))[q]? = some (some (fz',cells')):=hc
  by_cases e : q=k
  ·subst e
   rw[List.getElem?_set_self hklt] at hc'
   simp at hc';obtain⟨rfl,rfl⟩:=hc'
   obtain⟨hl,vs,h1,h2⟩:=h.bxs q fz cells hk
   refine⟨hl,vs,h1.imp fun _ _=>CRel.mono hg,fun i v hv=>⟨(h2 i v hv).1,by simp,fun _=>?_⟩⟩
   obtain⟨_,i2,i3⟩:=h2 i v hv
   cases fz with
   | false =>
    show (if _ then _ else _)=_
    rw[if_pos (i2 rfl).2]
   | true=>exact hω _ _ _ (by simp) (i3 rfl)
  ·rw[List.getElem?_set_ne (Ne.symm e)] at hc'
   obtain⟨hl,hb⟩:=h.bxs q fz' cells' hc'
   exact⟨hl,hb.keep hl hg (hs _ (by simpa using e))⟩
 ·intro q hl
  obtain⟨c,hc⟩:=h.lbs q hl
  show ∃ c,(s.bx.set k _)[q]? = some (some c)
  by_cases e : q=k
  ·subst e;exact⟨_,List.getElem?_set_self hklt⟩
  ·exact⟨c,by rw[List.getElem?_set_ne (Ne.symm e)];exact hc⟩
 ·intro b i x hx
  have hx':(if g.ω b i=some (.box k) then some Own.st else g.ω b i)=some x:=hx
  split at hx'
  ·rename_i hc
   simp at hx';subst hx'
   exact⟨(h.own b i _ hc).1,(h.wr hc (by simp)).elim .inl (fun hh=>.inr (.inl hh))⟩
  ·exact h.own b i x hx'
theorem Sim.frozenD {s0:S U} (h:Sim P E fr g s a w) (hf:FrzLe s0.ob s.ob) {v:Value} {x:A U} {d:D U} (hk:∀ k∈x.obs,∀ o,s.ob[k]? = some (some o)→o.fr=none) (hd:s0.toD x=some d) (hc:ARel P E g s.ob w v x) : DRel P E g.St w v d:=by
 unfold S.toD at hd
 split at hd
 ·simp at hd;subst hd;exact hc
 ·rename_i c _
  split at hd
  ·rename_i e he;simp at hd;subst hd
   exact h.frozenV hf hk he hc
  ·simp at hd
 ·rename_i cs
  split at hd
  ·rename_i e he;simp at hd;subst hd
   obtain⟨arr,h1,h2⟩:=hc
   exact⟨arr,h1,h.frozenVs hf hk he h2⟩
  ·simp at hd
 ·simp at hd
theorem Sim.frozenDs {s0:S U} (h:Sim P E fr g s a w) (hf:FrzLe s0.ob s.ob) : ∀ {vs:List Value} {al:List (A U)} {ds:List (D U)},(∀ k∈As.obs al,∀ o,s.ob[k]? = some (some o)→o.fr=none)→s0.toDs al=some ds→All2 (ARel P E g s.ob w) vs al→All2 (DRel P E g.St w) vs ds
 | [],[],ds,_,hd,_=>by simp [S.toDs] at hd;subst hd;trivial
 | v::vs,x::al,ds,hk,hd,hr=>by
  simp only[S.toDs] at hd
  split at hd
  ·rename_i d r h1 h2
   simp at hd;subst hd
   exact⟨h.frozenD hf (fun k hm=>hk k (by simp [As.obs,hm])) h1 hr.1,h.frozenDs hf (fun k hm=>hk k (by simp [As.obs,hm])) h2 hr.2⟩
  ·simp at hd
theorem Sim.frozenD0 {s0:S U} (h:Sim P E fr g s a w) (hf:FrzLe s0.ob s.ob) {v:Value} {x:A U} {d:D0 U} (hk:∀ k∈x.obs,∀ o,s.ob[k]? = some (some o)→o.fr=none) (hd:s0.toD0 x=some d) (hc:ARel P E g s.ob w v x) : D0Rel E g.St w v d:=by
 unfold S.toD0 at hd
 split at hd
 ·split at hd
  ·rename_i e he;simp at hd;subst hd
   exact h.frozenV hf hk he hc
  ·simp at hd
 ·split at hd
  ·rename_i e he;simp at hd;subst hd
   obtain⟨arr,h1,h2⟩:=hc
   exact⟨arr,h1,h.frozenVs hf hk he h2⟩
  ·simp at hd
 ·simp at hd
theorem Sim.frozenD0s {s0:S U} (h:Sim P E fr g s a w) (hf:FrzLe s0.ob s.ob) : ∀ {vs:List Value} {al:List (A U)} {ds:List (D0 U)},(∀ k∈As.obs al,∀ o,s.ob[k]? = some (some o)→o.fr=none)→s0.toD0s al=some ds→All2 (ARel P E g s.ob w) vs al→All2 (D0Rel E g.St w) vs ds
 | [],[],ds,_,hd,_=>by simp [S.toD0s] at hd;subst hd;trivial
 | v::vs,x::al,ds,hk,hd,hr=>by
  simp only[S.toD0s] at hd
  split at hd
  ·rename_i d r h1 h2
   simp at hd;subst hd
   exact⟨h.frozenD0 hf (fun k hm=>hk k (by simp [As.obs,hm])) h1 hr.1,h.frozenD0s hf (fun k hm=>hk k (by simp [As.obs,hm])) h2 hr.2⟩
  ·simp at hd
theorem Sim.frozenDC {s0:S U} (h:Sim P E fr g s a w) (hf:FrzLe s0.ob s.ob) {v:Value} {c:C U} {d:DC U} (hk:∀ k∈c.obs,∀ o,s.ob[k]? = some (some o)→o.fr=none) (hd:s0.toDC c=some d) (hc:CRel P E g s.ob w v c) : DCRel P E g.St w v d:=by
 unfold S.toDC at hd
 split at hd
 ·simp at hd;subst hd;exact hc
 ·split at hd
  ·rename_i e he;simp at hd;subst hd
   exact h.frozenV hf hk he hc
  ·simp at hd
theorem Sim.frozenDCs {s0:S U} (h:Sim P E fr g s a w) (hf:FrzLe s0.ob s.ob) : ∀ {vs:List Value} {cs:List (C U)} {ds:List (DC U)},(∀ k∈Cs.obs cs,∀ o,s.ob[k]? = some (some o)→o.fr=none)→s0.toDCs cs=some ds→All2 (CRel P E g s.ob w) vs cs→All2 (DCRel P E g.St w) vs ds
 | [],[],ds,_,hd,_=>by simp [S.toDCs] at hd;subst hd;trivial
 | v::vs,x::al,ds,hk,hd,hr=>by
  simp only[S.toDCs] at hd
  split at hd
  ·rename_i d r h1 h2
   simp at hd;subst hd
   exact⟨h.frozenDC hf (fun k hm=>hk k (by simp [Cs.obs,hm])) h1 hr.1,h.frozenDCs hf (fun k hm=>hk k (by simp [Cs.obs,hm])) h2 hr.2⟩
  ·simp at hd
theorem z107 : ∀ {q:Nat} {os:List (Ob U)} {vers:List Nat},s.vers q os=some vers→vers.length=os.length∧∀ (j:Nat),j<os.length→q+j<s.ob.length∧∃ v,vers[j]? = some v∧∀ o0,s.ob[q+j]? = some (some o0)→o0.ver<v
 | q,[],vers,h=>by simp [S.vers] at h;subst h;exact⟨rfl,fun j hj=>absurd hj (Nat.not_lt_zero _)⟩
 | q,o::os,vers,h=>by
  simp only[S.vers] at h
  split at h
  ·rename_i v vs h1 h2
   simp at h;subst h
   obtain⟨i1,i2⟩:=z107 h2
   refine⟨by simp [i1],fun j hj=>?_⟩
   cases j with
   | zero =>
    unfold S.nver at h1
    split at h1
    ·rename_i o0 ho
     simp at h1;subst h1
     exact⟨(List.getElem?_eq_some_iff.1 ho).1,_,rfl,fun o1 ho1=>by rw[Nat.add_zero,ho] at ho1;simp at ho1;subst ho1;omega⟩
    ·rename_i ho
     simp at h1;subst h1
     exact⟨(List.getElem?_eq_some_iff.1 ho).1,_,rfl,fun o1 ho1=>by rw[Nat.add_zero,ho] at ho1;simp at ho1⟩
    ·simp at h1
   | succ j =>
    have:=i2 j (by simpa using hj)
    rw[show q+(j+1)=q+1+j from by omega]
    simpa using this
  ·simp at h
theorem zwf : ∀ (os:List (Ob U)) (vers:List Nat) (q:Nat) (l:List (Option (Ob U))),vers.length=os.length→(∀ j,j<os.length→q+j<l.length)→∀ k,(sets l (z5n q os vers))[k]? = if q≤k∧k<q+os.length then (os[k - q]?).map (fun o=>some { o with ver:=vers.getD (k - q) 0 }) else l[k]?
 | [],vers,q,l,_,_,k=>by
  have : ¬ (q≤k∧k<q+([] : List (Ob U)).length):=by simp
  rw[if_neg this]
  cases vers<;>rfl
 | o::os,[],q,l,hv,_,k=>by simp at hv
 | o::os,v::vers,q,l,hv,hl,k=>by
  simp only[z5n,sets]
  rw[zwf os vers (q+1) (l.set q (some { o with ver:=v })) (by simpa using hv) (fun j hj=>by have:=hl (j+1) (by simpa using hj);simp;omega) k]
  have hl0:=hl 0 (by simp)
  simp only[List.length_cons]
  by_cases e : k=q
  ·subst e
   rw[if_neg (by omega),if_pos ⟨Nat.le_refl _,by omega⟩,List.getElem?_set_self (by omega)]
   simp
  ·by_cases h1 : q≤k∧k<q+(os.length+1)
   ·rw[if_pos (by omega),if_pos h1]
    rw[show k - q=(k - (q+1))+1 from by omega]
    simp
   ·rw[if_neg (by omega),if_neg h1,List.getElem?_set_ne (Ne.symm e)]
theorem z1tz : ∀ {q:Nat} {vers:List Nat} {rs rs':List (A U)},As.ret q vers rs=some rs'→rs'.length=rs.length
 | q,vers,[],rs',h=>by simp [As.ret] at h;subst h;rfl
 | q,vers,x::rs,rs',h=>by
  simp only[As.ret] at h
  split at h
  ·rename_i y ys h1 h2;simp at h;subst h;simp [z1tz h2]
  ·simp at h
open Classical in
theorem Sim.returned (h:Sim P E fr g s a w) {w':World} {v:Value} {rs rs':List (A U)} {os:List (Ob U)} {q:Nat} {vers:List Nat} (hr:Ret P E g.St w w' v rs os) (hv:s.vers q os=some vers) (hret:As.ret q vers rs=some rs') :
    ∃ g',Sim P E fr g' { s with ob:=sets s.ob (z5n q os vers) } a w'∧AVRel P E g' (sets s.ob (z5n q os vers)) w' v (zgc rs'):=by
  obtain⟨hext,gr,hlb,hold,hbd,hrel,hobs⟩:=hr
  obtain⟨hvl,hvs⟩:=z107 hv
  let g' : G := { g with ω := fun b i => if b < w.heap.size then g.ω b i else match gr.ω b i with | some (.obj j) => some (.obj (q + j)) | some .st => some .st | _ => none,
                         tk:=fun k=>if q≤k∧k<q+os.length then gr.tk (k - q) else g.tk k }
  have hωo:∀ b i,b<w.heap.size→g'.ω b i=g.ω b i:=fun b i hb=>by show (if _ then _ else _)=_;rw[if_pos hb]
  have hωn:∀ b i,¬ b<w.heap.size→g'.ω b i=match gr.ω b i with | some (.obj j)=>some (.obj (q+j)) | some .st=>some .st | _=>none:=fun b i hb=>by show (if _ then _ else _)=_;rw[if_neg hb]
  have htq:∀ j,j<os.length→g'.tk (q+j)=gr.tk j:=fun j hj=>by show (if _ then _ else _)=_;rw[if_pos ⟨by omega,by omega⟩,show q+j - q=j from by omega]
  have htn:∀ k,¬ (q≤k∧k<q+os.length)→g'.tk k=g.tk k:=fun k hk=>by show (if _ then _ else _)=_;rw[if_neg hk]
  have hs:∀ x,Same g w g' w' x:=fun x b i hx=>⟨by rw[hωo b i (h.own b i x hx).1];exact hx,hext.cell (p:=⟨b,i,none⟩) (h.own b i x hx).1,hext.stuck (p:=⟨b,i,none⟩) (h.own b i x hx).1⟩
  have hget:=zwf os vers q s.ob hvl (fun j hj=>(hvs j hj).1)
  have hgn:∀ j o,os[j]? = some o→(sets s.ob (z5n q os vers))[q+j]? = some (some { o with ver:=vers.getD j 0 }):=fun j o ho=>by
    have hj:j<os.length:=(List.getElem?_eq_some_iff.1 ho).1
    rw[hget,if_pos ⟨by omega,by omega⟩,show q+j - q=j from by omega,ho];rfl
  have hg:GLe g s.ob w g' (sets s.ob (z5n q os vers)) w':=by
    refine⟨(hs .st).keeps,fun k hl=>⟨hl,rfl⟩,fun k o hk=>?_⟩
    by_cases hin' : q≤k∧k<q+os.length
    · have hj:k - q<os.length:=by omega
      obtain⟨_,vj,hvj,hlt⟩:=hvs (k - q) hj
      rw[show q+(k - q)=k from by omega] at hlt
      have:=hlt o hk
      refine⟨_,by rw[← show q+(k - q)=k from by omega];exact hgn (k - q) _ (List.getElem?_eq_getElem hj),?_,fun e=>?_⟩
      · show o.ver≤vers.getD (k - q) 0
        rw[List.getD_eq_getElem?_getD,hvj];simp;omega
      · have e':o.ver=vers.getD (k - q) 0:=e
        rw[List.getD_eq_getElem?_getD,hvj] at e';simp at e';omega
    · exact⟨o,by rw[hget,if_neg hin'];exact hk,Nat.le_refl _,fun _=>⟨rfl,rfl,htn k hin'⟩⟩
  have hkr:Keeps gr.St w' g'.St w':=by
    intro b i hi
    refine⟨?_,rfl⟩
    show g'.ω b i=_
    by_cases hb : b<w.heap.size
    · rw[hωo b i hb];exact (hold b i _ hb hi).2
    · rw[hωn b i hb,show gr.ω b i=some .st from hi]
  have hobj:∀ b i j,gr.ω b i=some (.obj j)→g'.ω b i=some (.obj (q+j)):=fun b i j hi=>by
    by_cases hb : b<w.heap.size
    · have:=(hold b i _ hb hi).1;simp at this
    · rw[hωn b i hb,hi]
  have hnew:∀ j o,os[j]? = some o→ObRel E g' w' (q+j) { o with ver:=vers.getD j 0 }:=by
    intro j o ho
    have hj:j<os.length:=(List.getElem?_eq_some_iff.1 ho).1
    obtain⟨⟨⟨h1,h1'⟩,h2⟩,_⟩:=hobs j o ho
    refine⟨⟨by rw[htq j hj];exact h1,h1'⟩,fun hc=>?_⟩
    rw[htq j hj] at hc ⊢
    obtain⟨b,off,cv,e,hA⟩:=h2 hc
    refine⟨b,off,cv,e,⟨fun i j' hi hj'=>?_,fun i hi j' d hd=>(hA.rel i hi j' d hd).mono hkr,fun hl x hx hx'=>?_⟩⟩
    · obtain⟨c1,c2⟩:=hA.cell i j' hi hj'
      refine⟨c1,?_⟩
      unfold Mode at c2 ⊢
      show match o.fr with | none=>_ | some f=>_
      split at c2
      · rename_i hf;simp only[hf];exact (hkr _ _ c2).1
      · rename_i f hf
        simp only[hf]
        exact⟨fun hh=>(hkr _ _ (c2.1 hh)).1,fun hh=>⟨hobj _ _ _ (c2.2 hh).1,(c2.2 hh).2⟩⟩
    · obtain⟨d1,d2,d3⟩:=hA.spare hl x hx hx'
      exact⟨hobj _ _ _ d1,d2,d3⟩
  have hc:∀ {u:Value} {c c':C U},c.ret q vers=some c'→CRel P E gr (os.map some) w' u c→CRel P E g' (sets s.ob (z5n q os vers)) w' u c':=by
    intro u c c' he hu
    unfold C.ret at he
    split at he
    · simp at he;subst he;exact hu
    · simp at he;subst he;exact⟨hu.1.mono hkr,hu.2⟩
    · rename_i j
      split at he
      · rename_i vj hvj
        simp at he;subst he
        obtain⟨hone,o,ho,_,hval⟩:=hu
        have ho':os[j]? = some o:=by
          rw[List.getElem?_map] at ho
          cases hoj : os[j]? with
          | none=>rw[hoj] at ho;simp at ho
          | some o2=>rw[hoj] at ho;simp at ho;rw[ho]
        have hj:j<os.length:=(List.getElem?_eq_some_iff.1 ho').1
        have hver:=(hobs j o ho').2
        refine⟨hone,_,hgn j o ho',by rw[List.getD_eq_getElem?_getD,hvj];exact Nat.le_refl _,fun _=>?_⟩
        rw[htq j hj]
        exact hval hver.symm
      · simp at he
    · simp at he;subst he;exact FunRel.mono hkr hu
    · simp at he
  have hcs:∀ {us:List Value} {cs cs':List (C U)},Cs.ret q vers cs=some cs'→All2 (CRel P E gr (os.map some) w') us cs→All2 (CRel P E g' (sets s.ob (z5n q os vers)) w') us cs':=by
    intro us cs
    induction cs generalizing us with
    | nil =>
      intro cs' he hu
      simp [Cs.ret] at he;subst he
      cases us with
      | nil=>trivial
      | cons _ _=>exact hu.elim
    | cons c cs ih =>
      intro cs' he hu
      simp only[Cs.ret] at he
      split at he
      · rename_i x xs h1 h2
        simp at he;subst he
        cases us with
        | nil=>exact hu.elim
        | cons u us=>exact⟨hc h1 hu.1,ih h2 hu.2⟩
      · simp at he
  have ha:∀ {u:Value} {x x':A U},x.ret q vers=some x'→ARel P E gr (os.map some) w' u x→ARel P E g' (sets s.ob (z5n q os vers)) w' u x':=by
    intro u x x' he hu
    cases x with
    | c y =>
      simp only[A.ret] at he
      split at he
      · rename_i z hz;simp at he;subst he;exact hc hz hu
      · simp at he
    | agg cs =>
      simp only[A.ret] at he
      split at he
      · rename_i z hz;simp at he;subst he
        obtain⟨arr,e,hh⟩:=hu
        exact⟨arr,e,hcs hz hh⟩
      · simp at he
    | top=>simp [A.ret] at he
  have has:∀ {us:List Value} {al al':List (A U)},As.ret q vers al=some al'→All2 (ARel P E gr (os.map some) w') us al→All2 (ARel P E g' (sets s.ob (z5n q os vers)) w') us al':=by
    intro us al
    induction al generalizing us with
    | nil =>
      intro al' he hu
      simp [As.ret] at he;subst he
      cases us with
      | nil=>trivial
      | cons _ _=>exact hu.elim
    | cons c cs ih =>
      intro cs' he hu
      simp only[As.ret] at he
      split at he
      · rename_i x xs h1 h2
        simp at he;subst he
        cases us with
        | nil=>exact hu.elim
        | cons u us=>exact⟨ha h1 hu.1,ih h2 hu.2⟩
      · simp at he
  refine⟨g',?_,?_⟩
  · refine { ext:=h.ext.later hext,tms:=h.tms.imp fun _ _=>AVRel.mono hg,bxs:=fun k fz cells hk=>?_,lbs:=h.lbs,obs:=?_,own:=?_,dfr:=h.dfr,fix:=h.fix,bas:=h.bas }
    · obtain⟨hl,hb⟩:=h.bxs k fz cells hk
      exact⟨hl,hb.keep hl hg (hs _)⟩
    · intro k o hk
      have hk':(sets s.ob (z5n q os vers))[k]? = some (some o):=hk
      by_cases hin' : q≤k∧k<q+os.length
      · have hj:k - q<os.length:=by omega
        have h1:=hgn (k - q) _ (List.getElem?_eq_getElem hj)
        rw[show q+(k - q)=k from by omega,hk'] at h1
        simp at h1;subst h1
        have:=hnew (k - q) _ (List.getElem?_eq_getElem hj)
        rw[show q+(k - q)=k from by omega] at this
        exact this
      · rw[hget,if_neg hin'] at hk'
        exact (h.obs k o hk').keep hg.st (hs _) (htn k hin')
    · intro b i x hx
      by_cases hb : b<w.heap.size
      · rw[hωo b i hb] at hx
        exact⟨Nat.lt_of_lt_of_le hb hext.le,(h.own b i x hx).2⟩
      · rw[hωn b i hb] at hx
        refine⟨?_,.inl (by have:=h.ext.size;omega)⟩
        cases ho : gr.ω b i with
        | none=>rw[ho] at hx;simp at hx
        | some y=>exact hbd b i y ho
  · rw[zlo]
    have hl:=z1tz hret
    match rs,rs',hret,hrel with
    | [],[],_,hrel=>obtain⟨arr,e,hh⟩:=hrel;exact⟨arr,e,by cases hl2 : arr.toList with | nil=>trivial | cons _ _=>rw[hl2] at hh;exact hh.elim⟩
    | [x],[x'],hret,hrel =>
      simp only[As.ret] at hret
      split at hret
      · rename_i y ys h1 h2;simp at hret;obtain⟨rfl,_⟩:=hret;exact ha h1 hrel
      · simp at hret
    | x::y::r,x'::y'::r',hret,hrel=>obtain⟨arr,e,hh⟩:=hrel;exact⟨arr,e,has hret hh⟩
    | [],_::_,_,_=>simp at hl
    | [_],[],_,_=>simp at hl
    | [_],_::_::_,_,_=>simp at hl
    | _::_::_,[],_,_=>simp at hl
    | _::_::_,[_],_,_=>simp at hl
end Go.Proofs.YtjfpbchdcbhfgaaGreat.B
namespace Go.Proofs.YtjfpbchdcbhfgaaGreat.B
open Go Go.RowKit
variable {U:Uni} {P:Program} {E:Enc U} {fr:Fr} {w:World} {g:G} {s:S U} {a:Act}
theorem z6f {α:Type} : ∀ (l:List α) (x y:List (Nat×α)),sets l (x++y)=sets (sets l x) y
 | _,[],_=>rfl
 | l,(k,x)::r,y=>z6f (l.set k x) r y
theorem z8o {x:Nat} {l:List Nat} (h:z4a (x::l)=true) : x ∉ l∧z4a l=true:=by
 simp only[z4a,Bool.and_eq_true,Bool.not_eq_true'] at h
 refine⟨fun hx=>?_,h.2⟩
 have:=List.any_eq_false.1 h.1 x hx
 simp at this
theorem zc8 {k:Nat} : ∀ {l:List Nat} {j i:Nat},idx k l j=some i→∃ m,i=j+m∧l[m]? = some k
 | [],_,_,h=>by simp [idx] at h
 | x::r,j,i,h=>by
  simp only[idx] at h
  split at h
  ·rename_i hb
   simp at h;subst h
   exact⟨0,rfl,by simp [Nat.eq_of_beq_eq_true hb]⟩
  ·obtain⟨m,h1,h2⟩:=zc8 h
   exact⟨m+1,by omega,by simpa using h2⟩
theorem z1np {k:Nat} : ∀ {l:List Nat} {j m:Nat},z4a l=true→l[m]? = some k→idx k l j=some (j+m)
 | [],_,_,_,h=>by simp at h
 | x::r,j,m,hu,h=>by
  obtain⟨h1,h2⟩:=z8o hu
  simp only[idx]
  cases m with
  | zero=>simp at h;subst h;simp
  | succ m =>
   have hm:r[m]? = some k:=by simpa using h
   have hne:x≠k:=by rintro rfl;exact h1 (List.mem_of_getElem? hm)
   have hb:Nat.beq x k=false:=by
    cases hh : Nat.beq x k with
    | false=>rfl
    | true=>exact (hne (Nat.eq_of_beq_eq_true hh)).elim
   rw[hb]
   show idx k r (j+1)=_
   rw[z1np h2 hm];congr 1;omega
theorem z1nq {k:Nat} : ∀ {l:List Nat} {j:Nat},idx k l j=none→k ∉ l
 | [],_,_=>by simp
 | x::r,j,h=>by
  simp only[idx] at h
  split at h
  ·simp at h
  ·rename_i hb
   have:=z1nq h
   simp only[List.mem_cons,not_or]
   refine⟨?_,this⟩
   rintro rfl
   simp at hb
theorem zkg : ∀ {oks:List Nat} {os:List (Ob U)},s.passed oks=some os→os.length=oks.length∧∀ (j k:Nat),oks[j]? = some k→∃ o,s.ob[k]? = some (some o)∧os[j]? = some { o with ver:=0 }
 | [],os,h=>by simp [S.passed] at h;subst h;exact⟨rfl,fun j k hk=>by simp at hk⟩
 | k::ks,os,h=>by
  simp only[S.passed] at h
  split at h
  ·rename_i o r h1 h2
   simp at h;subst h
   obtain⟨i1,i2⟩:=zkg h2
   refine⟨by simp [i1],fun j q hq=>?_⟩
   cases j with
   | zero=>simp at hq;subst hq;exact⟨o,h1,rfl⟩
   | succ j=>exact i2 j q (by simpa using hq)
  ·simp at h
theorem zi7 : ∀ {ks:List Nat} {bs:List (Bool×List (C U))},s.boxesAt ks=some bs→bs.length=ks.length∧∀ (i k:Nat),ks[i]? = some k→∃ b,s.bx[k]? = some (some b)∧bs[i]? = some b
 | [],bs,h=>by simp [S.boxesAt] at h;subst h;exact⟨rfl,fun j k hk=>by simp at hk⟩
 | k::ks,bs,h=>by
  simp only[S.boxesAt] at h
  split at h
  ·rename_i o r h1 h2
   simp at h;subst h
   obtain⟨i1,i2⟩:=zi7 h2
   refine⟨by simp [i1],fun j q hq=>?_⟩
   cases j with
   | zero=>simp at hq;subst hq;exact⟨o,h1,rfl⟩
   | succ j=>exact i2 j q (by simpa using hq)
  ·simp at h
theorem zwg : ∀ {oks:List Nat} (l:List (Option (Ob U))),z4a oks=true→(∀ k∈oks,l[k]? = s.ob[k]?)→∀ k,(sets l (s.spents oks))[k]? = if k∈oks then (s.ob[k]?).map (Option.map Ob.spent) else l[k]?
 | [],l,_,_,k=>by simp [S.spents,sets]
 | q::oks,l,hu,hl,k=>by
  obtain⟨h1,h2⟩:=z8o hu
  simp only[S.spents]
  split
  ·rename_i o ho
   simp only[sets]
   rw[zwg (l.set q (some o.spent)) h2 (fun k hk=>by
    rw[List.getElem?_set_ne (by rintro rfl;exact h1 hk)];exact hl k (by simp [hk])) k]
   have hq:q<l.length:=by
    have:=hl q (by simp)
    rw[ho] at this
    exact (List.getElem?_eq_some_iff.1 this).1
   by_cases e : k=q
   ·subst e
    rw[if_neg h1,if_pos (by simp),List.getElem?_set_self hq,ho];rfl
   ·by_cases hk : k∈oks
    ·rw[if_pos hk,if_pos (by simp [hk])]
    ·rw[if_neg hk,if_neg (by simp [e,hk]),List.getElem?_set_ne (Ne.symm e)]
  ·rename_i hno
   rw[zwg l h2 (fun k hk=>hl k (by simp [hk])) k]
   by_cases e : k=q
   ·subst e
    rw[if_neg h1,if_pos (by simp),hl k (by simp)]
    cases hk : s.ob[k]? with
    | none=>rfl
    | some x =>
     cases x with
     | none=>rfl
     | some o=>exact (hno o hk).elim
   ·by_cases hk : k∈oks
    ·rw[if_pos hk,if_pos (by simp [hk])]
    ·rw[if_neg hk,if_neg (by simp [e,hk])]
def G.sub (g:G) (ks oks:List Nat) : G :=
  { β:=fun i=>g.β (ks.getD i 0),lb:=fun i=>i<ks.length,
    ω:=fun b o=>match g.ω b o with | some .st=>some .st | some (.box k)=>(idx k ks 0).map Own.box | some (.obj k)=>(idx k oks 0).map Own.obj | none=>none,
    tk:=fun j=>g.tk (oks.getD j 0) }
theorem sub_st {ks oks:List Nat} {b o:Nat} : (g.sub ks oks).St b o↔g.St b o:=by
 show (match g.ω b o with | some .st=>some Own.st | some (.box k)=>(idx k ks 0).map Own.box | some (.obj k)=>(idx k oks 0).map Own.obj | none=>none)=some .st↔g.ω b o=some .st
 cases hx : g.ω b o with
 | none=>simp
 | some x =>
  cases x with
  | st=>simp
  | box k=>cases idx k ks 0<;>simp
  | obj k=>cases idx k oks 0<;>simp
theorem zdv {ks oks:List Nat} : Keeps g.St w (g.sub ks oks).St w:=fun _ _ h=>⟨sub_st.2 h,rfl⟩
theorem z22t {ks oks:List Nat} (hu:z4a ks=true) {b o i k:Nat} (hk:ks[i]? = some k) (h:g.ω b o=some (.box k)) : (g.sub ks oks).ω b o=some (.box i):=by
 show (match g.ω b o with | some .st=>some Own.st | some (.box k)=>(idx k ks 0).map Own.box | some (.obj k)=>(idx k oks 0).map Own.obj | none=>none)=_
 rw[h];simp only[z1np hu hk,Nat.zero_add];rfl
theorem z1u0 {ks oks:List Nat} (hu:z4a oks=true) {b o j k:Nat} (hk:oks[j]? = some k) (h:g.ω b o=some (.obj k)) : (g.sub ks oks).ω b o=some (.obj j):=by
 show (match g.ω b o with | some .st=>some Own.st | some (.box k)=>(idx k ks 0).map Own.box | some (.obj k)=>(idx k oks 0).map Own.obj | none=>none)=_
 rw[h];simp only[z1np hu hk,Nat.zero_add];rfl
theorem z189 {ks oks:List Nat} {b o:Nat} (h:(g.sub ks oks).mine b o) : (∃ k∈ks,g.ω b o=some (.box k))∨∃ k∈oks,g.ω b o=some (.obj k):=by
 obtain⟨y,hne,hy⟩:=h
 have hy':(match g.ω b o with | some .st=>some Own.st | some (.box k)=>(idx k ks 0).map Own.box | some (.obj k)=>(idx k oks 0).map Own.obj | none=>none)=some y:=hy
 split at hy'
 ·simp at hy';exact (hne hy'.symm).elim
 ·rename_i k hk
  cases hi : idx k ks 0 with
  | none=>rw[hi] at hy';simp at hy'
  | some i =>
   obtain⟨m,_,hm⟩:=zc8 hi
   exact .inl ⟨k,List.mem_of_getElem? hm,hk⟩
 ·rename_i k hk
  cases hi : idx k oks 0 with
  | none=>rw[hi] at hy';simp at hy'
  | some i =>
   obtain⟨m,_,hm⟩:=zc8 hi
   exact .inr ⟨k,List.mem_of_getElem? hm,hk⟩
 ·simp at hy'
theorem zwh (h:Sim P E fr g s a w) {ks oks:List Nat} {os:List (Ob U)} (hos:s.passed oks=some os) {v:Value} {c:C U} (hc:CRel P E g s.ob w v c) : CRel P E (g.sub ks oks) (os.map some) w v (c.pass s ks oks):=by
 obtain⟨hl,hp⟩:=zkg hos
 have hone:=hc.one
 cases c with
 | s x=>exact hc
 | sl τ xs f=>exact⟨hc.1.mono zdv,hc.2⟩
 | ob k ver =>
  simp only[C.pass]
  split
  ·rename_i o j ho hj
   obtain⟨m,hm,hm'⟩:=zc8 hj
   rw[Nat.zero_add] at hm;subst hm
   obtain⟨o',h1,h2⟩:=hp _ k hm'
   obtain⟨i1,i2⟩:=z7c ho
   rw[i1] at h1;simp at h1;subst h1
   refine⟨hone,{ o with ver:=0 },by rw[List.getElem?_map,h2];rfl,Nat.le_refl _,fun _=>?_⟩
   have:=h.obval ho hc
   show v=.slice (g.tk (oks.getD _ 0)).1 o.xs.length (g.tk (oks.getD _ 0)).2
   rw[List.getD_eq_getElem?_getD,hm'];exact this.1
  ·exact hone
 | bx k off =>
  simp only[C.pass]
  split
  ·rename_i i hi
   obtain⟨m,hm,hm'⟩:=zc8 hi
   rw[Nat.zero_add] at hm;subst hm
   refine⟨(List.getElem?_eq_some_iff.1 hm').1,?_⟩
   show v=.pointer (some ⟨g.β (ks.getD _ 0),off,none⟩)
   rw[List.getD_eq_getElem?_getD,hm'];exact hc.2
  ·exact hone
 | el τ xs i off =>
  obtain⟨h1,b,o,cap,h2,h3⟩:=hc
  exact⟨h1,b,o,cap,h2,h3.mono zdv⟩
 | em k ver i off =>
  simp only[C.pass]
  split
  ·rename_i o j ho hj
   obtain⟨m,hm,hm'⟩:=zc8 hj
   rw[Nat.zero_add] at hm;subst hm
   obtain⟨o',h1,h2⟩:=hp _ k hm'
   obtain⟨i1,i2⟩:=z7c ho
   rw[i1] at h1;simp at h1;subst h1
   obtain⟨_,o2,c2,c3,c4⟩:=hc
   rw[i1] at c2;simp at c2;subst c2
   obtain⟨d1,b,o3,d2,d3⟩:=c4 i2.symm
   refine⟨hone,{ o with ver:=0 },by rw[List.getElem?_map,h2];rfl,Nat.le_refl _,fun _=>⟨d1,b,o3,?_,d3⟩⟩
   show (g.tk (oks.getD _ 0)).1=_
   rw[List.getD_eq_getElem?_getD,hm'];exact d2
  ·exact hone
 | fv φ=>exact FunRel.mono zdv hc
 | fc f caps=>exact hone
 | top=>exact hc
theorem zo3 {α β γ:Type} {R:α→β→Prop} {R':α→γ→Prop} (f:β→γ) (h:∀ a b,R a b→R' a (f b)) {l:List α} {r:List β} (hh:All2 R l r) : All2 R' l (r.map f):=All2.map_right f h hh
theorem Sim.part (h:Sim P E fr g s a w) {ks oks:List Nat} {bs:List (Bool×List (C U))} {os:List (Ob U)} (hu:z4a ks=true) (huo:z4a oks=true) (hbs:s.boxesAt ks=some bs) (hos:s.passed oks=some os) :
  Part P E (g.sub ks oks) w (bs.map fun b=>(b.1,b.2.map (C.pass s ks oks))) os:=by
 obtain⟨hbl,hb⟩:=zi7 hbs
 obtain⟨hol,ho⟩:=zkg hos
 refine⟨fun i fz cells hi=>?_,fun k hk=>by have hk':k<ks.length:=hk;simpa [hbl] using hk',fun j o hj=>?_,fun b o x hx=>?_,h.ext.laid,fun b o x hl hx=>?_⟩
 ·rw[List.getElem?_map] at hi
  cases hbi : bs[i]? with
  | none=>rw[hbi] at hi;simp at hi
  | some b0 =>
   rw[hbi] at hi;simp at hi;obtain⟨rfl,rfl⟩:=hi
   have hil:i<ks.length:=by rw[← hbl];exact (List.getElem?_eq_some_iff.1 hbi).1
   obtain⟨b1,h1,h2⟩:=hb i _ (List.getElem?_eq_getElem hil)
   rw[hbi] at h2;simp at h2;subst h2
   obtain⟨_,vs,hvs,hcell⟩:=h.bxs _ b0.1 b0.2 h1
   refine⟨hil,vs,zo3 _ (fun _ _ hh=>zwh h hos hh) hvs,fun n v hv=>?_⟩
   obtain⟨c1,c2,c3⟩:=hcell n v hv
   have hβ:(g.sub ks oks).β i=g.β ks[i]:=by show g.β (ks.getD i 0)=_;rw[List.getD_eq_getElem?_getD,List.getElem?_eq_getElem hil];rfl
   rw[hβ]
   exact⟨c1,fun hf=>⟨(c2 hf).1,z22t hu (List.getElem?_eq_getElem hil) (c2 hf).2⟩,fun hf=>sub_st.2 (c3 hf)⟩
 ·have hjl:j<oks.length:=by rw[← hol];exact (List.getElem?_eq_some_iff.1 hj).1
  obtain⟨o',h1,h2⟩:=ho j _ (List.getElem?_eq_getElem hjl)
  rw[hj] at h2;simp at h2;subst h2
  refine⟨?_,rfl⟩
  have ht:(g.sub ks oks).tk j=g.tk oks[j]:=by show g.tk (oks.getD j 0)=_;rw[List.getD_eq_getElem?_getD,List.getElem?_eq_getElem hjl];rfl
  obtain⟨⟨q1,q2⟩,q3⟩:=h.obs _ o' h1
  refine⟨⟨by rw[ht];exact q1,q2⟩,fun hcap=>?_⟩
  rw[ht] at hcap ⊢
  obtain⟨b,off,cv,eb,hA⟩:=q3 hcap
  refine⟨b,off,cv,eb,⟨fun i1 j1 hi hj1=>?_,fun i1 hi j1 d hd=>(hA.rel i1 hi j1 d hd).mono zdv,fun hl x hx hx'=>?_⟩⟩
  ·obtain⟨d1,d2⟩:=hA.cell i1 j1 hi hj1
   refine⟨d1,?_⟩
   unfold Mode at d2 ⊢
   show match o'.fr with | none=>_ | some f=>_
   split at d2
   ·rename_i hf;simp only[hf];exact sub_st.2 d2
   ·rename_i f hf
    simp only[hf]
    exact⟨fun hh=>sub_st.2 (d2.1 hh),fun hh=>⟨z1u0 huo (List.getElem?_eq_getElem hjl) (d2.2 hh).1,(d2.2 hh).2⟩⟩
  ·obtain⟨d1,d2,d3⟩:=hA.spare hl x hx hx'
   exact⟨z1u0 huo (List.getElem?_eq_getElem hjl) d1,d2,d3⟩
 ·have hx':(match g.ω b o with | some .st=>some Own.st | some (.box k)=>(idx k ks 0).map Own.box | some (.obj k)=>(idx k oks 0).map Own.obj | none=>none)=some x:=hx
  cases hω : g.ω b o with
  | none=>rw[hω] at hx';simp at hx'
  | some y=>exact (h.own b o y hω).1
 ·have hx':(match g.ω b o with | some .st=>some Own.st | some (.box k)=>(idx k ks 0).map Own.box | some (.obj k)=>(idx k oks 0).map Own.obj | none=>none)=some x:=hx
  cases hω : g.ω b o with
  | none=>rw[hω] at hx';simp at hx'
  | some y =>
   have:=h.nlb hl hω
   subst this
   rw[hω] at hx'
   exact (Option.some.inj hx').symm
end Go.Proofs.YtjfpbchdcbhfgaaGreat.B
namespace Go.Proofs.YtjfpbchdcbhfgaaGreat.B
open Go Go.RowKit
variable {U:Uni} {P:Program} {E:Enc U} {fr:Fr} {w:World} {g:G} {s:S U} {a:Act}
theorem z1uw {g':G} {w':World} {k:Nat} {o:Ob U} (h:ObRel E g w k o) (hk:Keeps g.St w g'.St w') (ht:g'.tk k=g.tk k) : ObRel E g' w' k o.spent:=by
 obtain⟨⟨h1,h1'⟩,h2⟩:=h
 unfold Ob.spent
 split
 ·rename_i hf
  refine⟨⟨by rw[ht];exact h1,by rw[hf];simp⟩,fun hc=>?_⟩
  rw[ht] at hc ⊢
  obtain⟨b,off,cv,e,hA⟩:=h2 hc
  refine⟨b,off,cv,e,⟨fun i j hi hj=>?_,fun i hi j d hd=>(hA.rel i hi j d hd).mono hk,by simp⟩⟩
  obtain⟨c1,c2⟩:=hA.cell i j hi hj
  unfold Mode at c2 ⊢
  simp only[hf] at c2 ⊢
  obtain⟨k1,k2⟩:=hk _ _ c2
  exact⟨by rw[k2];exact c1,k1⟩
 ·refine⟨⟨⟨Nat.zero_le _,Nat.zero_le _⟩,by simp⟩,fun hc=>?_⟩
  rw[ht] at hc ⊢
  obtain⟨b,off,cv,e,hA⟩:=h2 hc
  exact⟨b,off,cv,e,⟨fun i j hi=>absurd hi (Nat.not_lt_zero _),fun i hi=>absurd hi (Nat.not_lt_zero _),by simp⟩⟩
theorem z1il {ks0:List Nat} {q:Nat} {vers:List Nat} : ∀ {ks:List Nat} {bs:List (Bool×List (C U))} (l:List (Option (Bool×List (C U)))),z4a ks=true→bs.length=ks.length→(∀ k∈ks,k<l.length)→∀ k,(sets l (zwa ks0 q vers ks bs))[k]? = match idx k ks 0 with | some i=>(bs[i]?).map (fun b=>some (b.1,b.2.map (C.back ks0 q vers))) | none=>l[k]?
 | [],bs,l,_,_,_,k=>by cases bs<;>rfl
 | x::ks,[],l,_,hl,_,k=>by simp at hl
 | x::ks,b::bs,l,hu,hl,hlt,k=>by
  obtain⟨h1,h2⟩:=z8o hu
  simp only[zwa,sets]
  rw[z1il (l.set x _) h2 (by simpa using hl) (fun k hk=>by simpa using hlt k (by simp [hk])) k]
  have hshift:∀ (l:List Nat) (j:Nat),idx k l (j+1)=(idx k l j).map (·+1):=by
   intro l
   induction l with
   | nil=>intro j;rfl
   | cons y r ih=>intro j;simp only[idx];split<;>simp [ih]
  simp only[idx]
  cases hb : Nat.beq x k with
  | true =>
   have:=Nat.eq_of_beq_eq_true hb
   subst this
   have : idx x ks 0=none:=by
    cases hi : idx x ks 0 with
    | none=>rfl
    | some i=>obtain⟨m,_,hm⟩:=zc8 hi;exact (h1 (List.mem_of_getElem? hm)).elim
   rw[this]
   simp only[List.getElem?_cons_zero,Option.map_some]
   rw[List.getElem?_set_self (hlt x (by simp))]
  | false =>
   have hne:x≠k:=by rintro rfl;simp at hb
   simp only
   rw[hshift]
   cases idx k ks 0 with
   | none=>simp only[Option.map_none];rw[List.getElem?_set_ne hne]
   | some i=>simp
open Classical in
theorem Sim.gcall (h:Sim P E fr g s a w) {ks oks:List Nat} {bs bs':List (Bool×List (C U))} {os os':List (Ob U)} {q:Nat} {vers:List Nat} {w':World} {v:Value} {rs:List (A U)}
    (hu:z4a ks=true) (huo:z4a oks=true) (hbs:s.boxesAt ks=some bs) (hos:s.passed oks=some os) (hlen:bs'.length=bs.length) (hv:s.vers q os'=some vers)
    (hr:RetG P E (g.sub ks oks) w w' v rs bs' os') :
    ∃ g2,Sim P E fr g2 { s with bx:=sets s.bx (zwa ks q vers ks bs'),ob:=sets s.ob (s.spents oks++z5n q os' vers) } a w'∧AVRel P E g2 (sets s.ob (s.spents oks++z5n q os' vers)) w' v (zgc (rs.map (A.back ks q vers))):=by
  obtain⟨g',hfx,hp,hβ,hor,hrel⟩:=hr
  obtain⟨hbl,hb⟩:=zi7 hbs
  obtain⟨hol,ho⟩:=zkg hos
  obtain⟨hvl,hvs⟩:=z107 hv
  rw[z6f]
  have hsl:(sets s.ob (s.spents oks)).length=s.ob.length:=by
    have : ∀ (x:List (Nat×Option (Ob U))) (l:List (Option (Ob U))),(sets l x).length=l.length:=by
      intro x
      induction x with
      | nil=>intro l;rfl
      | cons y x ih=>intro l;obtain⟨y1,y2⟩:=y;simp only[sets];rw[ih];simp
    exact this _ _
  have hget0:=zwf os' vers q (sets s.ob (s.spents oks)) hvl (fun j hj=>by rw[hsl];exact (hvs j hj).1)
  have hgets:=zwg (s:=s) s.ob huo (fun _ _=>rfl)
  generalize hob2 : sets (sets s.ob (s.spents oks)) (z5n q os' vers)=ob2 at hget0
  have hbget:=z1il (ks0:=ks) (q:=q) (vers:=vers) s.bx hu (by rw[hlen,hbl]) (fun k hk=>by
    obtain⟨i,hi⟩:=List.getElem?_of_mem hk
    obtain⟨b,h1,_⟩:=hb i k hi
    exact (List.getElem?_eq_some_iff.1 h1).1)
  generalize hbx2 : sets s.bx (zwa ks q vers ks bs')=bx2 at hbget
  let g2 : G := { β := g.β, lb := g.lb,
                  ω:=fun b o=>if (g.sub ks oks).mine b o∨¬ b<w.heap.size then (match g'.ω b o with | some .st=>some .st | some (.box i)=>(ks[i]?).map Own.box | some (.obj j)=>some (.obj (q+j)) | none=>none) else g.ω b o,
                  tk:=fun k=>if q≤k∧k<q+os'.length then g'.tk (k - q) else g.tk k }
  have hωo:∀ b o,b<w.heap.size→¬ (g.sub ks oks).mine b o→g2.ω b o=g.ω b o:=fun b o h1 h2=>by
    show (if _ then _ else _)=_;rw[if_neg (by intro hh;rcases hh with hh | hh;exact h2 hh;exact hh h1)]
  have hωn:∀ b o,((g.sub ks oks).mine b o∨¬ b<w.heap.size)→g2.ω b o=(match g'.ω b o with | some .st=>some Own.st | some (.box i)=>(ks[i]?).map Own.box | some (.obj j)=>some (.obj (q+j)) | none=>none):=fun b o h1=>by
    show (if _ then _ else _)=_;rw[if_pos h1]
  have htq:∀ j,j<os'.length→g2.tk (q+j)=g'.tk j:=fun j hj=>by show (if _ then _ else _)=_;rw[if_pos ⟨by omega,by omega⟩,show q+j - q=j from by omega]
  have htn:∀ k,¬ (q≤k∧k<q+os'.length)→g2.tk k=g.tk k:=fun k hk=>by show (if _ then _ else _)=_;rw[if_neg hk]
  have hsame:∀ x,x=.st∨(∃ k,x=.box k∧k ∉ ks)∨(∃ k,x=.obj k∧k ∉ oks)→Same g w g2 w' x:=by
    intro x hx b o hω
    have hlt:=(h.own b o x hω).1
    have hnm:¬ (g.sub ks oks).mine b o:=by
      intro hm
      rcases z189 hm with ⟨k,hk,hh⟩ | ⟨k,hk,hh⟩<;>rw[hω] at hh<;>simp at hh<;>subst hh
      · rcases hx with hx | ⟨k',hx,hn⟩ | ⟨k',hx,hn⟩<;>simp at hx
        subst hx;exact hn hk
      · rcases hx with hx | ⟨k',hx,hn⟩ | ⟨k',hx,hn⟩<;>simp at hx
        subst hx;exact hn hk
    exact⟨by rw[hωo b o hlt hnm];exact hω,hfx.cell b o hlt hnm,hfx.frozen b o hlt hnm⟩
  have hst:Keeps g.St w g2.St w':=(hsame .st (.inl rfl)).keeps
  have hkr:Keeps g'.St w' g2.St w':=by
    intro b o hi
    refine⟨?_,rfl⟩
    have hi':g'.ω b o=some .st:=hi
    by_cases hb' : b<w.heap.size
    · rcases hor b o _ hb' hi' with hm | ⟨_,hm⟩
      · show g2.ω b o=_;rw[hωn b o (.inl hm),hi']
      · exact (hst b o (sub_st.1 hm)).1
    · show g2.ω b o=_;rw[hωn b o (.inr hb'),hi']
  have hbox:∀ b o i k,ks[i]? = some k→g'.ω b o=some (.box i)→g2.ω b o=some (.box k):=by
    intro b o i k hk hi
    by_cases hb' : b<w.heap.size
    · rcases hor b o _ hb' hi with hm | ⟨hm,_⟩
      · rw[hωn b o (.inl hm),hi];simp only[hk];rfl
      · simp at hm
    · rw[hωn b o (.inr hb'),hi];simp only[hk];rfl
  have hobj:∀ b o j,g'.ω b o=some (.obj j)→g2.ω b o=some (.obj (q+j)):=by
    intro b o j hi
    by_cases hb' : b<w.heap.size
    · rcases hor b o _ hb' hi with hm | ⟨hm,_⟩
      · rw[hωn b o (.inl hm),hi]
      · simp at hm
    · rw[hωn b o (.inr hb'),hi]
  have hgn:∀ j o,os'[j]? = some o→ob2[q+j]? = some (some { o with ver:=vers.getD j 0 }):=fun j o ho=>by
    have hj:j<os'.length:=(List.getElem?_eq_some_iff.1 ho).1
    rw[hget0,if_pos ⟨by omega,by omega⟩,show q+j - q=j from by omega,ho];rfl
  have hg:GLe g s.ob w g2 ob2 w':=by
    refine⟨hst,fun k hl=>⟨hl,rfl⟩,fun k o hk=>?_⟩
    by_cases hin' : q≤k∧k<q+os'.length
    · have hj:k - q<os'.length:=by omega
      obtain⟨_,vj,hvj,hlt⟩:=hvs (k - q) hj
      rw[show q+(k - q)=k from by omega] at hlt
      have:=hlt o hk
      refine⟨_,by rw[← show q+(k - q)=k from by omega];exact hgn (k - q) _ (List.getElem?_eq_getElem hj),?_,fun e=>?_⟩
      · show o.ver≤vers.getD (k - q) 0
        rw[List.getD_eq_getElem?_getD,hvj];simp;omega
      · have e':o.ver=vers.getD (k - q) 0:=e
        rw[List.getD_eq_getElem?_getD,hvj] at e';simp at e';omega
    · by_cases hko : k∈oks
      · refine⟨o.spent,by rw[hget0,if_neg hin',hgets,if_pos hko,hk];rfl,(zaj o).1,fun e=>⟨((zaj o).2 e).1,((zaj o).2 e).2,htn k hin'⟩⟩
      · exact⟨o,by rw[hget0,if_neg hin',hgets,if_neg hko];exact hk,Nat.le_refl _,fun _=>⟨rfl,rfl,htn k hin'⟩⟩
  have hnew:∀ j o,os'[j]? = some o→ObRel E g2 w' (q+j) { o with ver:=vers.getD j 0 }:=by
    intro j o ho
    have hj:j<os'.length:=(List.getElem?_eq_some_iff.1 ho).1
    obtain⟨⟨⟨h1,h1'⟩,h2⟩,_⟩:=hp.obs j o ho
    refine⟨⟨by rw[htq j hj];exact h1,h1'⟩,fun hc=>?_⟩
    rw[htq j hj] at hc ⊢
    obtain⟨b,off,cv,e,hA⟩:=h2 hc
    refine⟨b,off,cv,e,⟨fun i j' hi hj'=>?_,fun i hi j' d hd=>(hA.rel i hi j' d hd).mono hkr,fun hl x hx hx'=>?_⟩⟩
    · obtain⟨c1,c2⟩:=hA.cell i j' hi hj'
      refine⟨c1,?_⟩
      unfold Mode at c2 ⊢
      show match o.fr with | none=>_ | some f=>_
      split at c2
      · rename_i hf;simp only[hf];exact (hkr _ _ c2).1
      · rename_i f hf
        simp only[hf]
        exact⟨fun hh=>(hkr _ _ (c2.1 hh)).1,fun hh=>⟨hobj _ _ _ (c2.2 hh).1,(c2.2 hh).2⟩⟩
    · obtain⟨d1,d2,d3⟩:=hA.spare hl x hx hx'
      exact⟨hobj _ _ _ d1,d2,d3⟩
  have hlbk:∀ i,g'.lb i→∃ k,ks[i]? = some k∧g'.β i=g.β k∧g.lb k:=by
    intro i hi
    have hil:i<ks.length:=by have:=hp.lbs i hi;omega
    obtain⟨b,h1,_⟩:=hb i _ (List.getElem?_eq_getElem hil)
    refine⟨_,List.getElem?_eq_getElem hil,?_,(h.bxs _ b.1 b.2 h1).1⟩
    rw[hβ i hil]
    show g.β (ks.getD i 0)=_
    rw[List.getD_eq_getElem?_getD,List.getElem?_eq_getElem hil];rfl
  have hc:∀ {u:Value} {c:C U},CRel P E g' (os'.map some) w' u c→CRel P E g2 ob2 w' u (c.back ks q vers):=by
    intro u c hu'
    have hone:=hu'.one
    cases c with
    | s x=>exact hu'
    | sl τ xs f=>exact⟨hu'.1.mono hkr,hu'.2⟩
    | ob j ver =>
      cases ver with
      | zero =>
        simp only[C.back]
        split
        · rename_i vj hvj
          obtain⟨_,o,ho1,_,hval⟩:=hu'
          have ho':os'[j]? = some o:=by
            rw[List.getElem?_map] at ho1
            cases hoj : os'[j]? with
            | none=>rw[hoj] at ho1;simp at ho1
            | some o2=>rw[hoj] at ho1;simp at ho1;rw[ho1]
          have hj:j<os'.length:=(List.getElem?_eq_some_iff.1 ho').1
          have hver:=(hp.obs j o ho').2
          refine⟨hone,_,hgn j o ho',by rw[List.getD_eq_getElem?_getD,hvj];exact Nat.le_refl _,fun _=>?_⟩
          rw[htq j hj]
          exact hval hver.symm
        · exact hone
      | succ n=>exact hone
    | em j ver i off=>exact hone
    | bx i off =>
      simp only[C.back]
      obtain⟨k,h1,h2,h3⟩:=hlbk i hu'.1
      rw[h1]
      exact⟨h3,by show u=.pointer (some ⟨g.β k,off,none⟩);rw[← h2];exact hu'.2⟩
    | el τ xs i off =>
      obtain⟨h1,b,o,cap,h2,h3⟩:=hu'
      exact⟨h1,b,o,cap,h2,h3.mono hkr⟩
    | fv φ=>exact FunRel.mono hkr hu'
    | fc f caps=>exact hone
    | top=>exact hu'
  have ha:∀ (u:Value) (x:A U),ARel P E g' (os'.map some) w' u x→ARel P E g2 ob2 w' u (x.back ks q vers):=by
    intro u x hu'
    cases x with
    | c y=>exact hc hu'
    | agg cs =>
      obtain⟨arr,e,hh⟩:=hu'
      exact⟨arr,e,zo3 (C.back ks q vers) (fun _ _ hx=>hc hx) hh⟩
    | top=>trivial
  refine⟨g2,?_,?_⟩
  · refine { ext:=?_,tms:=h.tms.imp fun _ _=>AVRel.mono hg,bxs:=fun k fz cells hk=>?_,lbs:=fun k hl=>?_,obs:=fun k o hk=>?_,own:=fun b o x hx=>?_,dfr:=h.dfr,fix:=h.fix,bas:=h.bas }
    · have hown:∀ b o,(g.sub ks oks).mine b o→fr.w0.heap.size≤b∨fr.own b o:=by
        intro b o hm
        rcases z189 hm with ⟨k,_,hh⟩ | ⟨k,_,hh⟩
        · exact h.wr hh (by simp)
        · exact h.wr hh (by simp)
      have hle:fr.w0.heap.size≤w.heap.size:=h.ext.size
      refine⟨hfx.os.trans h.ext.os,hfx.tape.trans h.ext.tape,hfx.output.trans h.ext.output,Nat.le_trans h.ext.size hfx.size,fun k hk hn=>?_,fun b o hb' hn=>?_,fun b o hb' hn=>?_,hfx.laid,h.ext.lb0,h.ext.nlb⟩
      · rw[hfx.block k (Nat.lt_of_lt_of_le hk hle) (fun o hm=>by rcases hown k o hm with h1 | h1;omega;exact hn o h1)]
        exact h.ext.block k hk hn
      · rw[hfx.cell b o (Nat.lt_of_lt_of_le hb' hle) (fun hm=>by rcases hown b o hm with h1 | h1;omega;exact hn h1)]
        exact h.ext.cell b o hb' hn
      · rw[hfx.frozen b o (Nat.lt_of_lt_of_le hb' hle) (fun hm=>by rcases hown b o hm with h1 | h1;omega;exact hn h1)]
        exact h.ext.frozen b o hb' hn
    · have hk':bx2[k]? = some (some (fz,cells)):=hk
      rw[hbget] at hk'
      cases hi : idx k ks 0 with
      | none =>
        rw[hi] at hk'
        obtain⟨hl,hbr⟩:=h.bxs k fz cells hk'
        exact⟨hl,hbr.keep hl hg (hsame _ (.inr (.inl ⟨k,rfl,z1nq hi⟩)))⟩
      | some i =>
        rw[hi] at hk'
        dsimp only at hk'
        obtain⟨m,hm,hm'⟩:=zc8 hi
        rw[Nat.zero_add] at hm;subst hm
        cases hbi : bs'[i]? with
        | none=>rw[hbi] at hk';simp at hk'
        | some b0 =>
          rw[hbi] at hk';simp at hk'
          obtain⟨rfl,rfl⟩:=hk'
          obtain⟨hl,vs,hvs',hcell⟩:=hp.bxs i b0.1 b0.2 hbi
          obtain⟨k',e1,e2,e3⟩:=hlbk i hl
          rw[hm'] at e1;simp at e1;subst e1
          refine⟨e3,vs,zo3 (C.back ks q vers) (fun _ _ hx=>hc hx) hvs',fun n u hu'=>?_⟩
          obtain⟨c1,c2,c3⟩:=hcell n u hu'
          show w'.cell? ⟨g.β k,n,none⟩=_∧(_→stuck w' ⟨g.β k,n,none⟩=false∧g2.ω (g.β k) n=_)∧(_→g2.St (g.β k) n)
          rw[← e2]
          exact⟨c1,fun hf=>⟨(c2 hf).1,hbox _ _ _ _ hm' (c2 hf).2⟩,fun hf=>(hkr _ _ (c3 hf)).1⟩
    · show ∃ c,bx2[k]? = _
      rw[hbget]
      cases hi : idx k ks 0 with
      | none=>exact h.lbs k hl
      | some i =>
        obtain⟨m,hm,hm'⟩:=zc8 hi
        rw[Nat.zero_add] at hm;subst hm
        have hil:i<bs'.length:=by rw[hlen,hbl];exact (List.getElem?_eq_some_iff.1 hm').1
        simp only[List.getElem?_eq_getElem hil]
        exact⟨_,rfl⟩
    · have hk':ob2[k]? = some (some o):=hk
      by_cases hin' : q≤k∧k<q+os'.length
      · have hj:k - q<os'.length:=by omega
        have h1:=hgn (k - q) _ (List.getElem?_eq_getElem hj)
        rw[show q+(k - q)=k from by omega,hk'] at h1
        simp at h1;subst h1
        have:=hnew (k - q) _ (List.getElem?_eq_getElem hj)
        rw[show q+(k - q)=k from by omega] at this
        exact this
      · rw[hget0,if_neg hin',hgets] at hk'
        by_cases hko : k∈oks
        · rw[if_pos hko] at hk'
          cases hsk : s.ob[k]? with
          | none=>rw[hsk] at hk';simp at hk'
          | some x =>
            cases x with
            | none=>rw[hsk] at hk';simp at hk'
            | some o0 =>
              rw[hsk] at hk';simp at hk';subst hk'
              exact z1uw (h.obs k o0 hsk) hst (htn k hin')
        · rw[if_neg hko] at hk'
          exact (h.obs k o hk').keep hst (hsame _ (.inr (.inr ⟨k,rfl,hko⟩))) (htn k hin')
    · have hsz:=hfx.size
      by_cases hc' : (g.sub ks oks).mine b o∨¬ b<w.heap.size
      · rw[hωn b o hc'] at hx
        have hlt:b<w'.heap.size:=by
          cases hω : g'.ω b o with
          | none=>rw[hω] at hx;simp at hx
          | some y=>exact hp.own b o y hω
        refine⟨hlt,?_⟩
        rcases hc' with hm | hn
        · rcases z189 hm with ⟨k,_,hh⟩ | ⟨k,_,hh⟩
          · exact (h.wr hh (by simp)).elim .inl (fun hh=>.inr (.inl hh))
          · exact (h.wr hh (by simp)).elim .inl (fun hh=>.inr (.inl hh))
        · exact .inl (by have:=h.ext.size;omega)
      · have hb':b<w.heap.size:=by
          by_cases hlt : b<w.heap.size
          · exact hlt
          · exact (hc' (.inr hlt)).elim
        rw[hωo b o hb' (fun hm=>hc' (.inl hm))] at hx
        exact⟨Nat.lt_of_lt_of_le hb' hsz,(h.own b o x hx).2⟩
  · rw[zlo]
    match rs,hrel with
    | [],hrel=>obtain⟨arr,e,hh⟩:=hrel;exact⟨arr,e,zo3 (A.back ks q vers) ha hh⟩
    | [x],hrel=>exact ha _ _ hrel
    | x::y::r,hrel=>obtain⟨arr,e,hh⟩:=hrel;exact⟨arr,e,zo3 (A.back ks q vers) ha hh⟩
end Go.Proofs.YtjfpbchdcbhfgaaGreat.B
