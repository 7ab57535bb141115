/- Part 5 of the proof: BFn BEntry BData BTabs BEntryG. -/
import Derived.Test.YtjfpbchdcbhfgaaGreatProg
import Derived.KernelRfl
import Derived.Test.YtjfpbchdcbhfgaaGreatNsy4
set_option linter.unusedVariables false
set_option linter.unusedSimpArgs false
set_option linter.defProp false
namespace Go.Proofs.YtjfpbchdcbhfgaaGreat
namespace B
open Go Go.RowKit
variable {U:Uni} {P:Program} {M:Mc U} {fr:Fr} {w:World} {g:G} {s:S U} {a:Act}
def uu(tmps:Array Value)(r:ResultVar):Sem Value:=match r with
 | .tmp t=>pure<|tmps.getD t undef
 | .cell p t=>do loadVar t (←asAddr<|tmps.getD p undef)
def ahD fn(tmps:Array Value):results fn tmps=(do let vs ←fn.results.mapM<|uu tmps;pure (if h:vs.size=1 then vs[0]else .tuple vs)):=by
 rfl
def ahE(hT:TabOK P M)(h:Sim P M.E fr g s a w){r x}(hr:s.res M r=some x):
 ∃v,(uu a.tmps r).run P w=.ok v w∧ARel P M.E g s.ob w v x:=by
 cases r with
 |tmp t=>
  simp only[S.res]at hr;split at hr
  ·rename_i y hy;simp at hr;subst hr;exact⟨a.tmps.getD t undef,by rfl,h.slot hy⟩
  grind
 |cell p t=>
  simp only[S.res]at hr;split at hr
  ·rename_i c hc;split at hr
   ·rename_i agg n hsh;split at hr
    ·rename_i cs hat;split at hr
     ·rename_i y hm;simp at hr;subst hr;have hp:CRel P M.E g s.ob w (a.tmps.getD p undef) c:=h.slot hc;obtain⟨b,off,vs,e1,e2,e3,e4⟩:=h.cellsAt hp hat;have hshp:=(hT.ti t).1 agg n hsh;have hmk:=KM hm e4;cases agg with
      |true=>
       refine⟨.agg vs.toArray,?_,hmk.1 rfl⟩;simp only[uu];rw[e1];simp only[Sem.run_bind,asAddr,Sem.run_pure,Result.andThen_ok,loadVar,vB hshp,run_sizeOf hshp,if_true];rw[←e2,Qf w b off vs e3];rfl
      |false=>
       obtain⟨v,rfl,hv⟩:=hmk.2 rfl;refine⟨v,?_,hv⟩;have hc0:=e3 0 v rfl;simp at hc0;simp only[uu];rw[e1];simp only[Sem.run_bind,asAddr,Sem.run_pure,Result.andThen_ok,loadVar,vB hshp,mf,if_false,run_load,hc0]
     grind
    grind
   grind
  grind
def Ti(hT:TabOK P M)(h:Sim P M.E fr g s a w):∀{rs:List ResultVar}{al:List (A U)},s.ress M rs=some al→
 ∃vs:List Value,(rs.mapM<|uu a.tmps).run P w=.ok vs w∧All2 (ARel P M.E g s.ob w) vs al
 |[],al,hr=>by simp[S.ress]at hr;subst hr;exact⟨[],by simp,trivial⟩
 |r::rs,al,hr=>by
  simp only[S.ress]at hr;split at hr
  ·rename_i x l h1 h2;simp at hr;subst hr;obtain⟨v,hv,hvr⟩:=ahE hT h h1;obtain⟨vs,hvs,hvsr⟩:=Ti hT h h2;refine⟨v::vs,?_,⟨hvr,hvsr⟩⟩;simp_all
  grind
def Tj(hT:TabOK P M)(h:Sim P M.E fr g s a w){fn al}(hr:s.ress M fn.results.toList=some al):
 ∃v,(results fn a.tmps).run P w=.ok v w∧RetRel (ARel P M.E g s.ob w) v al:=by
 obtain⟨vs,hvs,hrel⟩:=Ti hT h hr;have hm:(fn.results.mapM<|uu a.tmps).run P w=.ok vs.toArray w:=by
  rw[y4i,Sem.run_map,hvs];rfl
 have hlen:=hrel.length;rw[ahD]
 match al,vs,hrel,hm with
 |[],[],hrel,hm=>exact⟨.tuple #[],by simp_all,#[],rfl,trivial⟩
 |[x],[v],hrel,hm=>exact⟨v,by rw[Sem.run_bind,hm];simp,hrel.1⟩
 |x::y::l,v::u::r,hrel,hm=>exact⟨.tuple (v::u::r).toArray,by simp_all,_,rfl,by omega⟩
 |[],_::_,hrel,_=>grind
 |[_],[],hrel,_=>grind
 |[_],_::_::_,hrel,_=>grind
 |_::_::_,[],hrel,_=>grind
 |_::_::_,[_],hrel,_=>grind
def mn(k:Nat):List (Option Nat×Ob U)→Nat→Option Nat
 |[],_=>none
 |(some k',_)::r,j=>if k'=k then some j else mn k r (j+1)
 |(none,_)::r,j=>mn k r<|j+1
theorem Le{k o}:∀{es:List (Option Nat×Ob U)}{j i:Nat},du (nz es)=true→es[i]?=some (some k,o)→mn k es j=some (j+i)
 |[],j,i,_,h=>by grind
 |(some k',o')::r,j,i,hu,h=>by
  obtain⟨h1,h2⟩:=pS hu;simp only[mn];cases i with
  |zero=>grind
  |succ i=>
   have hm:k∈nz r:=by
    have:∀{r:List (Option Nat×Ob U)}{i:Nat},r[i]?=some (some k,o)→k∈nz r:=by
     intro r
     induction r with
     |nil=>simp
     |cons x r ih=>
      intro i h;obtain⟨x1,x2⟩:=x;cases i with
      |zero=>obtain⟨rfl,rfl⟩:=h;simp[nz]
      |succ i=>cases x1<;>simp only[nz]<;>first|grind|grind
    grind
   rw[Le h2 (i:=i)<|by simpa using h];grind
 |(none,o')::r,j,i,hu,h=>by
  simp only[mn];cases i with
  |zero=>grind
  |succ i=>
   rw[Le (by simp_all[nz]) (i:=i)<|by simpa using h];grind
def Lf:Value→Option Addr
 | .slice a _ _=>a
 |_=>none
def uv(s:S U):List Kind→Nat→List (A U)→List Value→List (Option Addr)
 |ks,j,x::al,v::vs=>match s.outA (ks.headD .d) j x with
  |some (_,e)=>e.map (fun _=>Lf v)++uv s ks.tail (j+e.length) al vs
  |none=>[]
 |_,_,_,_=>[]
theorem Tk:∀{al rs:List (A U)}{vs:List Value}{es:List (Option Nat×Ob U)}{ks:List Kind}{j:Nat},s.outs ks j al=some (rs,es)→vs.length=al.length→(uv s ks j al vs).length=es.length
 |[],rs,vs,es,ks,j,h,hl=>by obtain⟨rfl,rfl⟩:=h;rfl
 |x::al,rs,[],es,ks,j,h,hl=>by grind
 |x::al,rs,v::vs,es,ks,j,h,hl=>by
  simp only[S.outs]at h;split at h
  ·rename_i r e h1;split at h
   ·rename_i rs' es' h2;obtain⟨rfl,rfl⟩:=h;simp only[uv,h1,yb,yy,Tk h2<|show vs.length=al.length by grind]
   grind
  grind
def Tl{E s1 gr ob}(hs1:Sim P E fr g s1 a w)(hf:FrzLe s.ob s1.ob)(hk:Keeps g.St w gr.St w){v c c'}(hfz:∀k∈c.obs,∀o,s1.ob[k]?=some (some o)→o.fr=none)(hd:s.outD c=some c')(hc:CRel P E g s1.ob w v c):CRel P E gr ob w v c':=by
 have hone:=hc.one;cases c with
 |s x=>simp[S.outD]at hd;subst hd;exact hc
 |fv φ=>simp[S.outD]at hd;subst hd;exact FunRel.mono hk hc
 |sl τ xs f=>simp[S.outD,S.lst]at hd;subst hd;exact⟨hc.1.mono hk,by simp⟩
 |ob k ver=>
  simp only[S.outD,S.lst]at hd;cases ho:s.obAt k ver with
  |none=>rw[ho]at hd;simp at hd;subst hd;exact hone
  |some o=>
   rw[ho]at hd;simp at hd;subst hd;have:=hs1.frozenV (s0:=s) hf hfz (d:=.dat o.τ o.xs) (by simp_all[S.toV]) hc;exact⟨this.mono hk,by simp⟩
 |_=>simp[S.outD,S.lst]at hd;subst hd;exact hone
def Tm{E s1 gr ob}(hs1:Sim P E fr g s1 a w)(hf:FrzLe s.ob s1.ob)(hk:Keeps g.St w gr.St w):∀{vs:List Value}{cs cs':List (C U)},(∀k∈Cs.obs cs,∀o,s1.ob[k]?=some (some o)→o.fr=none)→
 s.outDs cs=some cs'→All2 (CRel P E g s1.ob w) vs cs→All2 (CRel P E gr ob w) vs cs'
 |[],[],cs',_,hd,_=>by simp[S.outDs]at hd;subst hd;trivial
 |v::vs,c::cs,cs',hfz,hd,hc=>by
  simp only[S.outDs]at hd;split at hd
  ·rename_i x xs h1 h2;simp at hd;subst hd;exact⟨Tl hs1 hf hk (fun k hm=>hfz k<|by simp[Cs.obs,hm]) h1 hc.1,Tm hs1 hf hk (fun k hm=>hfz k<|by simp[Cs.obs,hm]) h2 hc.2⟩
  grind
def Tn(h:Sim P M.E fr g s a w) nb{fm vs al rs os}(hall:All2 (ARel P M.E g s.ob w) vs al)(hout:s.out fm al=some (rs,os)):
    rs.length=al.length∧∃gr:G,(∀k,gr.lb k↔k<nb∧g.lb k)∧(∀k,g.lb k→gr.β k=g.β k)∧Keeps g.St w gr.St w∧(∀b i x,gr.ω b i=some x→b<w.heap.size∧(fr.w0.heap.size≤b∨fr.own b i∨(x=.st∧fr.st b i)))∧
      (∀k fz cells i,k<nb→s.bx[k]?=some (some (fz,cells))→i<cells.length→(fz=false→gr.ω (g.β k) i=some (.box k))∧(fz=true→gr.St (g.β k) i))∧
      (∀b i k,gr.ω b i=some (.box k)→k<nb)∧
      All2 (ARel P M.E gr (os.map some) w) vs rs∧∀k o,os[k]?=some o→ObRel M.E gr w k o∧o.ver=0:=by
  unfold S.out at hout;split at hout
  · rename_i rs' es houts;split at hout
    · rename_i hchk;simp at hout;obtain⟨rfl,rfl⟩:=hout;simp only[yp,jq]at hchk;obtain⟨hul,hmt⟩:=hchk;obtain⟨g1,hs1,hg1,hf1,hfz⟩:=Sim.frzs (iL fm al) (s0:=s) rfl h (FrzLe.refl _);generalize hsob:aH s.ob (s.frz (iL fm al))=ob1 at hs1 hg1 hf1 hfz;have hvl:=hall.length;have hlr:rs'.length=al.length:=by
        have:∀{al rs:List (A U)}{es:List (Option Nat×Ob U)}{ks:List Kind}{j:Nat},s.outs ks j al=some (rs,es)→rs.length=al.length:=by
          intro al
          induction al with
          |nil=>simp[S.outs]
          |cons x al ih=>
            grind[S.outs]
        grind
      generalize had:uv s fm 0 al vs=ad;have hadl:ad.length=es.length:=by grind[Tk]
      let gr:G:={β:=g1.β,lb:=fun k=>k<nb∧g1.lb k,
                      ω:=fun b i=>match g1.ω b i with|some .st=>some .st|some (.obj k)=>(mn k es 0).map Own.obj|some (.box k)=>if k<nb then some (.box k)else none|none=>none,
                      tk:=fun j=>match es[j]? with|some (some k,_)=>g1.tk k|_=>(ad.getD j none,0)}
      have hst:∀b i,g1.St b i→gr.St b i:=fun b i hh=>by show(match g1.ω b i with|some .st=>some Own.st|some (.obj k)=>_|some (.box k)=>_|none=>none)=_;rw[show g1.ω b i=some .st from hh]
      have hkeep:Keeps g1.St w gr.St w:=fun b i hh=>⟨hst b i hh,rfl⟩;have hobj:∀b i k j o,es[j]?=some (some k,o)→g1.ω b i=some (.obj k)→gr.ω b i=some (.obj j):=fun b i k j o he hh=>by
        show(match g1.ω b i with|some .st=>some Own.st|some (.obj k)=>_|some (.box k)=>_|none=>none)=_;rw[hh];simp only[Le (j:=0) hul he,iE];rfl
      have htk:∀j k o,es[j]?=some (some k,o)→gr.tk j=g1.tk k:=fun j k o he=>by grind
      have htn:∀j o,es[j]?=some (none,o)→gr.tk j=(ad.getD j none,0):=fun j o he=>by grind
      have hgetos:∀j x o,es[j]?=some (x,o)→((es.map (·.2)).map some)[j]?=some (some o):=fun j x o he=>by rw[dn,dn,he];rfl
      have hall1:All2 (ARel P M.E g1 ob1 w) vs al:=hall.imp fun _ _=>ARel.mono hg1
      have key:∀(al':List (A U))(vs':List Value)(rs1:List (A U))(es':List (Option Nat×Ob U))(ks:List Kind)(j:Nat)(pre:List (Option Nat×Ob U))(apre:List (Option Addr)),
          s.outs ks j al'=some (rs1,es')→All2 (ARel P M.E g1 ob1 w) vs' al'→es=pre++es'→j=pre.length→ad=apre++uv s ks j al' vs'→apre.length=pre.length→
          (∀q∈iL ks al',q∈iL fm al)→(∀q∈yX ks al',q ∉iL fm al)→
          All2 (ARel P M.E gr ((es.map (·.2)).map some) w) vs' rs1∧∀(i:Nat) x o,es'[i]?=some (x,o)→ObRel M.E gr w (j+i) o∧o.ver=0:=by
        intro al'
        induction al' with
        |nil=>
          intro vs' rs1 es' ks j pre apre ho hvs _ _ _ _ _ _;simp[S.outs]at ho;obtain⟨rfl,rfl⟩:=ho;refine⟨?_,fun i x o hi=>by grind⟩;cases vs' with
          |nil=>trivial
          |cons _ _=>exact hvs.elim
        |cons x al' ih=>
          intro vs' rs1 es' ks j pre apre ho hvs hes hj hadd hapl hkin hown';cases vs' with
          |nil=>exact hvs.elim
          |cons u vs'=>
            simp only[S.outs]at ho;split at ho
            · rename_i r e h1;split at ho
              · rename_i rs2 es2 h2;simp at ho;obtain⟨rfl,rfl⟩:=ho;simp only[uv,h1]at hadd
                obtain⟨i1,i2⟩:=ih vs' rs2 es2 ks.tail (j+e.length) (pre++e) (apre++e.map (fun _=>Lf u)) h2 hvs.2 (by grind) (by grind) (by grind) (by grind)
                  (fun q hq=>hkin q (by simp_all[iL,ye])) (fun q hq=>hown' q (by simp_all[yX,ye]))
                have hfzk:∀q∈iL fm al,∀o,ob1[q]?=some (some o)→o.fr=none:=fun q hq=>hfz q (.inl hq);have hone:ARel P M.E gr ((es.map (·.2)).map some) w u r∧∀(i:Nat) x o,e[i]?=some (x,o)→ObRel M.E gr w (j+i) o∧o.ver=0:=by
                  have hu:=hvs.1;have hese:∀(i:Nat),i<e.length→es[j+i]?=e[i]?:=fun i hi=>by
                    simp_all[fC,P0,d7]
                  have hade:∀(i:Nat),i<e.length→ad.getD (j+i) none=Lf u:=fun i hi=>by
                    simp_all[yf,fC,d7,dn,ya]
                  have nilcase:∀(τ:U.Ty)(fr0:Option Nat),(fr0=none∨fr0=some 0)→x=.c (.sl τ [] true)→r=.c (.ob j 0)→e=[(none,⟨0,τ,[],fr0,true⟩)]→ARel P M.E gr ((es.map (·.2)).map some) w u r∧∀(i:Nat) x o,e[i]?=some (x,o)→ObRel M.E gr w (j+i) o∧o.ver=0:=by
                    rintro τ fr0 hfr0 rfl rfl rfl;have he0:=hese 0 (by simp);simp only[iC,A7]at he0;obtain⟨hV,hfull⟩:CRel P M.E g1 ob1 w u (.sl τ [] true):=hu;obtain⟨p0,n,rfl⟩:=hfull rfl;have hn0:n=0:=by rcases hV.inv with⟨_,_,_,e⟩|⟨_,_,_,_,e,_⟩<;>(grind)
                    subst hn0;have ht:=htn j _ he0;have had0:=hade 0 (by simp);rw[iC]at had0;rw[had0]at ht;refine⟨⟨rfl,_,hgetos j _ _ he0,y7 _,fun _=>by rw[ht];rfl⟩,fun i x o hi=>?_⟩;cases i with
                    |zero=>
                      simp at hi;obtain⟨rfl,rfl⟩:=hi;refine⟨⟨⟨⟨yc _,yc _⟩,fun f hf=>by grind⟩,fun hc=>?_⟩,rfl⟩;grind
                    |succ i=>grind
                  have obcase:∀(k ver:Nat)(o:Ob U)(fr0:Option Nat),x=.c (.ob k ver)→s.obAt k ver=some o→o.live=true→r=.c (.ob j 0)→e=[(some k,⟨0,o.τ,o.xs,fr0,true⟩)]→(∃o',ob1[k]?=some (some o')∧o'.fr=fr0∧(o'=o∨o'=({o with fr:=none}:Ob U)))→
                      ARel P M.E gr ((es.map (·.2)).map some) w u r∧∀(i:Nat) x o,e[i]?=some (x,o)→ObRel M.E gr w (j+i) o∧o.ver=0:=by
                    rintro k ver o fr0 rfl ho hlive rfl rfl ⟨o',ho',hfr',hor⟩;have he0:=hese 0 (by simp);simp only[iC,A7]at he0;obtain⟨j1,j2⟩:=gN ho;obtain⟨c1,o2,c2,c3,c4⟩:CRel P M.E g1 ob1 w u (.ob k ver):=hu;rw[ho']at c2;simp at c2;subst c2;have hxs:o'.ver=o.ver∧o'.τ=o.τ∧o'.live=true:=by rcases hor with rfl|rfl<;>exact⟨rfl,rfl,hlive⟩
                    have ht:=htk j k _ he0;have hoR:ObRel M.E g1 w k o':=hs1.obs k o' ho';have hval:=c4 (by omega);have hnew:ObRel M.E gr w j (⟨0,o.τ,o.xs,fr0,true⟩:Ob U):=by
                      have hh:ObRel M.E gr w j (⟨0,o'.τ,o'.xs,o'.fr,o'.live⟩:Ob U):=by
                        obtain⟨⟨q1,q2⟩,q3⟩:=hoR;refine⟨⟨by rw[ht];exact q1,q2⟩,fun hcap=>?_⟩;rw[ht]at hcap ⊢;obtain⟨b,off,cv,eb,hA⟩:=q3 hcap;refine⟨b,off,cv,eb,⟨fun i1 j1 hi hj1=>?_,fun i1 hi j1 d hd=>(hA.rel i1 hi j1 d hd).mono hkeep,fun hl x hx hx'=>?_⟩⟩
                        · obtain⟨d1,d2⟩:=hA.cell i1 j1 hi hj1;refine⟨d1,?_⟩;unfold eu at d2 ⊢;show match o'.fr with|none=>_|some f=>_
                          split at d2
                          · rename_i hf;simp only[hf];exact hst _ _ d2
                          · rename_i f hf;simp only[hf];exact⟨fun hh=>hst _ _ (d2.1 hh),fun hh=>⟨hobj _ _ _ _ _ he0 (d2.2 hh).1,(d2.2 hh).2⟩⟩
                        · obtain⟨d1,d2,d3⟩:=hA.spare hl x hx hx';exact⟨hobj _ _ _ _ _ he0 d1,d2,d3⟩
                      rw[hfr']at hh;rcases hor with rfl|rfl
                      · rw[hlive]at hh;exact hh
                      · have hl2:({o with fr:=none}:Ob U).live=true:=hlive;rw[hl2]at hh;exact hh
                    refine⟨⟨c1,_,hgetos j _ _ he0,y7 _,fun _=>?_⟩,fun i x o1 hi=>?_⟩
                    · rw[ht,hval];rcases hor with rfl|rfl<;>rfl
                    · cases i with
                      |zero=>simp at hi;obtain⟨rfl,rfl⟩:=hi;exact⟨hnew,rfl⟩
                      |succ i=>simp at hi
                  have hkk:∀k ver,x=.c (.ob k ver)→ks.headD .d≠.m→k∈iL fm al:=fun k ver hx hm=>hkin k (by
                    subst hx;simp only[iL,ye];left;cases hh:ks.headD .d with
                    |m=>exact(hm hh).elim
                    |d=>simp[A.obs,C.obs]
                    |o=>simp[A.obs,C.obs])
                  unfold S.outA at h1;split at h1
                  · rename_i c hkind;split at h1
                    · rename_i y hy;simp at h1;obtain⟨rfl,rfl⟩:=h1;refine⟨Tl hs1 hf1 hkeep (fun k hm=>hfzk k (hkin k ?_)) hy hu,fun i x o hi=>by simp at hi⟩;simp only[iL,hkind,ye];exact .inl hm
                    · simp at h1
                  · rename_i cs hkind;split at h1
                    · rename_i ys hy;simp at h1;obtain⟨rfl,rfl⟩:=h1;obtain⟨arr,ea,hu2⟩:=hu;refine⟨⟨arr,ea,Tm hs1 hf1 hkeep (fun k hm=>hfzk k (hkin k ?_)) hy hu2⟩,fun i x o hi=>by simp at hi⟩;simp only[iL,hkind,ye];exact .inl hm
                    · simp at h1
                  · rename_i τ hkind;simp at h1;obtain⟨rfl,rfl⟩:=h1;exact nilcase τ none (.inl rfl) rfl rfl rfl
                  · rename_i k ver hkind;split at h1
                    · rename_i o ho;split at h1
                      · rename_i hlive;simp at h1;obtain⟨rfl,rfl⟩:=h1;have hin:=hkk k ver rfl (by rw[hkind];simp);obtain⟨o',ho',hor⟩:=(hf1 k).1 o (gN ho).1;exact obcase k ver o none rfl ho hlive rfl rfl ⟨o',ho',hfzk k hin o' ho',hor⟩
                      · simp at h1
                    · simp at h1
                  · rename_i τ hkind;simp at h1;obtain⟨rfl,rfl⟩:=h1;exact nilcase τ (some 0) (.inr rfl) rfl rfl rfl
                  · rename_i k ver hkind;split at h1
                    · rename_i o ho;split at h1
                      · rename_i hlive hfr;simp at h1;obtain⟨rfl,rfl⟩:=h1;have hnk:k ∉iL fm al:=hown' k (by simp only[yX,hkind,ye];left;simp[A.obs,C.obs]);refine obcase k ver o (some 0) rfl ho hlive rfl rfl ⟨o,?_,hfr,.inl rfl⟩;rw[←hsob,Bm hnk];exact(gN ho).1
                      · simp at h1
                    · simp at h1
                  grind
                refine⟨⟨hone.1,i1⟩,fun i y o hi=>?_⟩;rcases yk i e.length with hlt|hge
                all_goals grind
              grind
            grind
      obtain⟨k1,k2⟩:=key al vs rs' es fm 0 [] [] houts hall1 rfl rfl (by rw[had];rfl) rfl (fun q hq=>hq) (fun q hq=>mj hmt q hq);refine⟨hlr,gr,fun k=>⟨fun hh=>⟨hh.1,?_⟩,fun hh=>⟨hh.1,(hg1.lb k hh.2).1⟩⟩,fun k hl=>(hg1.lb k hl).2,fun b i hh=>⟨hst b i (hg1.st b i hh).1,rfl⟩,fun b o x hx=>?_,fun k fz cells i hk hbx hi=>?_,fun b o k hx=>?_,k1,fun k o hk=>?_⟩
      · obtain⟨c,hc⟩:=hs1.lbs k hh.2;exact(h.bxs k c.1 c.2 hc).1
      · have hx':(match g1.ω b o with|some .st=>some Own.st|some (.obj k)=>(mn k es 0).map Own.obj|some (.box k)=>if k<nb then some (.box k)else none|none=>none)=some x:=hx;cases hw:g1.ω b o with
        |none=>rw[hw]at hx';simp at hx'
        |some y=>
          refine⟨(hs1.own b o y hw).1,?_⟩;rcases(hs1.own b o y hw).2 with h1|h1|⟨h1,h2⟩
          · exact .inl h1
          · exact .inr (.inl h1)
          · subst h1;rw[hw]at hx';simp at hx';subst hx';exact .inr (.inr ⟨rfl,h2⟩)
      · obtain⟨hl,vs',hvs',hcell⟩:=hs1.bxs k fz cells hbx;have hgl:=(h.bxs k fz cells hbx).1;have hil:i<vs'.length:=by rw[hvs'.length];exact hi
        obtain⟨c1,c2,c3⟩:=hcell i _ (ya hil);rw[(hg1.lb k hgl).2]at c2 c3;refine⟨fun hf=>?_,fun hf=>hst _ _ (c3 hf)⟩;show(match g1.ω (g.β k) i with|some .st=>some Own.st|some (.obj k)=>(mn k es 0).map Own.obj|some (.box k)=>if k<nb then some (.box k)else none|none=>none)=_;rw[(c2 hf).2];simp[hk]
      · have hx':(match g1.ω b o with|some .st=>some Own.st|some (.obj k)=>(mn k es 0).map Own.obj|some (.box k)=>if k<nb then some (.box k)else none|none=>none)=some (.box k):=hx;cases hw:g1.ω b o with
        |none=>rw[hw]at hx';simp at hx'
        |some y=>
          rw[hw]at hx';cases y with
          |st=>simp at hx'
          |obj q=>dsimp only at hx';cases hp:mn q es 0<;>rw[hp]at hx'<;>simp at hx'
          |box q=>
            dsimp only at hx';split at hx'
            · simp at hx';subst hx';assumption
            · simp at hx'
      grind
    grind
  grind
def To{R v}{al:List (A U)}(hv:RetRel R v al):∃vs:List Value,All2 R vs al∧∀{R':Value→A U→Prop}{ys:List (A U)},ys.length=al.length→All2 R' vs ys→RetRel R' v ys:=by
 match al,hv with
 |[],hv=>
  obtain⟨arr,e,h2⟩:=hv;refine⟨arr.toList,h2,fun{R ys} hl h3=>?_⟩;have:ys=[]:=yx (by omega);subst this;exact⟨arr,e,h3⟩
 |[x],hv=>
  refine⟨[v],⟨hv,trivial⟩,fun{R ys} hl h3=>?_⟩
  match ys,hl,h3 with
  |[y],_,h3=>exact h3.1
 |x::y::l,hv=>
  obtain⟨arr,e,h2⟩:=hv;refine⟨arr.toList,h2,fun{R ys} hl h3=>?_⟩
  match ys,hl with
  |y1::y2::r,_=>exact⟨arr,e,h3⟩
def ahF(h:Sim P M.E fr g s a w)(hown:∀b o,¬fr.own b o){fm v al rs os}(hv:RetRel (ARel P M.E g s.ob w) v al)(hout:s.out fm al=some (rs,os)):pQ P M.E fr.st fr.w0 w v rs os:=by
 obtain⟨vs,hall,hback⟩:=To hv;obtain⟨hlr,gr,h1,h2,h3,h4,h5,h6,h7,h8⟩:=Tn h 0 hall hout;have hext:Ext fr.w0 w:=⟨h.ext.os,h.ext.tape,h.ext.output,h.ext.size,fun i hi=>h.ext.block i hi<|hown i⟩;refine⟨hext,gr,fun k hk=>by grind,fun b o x hb hx=>?_,fun b o x hx=>(h4 b o x hx).1,hback hlr h7,h8⟩;grind
end B
namespace B
open Go Go.RowKit
variable {U:Uni} {P:Program} {M:Mc U}
def jW:List Value→List (D U)→List Nat
 |v::vs,.box _::r=>(match v with| .pointer (some a)=>a.block|_=>0)::jW vs r
 |_::vs,_::r=>jW vs r
 |_,_=>[]
def ahG{E g ob w St}(hk:Keeps St w g.St w){v}{d:DC U}(h:DCRel P E St w v d):CRel P E g ob w v d.toC:=by
 cases d with
 |v x=>exact pP rfl<|VRel.mono h hk
 |fn φ=>exact FunRel.mono hk h
def DL{E g ob w St}(hk:Keeps St w g.St w):
 ∀{vs:List Value}{args:List (D U)}{k:Nat},All2 (DRel P E St w) vs args→(∀i b,(jW vs args)[i]?=some b→g.lb (k+i)∧g.β (k+i)=b)→All2 (AVRel P E g ob w) vs (Kv k args)
 |[],[],k,_,_=>trivial
 |v::vs,d::r,k,h,hb=>by
  cases d with
  |d x=>exact⟨DH rfl (D0Rel.mono hk h.1),DL hk h.2 (fun i b hi=>hb i b hi)⟩
  |fn φ=>exact⟨FunRel.mono hk h.1,DL hk h.2 (fun i b hi=>hb i b hi)⟩
  |box cs=>
   obtain⟨b,e,_⟩:=h.1;have h0:=hb 0 b (by simp[jW,e]);refine⟨⟨h0.1,by grind⟩,DL hk (k:=k+1) h.2 (fun i b hi=>?_)⟩;have:=hb (i+1) b (by simp_all[jW]);grind
def Tp{E w St}:∀{vs:List Value}{args:List (D U)},All2 (DRel P E St w) vs args→(jW vs args).length=(ff args).length∧∀(i:Nat) fz cells,(ff args)[i]?=some (some (fz,cells))→∃(b:Nat)(cs:List (DC U)),fz=true∧cells=cs.map DC.toC∧(jW vs args)[i]?=some b∧
 ∀(j:Nat) c,cs[j]?=some c→St b j∧∃u,w.cell? ⟨b,j,none⟩=some u∧DCRel P E St w u c
 |[],[],_=>⟨rfl,fun i fz cells h=>by grind[ff]⟩
 |v::vs,d::r,h=>by
  obtain⟨ih1,ih2⟩:=Tp h.2;cases d with
  |d x=>exact⟨ih1,ih2⟩
  |fn φ=>exact⟨ih1,ih2⟩
  |box cs=>
   obtain⟨b,e,hb⟩:=h.1;refine⟨by grind[jW,ff],fun i fz cells hi=>?_⟩;cases i with
   |zero=>
    obtain⟨rfl,rfl⟩:=hi;exact⟨b,cs,rfl,rfl,by simp[jW,e],hb⟩
   |succ i=>exact ih2 i fz cells<|by simp_all[ff]
open Classical in
def ahH{E:Enc U}{n x:Nat}{w:World}(hld:Laid w){St:Nat→Nat→Prop}{vs:List Value}{args:List (D U)}(hbd:∀b o,St b o→b<w.heap.size)(hvs:All2 (DRel P E St w) vs args):
 ∃g,Sim P E ⟨w,fun _ _=>False,St,0,fun _=>0⟩ g (bG n x args) {tmps:=vs.toArray++Array.replicate (n- vs.toArray.size) undef,defers:=[]} w:=by
 obtain⟨hbl,hbx⟩:=Tp hvs;let g:G:={β:=fun k=>(jW vs args).getD k 0,lb:=fun k=>k<(jW vs args).length,ω:=fun b o=>if St b o then some .st else none,tk:=fun _=>(none,0)};have hst:∀b o,St b o↔g.St b o:=fun b o=>by
  show St b o↔(if St b o then some Own.st else none)=some .st;simp
 have hk:Keeps St w g.St w:=fun b o h=>⟨(hst b o).1 h,rfl⟩;have hβ:∀i b,(jW vs args)[i]?=some b→g.lb (0+i)∧g.β (0+i)=b:=fun i b hi=>by
  grind
 have hlen:=hvs.length;refine⟨g,{ext:=⟨rfl,rfl,rfl,y7 _,fun _ _ _=>rfl,fun _ _ _ _=>rfl,fun _ _ _ _=>rfl,hld,hld.lt,fun _ _ _ h=>h⟩,tms:=?_,bxs:=?_,lbs:=?_,obs:=?_,own:=?_,dfr:=rfl,fix:=fun _ hk=>absurd hk<|cQ _,bas:=yc _}⟩
 ·have e:(vs.toArray++Array.replicate (n- vs.toArray.size) undef).toList=vs++List.replicate (n- vs.length) undef:=by simp
  rw[e,hlen];refine All2.append (DL hk hvs hβ) ?_;generalize n- args.length=m
  induction m with
  |zero=>trivial
  |succ m ih=>exact⟨trivial,ih⟩
 ·intro k fz cells hkk;have hkk':(ff args++List.replicate n (none:Option (Bool×List (C U))))[k]?=some (some (fz,cells)):=hkk;rcases yk k (ff args).length with hlt|hge
  ·rw[d7 hlt]at hkk';obtain⟨b,cs,rfl,rfl,hb,hc⟩:=hbx k fz cells hkk';obtain⟨hl,hβk⟩:=hβ k b hb;rw[iE]at hl hβk;refine⟨hl,(List.range cs.length).map fun i=>(w.cell? ⟨b,i,none⟩).getD undef,?_,fun i v hv=>?_⟩
   ·refine All2.of_get (by simp) fun i v c hv hcc=>?_;obtain⟨hi,rfl⟩:=Qg hv;rw[dn]at hcc;cases hci:cs[i]? with
    |none=>rw[hci]at hcc;simp at hcc
    |some c0=>
     rw[hci]at hcc;simp at hcc;subst hcc;obtain⟨_,u,hu,hur⟩:=hc i c0 hci;rw[hu];exact ahG hk hur
   ·obtain⟨hi,rfl⟩:=Qg hv;obtain⟨h1,u,hu,_⟩:=hc i _<|ya hi;grind
  grind
 ·intro k hl;have hl':k<(ff args).length:=by omega
  have:∀(l:List (D U))(k:Nat),k<(ff l).length→∃c,(ff l)[k]?=some (some c):=by
   intro l
   induction l with
   |nil=>simp[ff]
   |cons d r ih=>
    intro k h;cases d with
    |d x=>exact ih k h
    |fn φ=>exact ih k h
    |box cs=>
     cases k with
     |zero=>exact⟨_,rfl⟩
     |succ k=>simp_all[ff]
  obtain⟨c,hc⟩:=this args k hl';exact⟨c,by show(ff args++_)[k]?=_;grind⟩
 ·intro k o hko;have hko':(List.replicate (4*((ff args).length+n)+x) (none:Option (Ob U)))[k]?=some (some o):=hko;grind
 grind
inductive VWf(E:Enc U):V U→Prop
 |s (x:Value) (h:bH x=true):VWf E (.s x)
 |dat (τ:U.Ty) (xs:List (U.Den τ)) (hl:xs.length≤9223372036854775807) (h2:∀(i:Nat)(hi:i<xs.length)(j:Nat)(d:V U),(E.enc τ xs[i])[j]?=some d→VWf E d):VWf E (.dat τ xs)
theorem VRel.wf{E St w v}{d:V U}(h:VRel E St w v d):VWf E d:=by
 induction h with
 |s x h=>exact .s x h
 |nil τ a cap=>exact .dat τ [] (by simp) fun i hi=>absurd hi<|by simp
 |dat τ xs b o cap cv hcap h1 h2 ih=>exact .dat τ xs hcap.2 ih
def Tq(E:Enc U):D0 U→Prop
 | .v x=>VWf E x
 | .agg xs=>∀x∈xs,VWf E x
def ahI(E:Enc U):DC U→Prop
 | .v x=>VWf E x
 | .fn _=>True
def mo(E:Enc U):D U→Prop
 | .d x=>Tq E x
 | .fn _=>True
 | .box cs=>∀x∈cs,ahI E x
def All2.mem{α β R}{l:List α}{r}(h:All2 R l r)(b:β)(hb:b∈r):∃a,R a b:=by
 obtain⟨i,hi⟩:=j8 hb;obtain⟨a,_,ha⟩:=h.get i hi;grind
theorem D0Rel.wf{E St w v}{d:D0 U}(h:D0Rel E St w v d):Tq E d:=by
 cases d with
 |v x=>exact VRel.wf h
 |agg xs=>obtain⟨arr,_,h2⟩:=h;exact fun x hx=>(h2.mem x hx).elim fun _ hh=>hh.wf
theorem DRel.wf{E St w v}{d:D U}(h:DRel P E St w v d):mo E d:=by
 cases d with
 |d x=>exact D0Rel.wf h
 |fn φ=>trivial
 |box cs=>
  obtain⟨b,_,h2⟩:=h;intro x hx;obtain⟨i,hi⟩:=j8 hx;obtain⟨_,u,_,hu⟩:=h2 i x hi;cases x with
  |v y=>exact VRel.wf hu
  |fn φ=>trivial
def ahJ(hT:TabOK P M)(hF:FnsOK P M)(hm:P.follows .mixedOrders=true){f fn body}(hf:P.funcs[f]?=some fn)(hb:fn.body=some body) N x fm{args rs os}(h0:(∀a∈args,mo M.E a)→aB M N body (bG fn.ntmps x args) (aK M fn.results.toList fm fun rs' os'=>rs'=rs∧os'=os)):Contract P M.E f args rs os:=by
 intro w St vs hbd hvs hld;have h:=h0 fun a ha=>(hvs.mem a ha).elim fun _ hh=>hh.wf;obtain⟨g,hs⟩:=ahH (n:=fn.ntmps) (x:=x) hld hbd hvs;refine calls_of_wp hf hb ?_;refine pV hT hF hm N body (Q:=aK M fn.results.toList fm fun rs' os'=>rs'=rs∧os'=os) ?_ hs h;have fin:∀s g a w',ul M fn.results.toList fm (fun rs' os'=>rs'=rs∧os'=os) s→Sim P M.E ⟨w,fun _ _=>False,St,0,fun _=>0⟩ g s a w'→a.defers=[]∧∃v,(results fn a.tmps).run P w'=.ok v w'∧∃v',Ending.returned v=.returned v'∧pQ P M.E St w w' v' rs os:=by
  intro s g a w' hq hs';unfold ul at hq;split at hq
  ·rename_i al hal;split at hq
   ·rename_i rs' os' hout;obtain⟨rfl,rfl⟩:=hq;obtain⟨v,hv,hvr⟩:=Tj hT hs' hal;have:=ahF hs' (fun _ _ hh=>hh) hvr hout;exact⟨hs'.dfr,v,hv,v,rfl,this⟩
   grind
  grind
 intro e s g a w' hq hs';cases e with
 |normal=>exact fin s g a w' hq hs'
 |ret=>exact fin s g a w' hq hs'
 |_=>exact hq.elim
def Tr{E g ob w v}{d:D0 U}(h:ARel P E g ob w v d.toA):D0Rel E g.St w v d:=by
 have hc:∀{u:Value}{x:V U},CRel P E g ob w u (C.ofV x)→VRel E g.St w u x:=by
  intro u x hu;cases x with
  |s y=>obtain⟨rfl,h⟩:=hu;exact .s _ h
  |dat τ xs=>exact hu.1
 cases d with
 |v x=>exact hc h
 |agg xs=>
  obtain⟨arr,e,h2⟩:=h;refine⟨arr,e,?_⟩;generalize arr.toList=us at h2
  induction xs generalizing us with
  |nil=>cases us with|nil=>trivial|cons _ _=>exact h2.elim
  |cons x xs ih=>
   cases us with
   |nil=>exact h2.elim
   |cons u us=>exact⟨hc h2.1,ih us h2.2⟩
def Contract.data{E f args}{ds:List (D0 U)}{ob}(h:Contract P E f args (ds.map D0.toA) [])(hq:ob.length≠5:=by first|decide|simp):sI P E f args ob ds:=by
 intro w St vs hbd hvs hld;refine Calls.mono (h w St vs hbd hvs hld) ?_;rintro e w' ⟨v,rfl,hext,g,_,h2,h3,h4,_⟩;refine⟨v,rfl,⟨hext,g.St,fun b o hb hs=>(h2 b o _ hb hs).2,fun b o hs=>h3 b o _ hs,?_⟩,fun h=>absurd h hq⟩;have hall:∀{us:List Value}{ds:List (D0 U)},All2 (ARel P E g (([]:List (Ob U)).map some) w') us (ds.map D0.toA)→All2 (D0Rel E g.St w') us ds:=by
  intro us ds
  induction ds generalizing us with
  |nil=>intro hu;cases us with|nil=>trivial|cons _ _=>exact hu.elim
  |cons d ds ih=>
   intro hu;cases us with
   |nil=>exact hu.elim
   |cons u us=>exact⟨Tr hu.1,ih hu.2⟩
 match ds,h4 with
 |[],h4=>obtain⟨arr,e,hh⟩:=h4;exact⟨arr,e,hall (ds:=[]) hh⟩
 |[d],h4=>exact Tr h4
 |d::d'::r,h4=>obtain⟨arr,e,hh⟩:=h4;exact⟨arr,e,hall (ds:=d::d'::r) hh⟩
end B
namespace B
open Go
structure Val where
 kind:Int
 n:Int
 s:ByteArray
def z7:Val:=⟨0,0,⟨#[]⟩⟩
structure Col where
 table:ByteArray
 name:ByteArray
 type:Int
def mq:Col:=⟨⟨#[]⟩,⟨#[]⟩,0⟩
structure By where
 at_:Int
 down:Bool
def cD:By:=⟨0,false⟩
structure Bound where
 is:Bool
 open_:Bool
 key:List Val
def Bo:Bound:=⟨false,false,[]⟩
structure Often where
 v:Val
 n:Int
def ahK:Often:=⟨z7,0⟩
structure ColStat where
 nulls:Int
 distinct:Int
 ends:List Val
 common:List Often
def Ts:ColStat:=⟨0,0,[],[]⟩
structure Data where
 table:ByteArray
 rows:List (List Val)
def dx:Data:=⟨⟨#[]⟩,[]⟩
structure Acc where
 name:ByteArray
 distinct:Bool
 n:Int
 hi:Int
 lo:Int
 v:Val
 l:List Val
def ahL:Acc:=⟨⟨#[]⟩,false,0,0,0,z7,[]⟩
structure Stat where
 table:ByteArray
 rows:Int
 pages:Int
 cols:List ColStat
def ahM:Stat:=⟨⟨#[]⟩,0,0,[]⟩
structure Column where
 c:ColStat
 nulls:Int
 others:Int
 all:Int
def ahN:Column:=⟨Ts,0,0,0⟩
mutual
inductive Term
 |mk (op:Int) (v:Val) (depth:Int) (at_:Int) (name:ByteArray) (kids:List Term) (sub:List Rel) (type:Int)
inductive Agg
 |mk (name:ByteArray) (distinct:Bool) (t:List Term)
inductive Rel
 |mk (op:Int) (table:ByteArray) (cols:List Col) (kids:List Rel) (terms:List Term) (aggs:List Agg) (keys:List By) (limit:Int) (skip:Int) (all:Bool) (rows:List (List Val))
end
def Term.op:Term→Int| .mk x _ _ _ _ _ _ _=>x
@[simp] theorem Term.op_mk op v depth at_ name kids sub type:(Term.mk op v depth at_ name kids sub type).op=op:=rfl
def Term.v:Term→Val| .mk _ x _ _ _ _ _ _=>x
@[simp] theorem Term.v_mk op v depth at_ name kids sub type:(Term.mk op v depth at_ name kids sub type).v=v:=rfl
def Term.depth:Term→Int| .mk _ _ x _ _ _ _ _=>x
@[simp] theorem Term.depth_mk op v depth at_ name kids sub type:(Term.mk op v depth at_ name kids sub type).depth=depth:=rfl
def Term.at_:Term→Int| .mk _ _ _ x _ _ _ _=>x
@[simp] theorem Term.at__mk op v depth at_ name kids sub type:(Term.mk op v depth at_ name kids sub type).at_=at_:=rfl
def Term.name:Term→ByteArray| .mk _ _ _ _ x _ _ _=>x
@[simp] theorem Term.name_mk op v depth at_ name kids sub type:(Term.mk op v depth at_ name kids sub type).name=name:=rfl
def Term.kids:Term→List Term| .mk _ _ _ _ _ x _ _=>x
@[simp] theorem Term.kids_mk op v depth at_ name kids sub type:(Term.mk op v depth at_ name kids sub type).kids=kids:=rfl
def Term.sub:Term→List Rel| .mk _ _ _ _ _ _ x _=>x
@[simp] theorem Term.sub_mk op v depth at_ name kids sub type:(Term.mk op v depth at_ name kids sub type).sub=sub:=rfl
def Term.type:Term→Int| .mk _ _ _ _ _ _ _ x=>x
@[simp] theorem Term.type_mk op v depth at_ name kids sub type:(Term.mk op v depth at_ name kids sub type).type=type:=rfl
def zb:Term:=.mk 0 z7 0 0 ⟨#[]⟩ [] [] 0
def Agg.name:Agg→ByteArray| .mk x _ _=>x
@[simp] theorem Agg.name_mk name distinct t:(Agg.mk name distinct t).name=name:=rfl
def Agg.distinct:Agg→Bool| .mk _ x _=>x
@[simp] theorem Agg.distinct_mk name distinct t:(Agg.mk name distinct t).distinct=distinct:=rfl
def Agg.t:Agg→List Term| .mk _ _ x=>x
@[simp] theorem Agg.t_mk name distinct t:(Agg.mk name distinct t).t=t:=rfl
def zr:Agg:=.mk ⟨#[]⟩ false []
def Rel.op:Rel→Int| .mk x _ _ _ _ _ _ _ _ _ _=>x
@[simp] theorem Rel.op_mk op table cols kids terms aggs keys limit skip all rows:(Rel.mk op table cols kids terms aggs keys limit skip all rows).op=op:=rfl
def Rel.table:Rel→ByteArray| .mk _ x _ _ _ _ _ _ _ _ _=>x
@[simp] theorem Rel.table_mk op table cols kids terms aggs keys limit skip all rows:(Rel.mk op table cols kids terms aggs keys limit skip all rows).table=table:=rfl
def Rel.cols:Rel→List Col| .mk _ _ x _ _ _ _ _ _ _ _=>x
@[simp] theorem Rel.cols_mk op table cols kids terms aggs keys limit skip all rows:(Rel.mk op table cols kids terms aggs keys limit skip all rows).cols=cols:=rfl
def Rel.kids:Rel→List Rel| .mk _ _ _ x _ _ _ _ _ _ _=>x
@[simp] theorem Rel.kids_mk op table cols kids terms aggs keys limit skip all rows:(Rel.mk op table cols kids terms aggs keys limit skip all rows).kids=kids:=rfl
def Rel.terms:Rel→List Term| .mk _ _ _ _ x _ _ _ _ _ _=>x
@[simp] theorem Rel.terms_mk op table cols kids terms aggs keys limit skip all rows:(Rel.mk op table cols kids terms aggs keys limit skip all rows).terms=terms:=rfl
def Rel.aggs:Rel→List Agg| .mk _ _ _ _ _ x _ _ _ _ _=>x
@[simp] theorem Rel.aggs_mk op table cols kids terms aggs keys limit skip all rows:(Rel.mk op table cols kids terms aggs keys limit skip all rows).aggs=aggs:=rfl
def Rel.keys:Rel→List By| .mk _ _ _ _ _ _ x _ _ _ _=>x
@[simp] theorem Rel.keys_mk op table cols kids terms aggs keys limit skip all rows:(Rel.mk op table cols kids terms aggs keys limit skip all rows).keys=keys:=rfl
def Rel.limit:Rel→Int| .mk _ _ _ _ _ _ _ x _ _ _=>x
@[simp] theorem Rel.limit_mk op table cols kids terms aggs keys limit skip all rows:(Rel.mk op table cols kids terms aggs keys limit skip all rows).limit=limit:=rfl
def Rel.skip:Rel→Int| .mk _ _ _ _ _ _ _ _ x _ _=>x
@[simp] theorem Rel.skip_mk op table cols kids terms aggs keys limit skip all rows:(Rel.mk op table cols kids terms aggs keys limit skip all rows).skip=skip:=rfl
def Rel.all:Rel→Bool| .mk _ _ _ _ _ _ _ _ _ x _=>x
@[simp] theorem Rel.all_mk op table cols kids terms aggs keys limit skip all rows:(Rel.mk op table cols kids terms aggs keys limit skip all rows).all=all:=rfl
def Rel.rows:Rel→List (List Val)| .mk _ _ _ _ _ _ _ _ _ _ x=>x
@[simp] theorem Rel.rows_mk op table cols kids terms aggs keys limit skip all rows:(Rel.mk op table cols kids terms aggs keys limit skip all rows).rows=rows:=rfl
def za:Rel:=.mk 0 ⟨#[]⟩ [] [] [] [] [] 0 0 false []
mutual
inductive Plan
 |mk (op:Int) (table:ByteArray) (index:ByteArray) (cols:List Col) (kids:List Plan) (terms:List Term) (lkeys:List Term) (rkeys:List Term) (aggs:List Agg) (keys:List By) (out:List Int) (lo:Bound) (hi:Bound) (limit:Int) (skip:Int) (all:Bool) (rows:List (List Val)) (est:Int) (cost:Int)
end
def Plan.op:Plan→Int| .mk x _ _ _ _ _ _ _ _ _ _ _ _ _ _ _ _ _ _=>x
@[simp] theorem Plan.op_mk op table index cols kids terms lkeys rkeys aggs keys out lo hi limit skip all rows est cost:(Plan.mk op table index cols kids terms lkeys rkeys aggs keys out lo hi limit skip all rows est cost).op=op:=rfl
def Plan.table:Plan→ByteArray| .mk _ x _ _ _ _ _ _ _ _ _ _ _ _ _ _ _ _ _=>x
@[simp] theorem Plan.table_mk op table index cols kids terms lkeys rkeys aggs keys out lo hi limit skip all rows est cost:(Plan.mk op table index cols kids terms lkeys rkeys aggs keys out lo hi limit skip all rows est cost).table=table:=rfl
def Plan.index:Plan→ByteArray| .mk _ _ x _ _ _ _ _ _ _ _ _ _ _ _ _ _ _ _=>x
@[simp] theorem Plan.index_mk op table index cols kids terms lkeys rkeys aggs keys out lo hi limit skip all rows est cost:(Plan.mk op table index cols kids terms lkeys rkeys aggs keys out lo hi limit skip all rows est cost).index=index:=rfl
def Plan.cols:Plan→List Col| .mk _ _ _ x _ _ _ _ _ _ _ _ _ _ _ _ _ _ _=>x
@[simp] theorem Plan.cols_mk op table index cols kids terms lkeys rkeys aggs keys out lo hi limit skip all rows est cost:(Plan.mk op table index cols kids terms lkeys rkeys aggs keys out lo hi limit skip all rows est cost).cols=cols:=rfl
def Plan.kids:Plan→List Plan| .mk _ _ _ _ x _ _ _ _ _ _ _ _ _ _ _ _ _ _=>x
@[simp] theorem Plan.kids_mk op table index cols kids terms lkeys rkeys aggs keys out lo hi limit skip all rows est cost:(Plan.mk op table index cols kids terms lkeys rkeys aggs keys out lo hi limit skip all rows est cost).kids=kids:=rfl
def Plan.terms:Plan→List Term| .mk _ _ _ _ _ x _ _ _ _ _ _ _ _ _ _ _ _ _=>x
@[simp] theorem Plan.terms_mk op table index cols kids terms lkeys rkeys aggs keys out lo hi limit skip all rows est cost:(Plan.mk op table index cols kids terms lkeys rkeys aggs keys out lo hi limit skip all rows est cost).terms=terms:=rfl
def Plan.lkeys:Plan→List Term| .mk _ _ _ _ _ _ x _ _ _ _ _ _ _ _ _ _ _ _=>x
@[simp] theorem Plan.lkeys_mk op table index cols kids terms lkeys rkeys aggs keys out lo hi limit skip all rows est cost:(Plan.mk op table index cols kids terms lkeys rkeys aggs keys out lo hi limit skip all rows est cost).lkeys=lkeys:=rfl
def Plan.rkeys:Plan→List Term| .mk _ _ _ _ _ _ _ x _ _ _ _ _ _ _ _ _ _ _=>x
@[simp] theorem Plan.rkeys_mk op table index cols kids terms lkeys rkeys aggs keys out lo hi limit skip all rows est cost:(Plan.mk op table index cols kids terms lkeys rkeys aggs keys out lo hi limit skip all rows est cost).rkeys=rkeys:=rfl
def Plan.aggs:Plan→List Agg| .mk _ _ _ _ _ _ _ _ x _ _ _ _ _ _ _ _ _ _=>x
@[simp] theorem Plan.aggs_mk op table index cols kids terms lkeys rkeys aggs keys out lo hi limit skip all rows est cost:(Plan.mk op table index cols kids terms lkeys rkeys aggs keys out lo hi limit skip all rows est cost).aggs=aggs:=rfl
def Plan.keys:Plan→List By| .mk _ _ _ _ _ _ _ _ _ x _ _ _ _ _ _ _ _ _=>x
@[simp] theorem Plan.keys_mk op table index cols kids terms lkeys rkeys aggs keys out lo hi limit skip all rows est cost:(Plan.mk op table index cols kids terms lkeys rkeys aggs keys out lo hi limit skip all rows est cost).keys=keys:=rfl
def Plan.out:Plan→List Int| .mk _ _ _ _ _ _ _ _ _ _ x _ _ _ _ _ _ _ _=>x
@[simp] theorem Plan.out_mk op table index cols kids terms lkeys rkeys aggs keys out lo hi limit skip all rows est cost:(Plan.mk op table index cols kids terms lkeys rkeys aggs keys out lo hi limit skip all rows est cost).out=out:=rfl
def Plan.lo:Plan→Bound| .mk _ _ _ _ _ _ _ _ _ _ _ x _ _ _ _ _ _ _=>x
@[simp] theorem Plan.lo_mk op table index cols kids terms lkeys rkeys aggs keys out lo hi limit skip all rows est cost:(Plan.mk op table index cols kids terms lkeys rkeys aggs keys out lo hi limit skip all rows est cost).lo=lo:=rfl
def Plan.hi:Plan→Bound| .mk _ _ _ _ _ _ _ _ _ _ _ _ x _ _ _ _ _ _=>x
@[simp] theorem Plan.hi_mk op table index cols kids terms lkeys rkeys aggs keys out lo hi limit skip all rows est cost:(Plan.mk op table index cols kids terms lkeys rkeys aggs keys out lo hi limit skip all rows est cost).hi=hi:=rfl
def Plan.limit:Plan→Int| .mk _ _ _ _ _ _ _ _ _ _ _ _ _ x _ _ _ _ _=>x
@[simp] theorem Plan.limit_mk op table index cols kids terms lkeys rkeys aggs keys out lo hi limit skip all rows est cost:(Plan.mk op table index cols kids terms lkeys rkeys aggs keys out lo hi limit skip all rows est cost).limit=limit:=rfl
def Plan.skip:Plan→Int| .mk _ _ _ _ _ _ _ _ _ _ _ _ _ _ x _ _ _ _=>x
@[simp] theorem Plan.skip_mk op table index cols kids terms lkeys rkeys aggs keys out lo hi limit skip all rows est cost:(Plan.mk op table index cols kids terms lkeys rkeys aggs keys out lo hi limit skip all rows est cost).skip=skip:=rfl
def Plan.all:Plan→Bool| .mk _ _ _ _ _ _ _ _ _ _ _ _ _ _ _ x _ _ _=>x
@[simp] theorem Plan.all_mk op table index cols kids terms lkeys rkeys aggs keys out lo hi limit skip all rows est cost:(Plan.mk op table index cols kids terms lkeys rkeys aggs keys out lo hi limit skip all rows est cost).all=all:=rfl
def Plan.rows:Plan→List (List Val)| .mk _ _ _ _ _ _ _ _ _ _ _ _ _ _ _ _ x _ _=>x
@[simp] theorem Plan.rows_mk op table index cols kids terms lkeys rkeys aggs keys out lo hi limit skip all rows est cost:(Plan.mk op table index cols kids terms lkeys rkeys aggs keys out lo hi limit skip all rows est cost).rows=rows:=rfl
def Plan.est:Plan→Int| .mk _ _ _ _ _ _ _ _ _ _ _ _ _ _ _ _ _ x _=>x
@[simp] theorem Plan.est_mk op table index cols kids terms lkeys rkeys aggs keys out lo hi limit skip all rows est cost:(Plan.mk op table index cols kids terms lkeys rkeys aggs keys out lo hi limit skip all rows est cost).est=est:=rfl
def Plan.cost:Plan→Int| .mk _ _ _ _ _ _ _ _ _ _ _ _ _ _ _ _ _ _ x=>x
@[simp] theorem Plan.cost_mk op table index cols kids terms lkeys rkeys aggs keys out lo hi limit skip all rows est cost:(Plan.mk op table index cols kids terms lkeys rkeys aggs keys out lo hi limit skip all rows est cost).cost=cost:=rfl
def ahO:Plan:=.mk 0 ⟨#[]⟩ ⟨#[]⟩ [] [] [] [] [] [] [] [] Bo Bo 0 0 false [] 0 0
structure Sign where
 kind:Int
 b:Int
def bz:Sign:=⟨0,0⟩
structure Bunch where
 key:List Val
 rows:List (List Val)
def zu:Bunch:=⟨[],[]⟩
structure Wld where
 env:List (List Val)
 db:List Data
def ahP:Wld:=⟨[],[]⟩
structure Span where
 front:List Val
 lo:Bound
 hi:Bound
 n:Int
 counts:List Term
def ahQ:Span:=⟨[],Bo,Bo,0,[]⟩
inductive Ty
 |int|str|row|ints|pair|u8|bol|trms|colss|rowss|val|col|by_|bound|often|colStat|data|acc|stat|column|term|agg|rel|plan|sign|bunch|wld|span
 deriving DecidableEq
@[reducible] def Den:Ty→Type
 | .int=>Int
 | .str=>ByteArray
 | .row=>List Val
 | .ints=>List Int
 | .pair=>Int×Int
 | .u8=>Int
 | .bol=>Bool
 | .trms=>List Term
 | .colss=>List Col
 | .rowss=>List<|List Val
 | .val=>Val
 | .col=>Col
 | .by_=>By
 | .bound=>Bound
 | .often=>Often
 | .colStat=>ColStat
 | .data=>Data
 | .acc=>Acc
 | .stat=>Stat
 | .column=>Column
 | .term=>Term
 | .agg=>Agg
 | .rel=>Rel
 | .plan=>Plan
 | .sign=>Sign
 | .bunch=>Bunch
 | .wld=>Wld
 | .span=>Span
def dflt:(τ:Ty)→Den τ
 | .int=>(0:Int)
 | .str=>(⟨#[]⟩:ByteArray)
 | .row=>([]:List Val)
 | .ints=>([]:List Int)
 | .pair=>((0,0):Int×Int)
 | .u8=>(0:Int)
 | .bol=>(false:Bool)
 | .trms=>([]:List Term)
 | .colss=>([]:List Col)
 | .rowss=>([]:List (List Val))
 | .val=>(z7:Val)
 | .col=>(mq:Col)
 | .by_=>(cD:By)
 | .bound=>(Bo:Bound)
 | .often=>(ahK:Often)
 | .colStat=>(Ts:ColStat)
 | .data=>(dx:Data)
 | .acc=>(ahL:Acc)
 | .stat=>(ahM:Stat)
 | .column=>(ahN:Column)
 | .term=>(zb:Term)
 | .agg=>(zr:Agg)
 | .rel=>(za:Rel)
 | .plan=>(ahO:Plan)
 | .sign=>(bz:Sign)
 | .bunch=>(zu:Bunch)
 | .wld=>(ahP:Wld)
 | .span=>(ahQ:Span)
def sz:Ty→Nat
 | .int=>1
 | .str=>1
 | .row=>1
 | .ints=>1
 | .pair=>2
 | .u8=>1
 | .bol=>1
 | .trms=>1
 | .colss=>1
 | .rowss=>1
 | .val=>3
 | .col=>3
 | .by_=>2
 | .bound=>3
 | .often=>4
 | .colStat=>4
 | .data=>2
 | .acc=>9
 | .stat=>4
 | .column=>7
 | .term=>10
 | .agg=>3
 | .rel=>11
 | .plan=>23
 | .sign=>2
 | .bunch=>2
 | .wld=>2
 | .span=>9
@[reducible] def Un:Uni:=⟨Ty,inferInstance,Den,dflt,sz⟩
def ci(n:Int):V Un:=.s<|.int .i64 n
def pW(n:Int):V Un:=.s<|.int .u8 n
def cb(b:Bool):V Un:=.s<|.bool b
def cs(s:ByteArray):V Un:=.s<|.string s
def enc:(τ:Ty)→Den τ→List (V Un)
 | .int,(x:Int)=>[ci x]
 | .str,(x:ByteArray)=>[cs x]
 | .row,(x:List Val)=>[.dat (U:=Un) Ty.val x]
 | .ints,(x:List Int)=>[.dat (U:=Un) Ty.int x]
 | .pair,(x:Int×Int)=>[ci x.1,ci x.2]
 | .u8,(x:Int)=>[pW x]
 | .bol,(x:Bool)=>[cb x]
 | .trms,(x:List Term)=>[.dat (U:=Un) Ty.term x]
 | .colss,(x:List Col)=>[.dat (U:=Un) Ty.col x]
 | .rowss,(x:List (List Val))=>[.dat (U:=Un) Ty.row x]
 | .val,(x:Val)=>[ci x.kind,ci x.n,cs x.s]
 | .col,(x:Col)=>[cs x.table,cs x.name,ci x.type]
 | .by_,(x:By)=>[ci x.at_,cb x.down]
 | .bound,(x:Bound)=>[cb x.is,cb x.open_,.dat (U:=Un) Ty.val x.key]
 | .often,(x:Often)=>[ci x.v.kind,ci x.v.n,cs x.v.s,ci x.n]
 | .colStat,(x:ColStat)=>[ci x.nulls,ci x.distinct,.dat (U:=Un) Ty.val x.ends,.dat (U:=Un) Ty.often x.common]
 | .data,(x:Data)=>[cs x.table,.dat (U:=Un) Ty.row x.rows]
 | .acc,(x:Acc)=>[cs x.name,cb x.distinct,ci x.n,ci x.hi,ci x.lo,ci x.v.kind,ci x.v.n,cs x.v.s,.dat (U:=Un) Ty.val x.l]
 | .stat,(x:Stat)=>[cs x.table,ci x.rows,ci x.pages,.dat (U:=Un) Ty.colStat x.cols]
 | .column,(x:Column)=>[ci x.c.nulls,ci x.c.distinct,.dat (U:=Un) Ty.val x.c.ends,.dat (U:=Un) Ty.often x.c.common,ci x.nulls,ci x.others,ci x.all]
 | .term,(x:Term)=>[ci x.op,ci x.v.kind,ci x.v.n,cs x.v.s,ci x.depth,ci x.at_,cs x.name,.dat (U:=Un) Ty.term x.kids,.dat (U:=Un) Ty.rel x.sub,ci x.type]
 | .agg,(x:Agg)=>[cs x.name,cb x.distinct,.dat (U:=Un) Ty.term x.t]
 | .rel,(x:Rel)=>[ci x.op,cs x.table,.dat (U:=Un) Ty.col x.cols,.dat (U:=Un) Ty.rel x.kids,.dat (U:=Un) Ty.term x.terms,.dat (U:=Un) Ty.agg x.aggs,.dat (U:=Un) Ty.by_ x.keys,ci x.limit,ci x.skip,cb x.all,.dat (U:=Un) Ty.row x.rows]
 | .plan,(x:Plan)=>[ci x.op,cs x.table,cs x.index,.dat (U:=Un) Ty.col x.cols,.dat (U:=Un) Ty.plan x.kids,.dat (U:=Un) Ty.term x.terms,.dat (U:=Un) Ty.term x.lkeys,.dat (U:=Un) Ty.term x.rkeys,.dat (U:=Un) Ty.agg x.aggs,.dat (U:=Un) Ty.by_ x.keys,.dat (U:=Un) Ty.int x.out,cb x.lo.is,cb x.lo.open_,.dat (U:=Un) Ty.val x.lo.key,cb x.hi.is,cb x.hi.open_,.dat (U:=Un) Ty.val x.hi.key,ci x.limit,ci x.skip,cb x.all,.dat (U:=Un) Ty.row x.rows,ci x.est,ci x.cost]
 | .sign,(x:Sign)=>[ci x.kind,pW x.b]
 | .bunch,(x:Bunch)=>[.dat (U:=Un) Ty.val x.key,.dat (U:=Un) Ty.row x.rows]
 | .wld,(x:Wld)=>[.dat (U:=Un) Ty.row x.env,.dat (U:=Un) Ty.data x.db]
 | .span,(x:Span)=>[.dat (U:=Un) Ty.val x.front,cb x.lo.is,cb x.lo.open_,.dat (U:=Un) Ty.val x.lo.key,cb x.hi.is,cb x.hi.open_,.dat (U:=Un) Ty.val x.hi.key,ci x.n,.dat (U:=Un) Ty.term x.counts]
def bM:V Un→Option Int| .s (.int .i64 n)=>some n|_=>none
def GC:V Un→Option Int| .s (.int .u8 n)=>some n|_=>none
def fE:V Un→Option Bool| .s (.bool b)=>some b|_=>none
def fO:V Un→Option ByteArray| .s (.string s)=>some s|_=>none
def bE(τ:Ty):V Un→Option (List<|Den τ)
 | .dat τ' xs=>match instDecidableEqTy τ' τ with| .isTrue h=>some (h▸xs)| .isFalse _=>none
 |_=>none
def bY{c n}(h:bM c=some n):c=ci n:=by unfold bM at h;split at h<;>simp at h;subst h;rfl
def Tt{c n}(h:GC c=some n):c=pW n:=by unfold GC at h;split at h<;>simp at h;subst h;rfl
def gc{c n}(h:fE c=some n):c=cb n:=by unfold fE at h;split at h<;>simp at h;subst h;rfl
def gO{c n}(h:fO c=some n):c=cs n:=by unfold fO at h;split at h<;>simp at h;subst h;rfl
def bU{τ c n}(h:bE τ c=some n):c=.dat (U:=Un) τ n:=by
 cases c with
 |s x=>grind[bE]
 |dat τ' xs=>
  simp only[bE]at h;split at h
  all_goals grind
def Lg:List (V Un)→Option Int
 |[c0]=>(bM c0).bind fun a0=>some a0
 |_=>none
def ahR{l x}(h:Lg l=some x):enc .int x=l:=by
 unfold Lg at h;split at h
 ·simp only[y6,y8]at h;obtain⟨a0,h0,rfl⟩:=h;rw[bY h0];rfl
 grind
def Lh:List (V Un)→Option ByteArray
 |[c0]=>(fO c0).bind fun a0=>some a0
 |_=>none
def ahS{l x}(h:Lh l=some x):enc .str x=l:=by
 unfold Lh at h;split at h
 ·simp only[y6,y8]at h;obtain⟨a0,h0,rfl⟩:=h;rw[gO h0];rfl
 grind
def Li:List (V Un)→Option (List Val)
 |[c0]=>(bE .val c0).bind fun a0=>some a0
 |_=>none
def ahT{l x}(h:Li l=some x):enc .row x=l:=by
 unfold Li at h;split at h
 ·simp only[y6,y8]at h;obtain⟨a0,h0,rfl⟩:=h;rw[bU h0];rfl
 grind
def Lj:List (V Un)→Option (List Int)
 |[c0]=>(bE .int c0).bind fun a0=>some a0
 |_=>none
def ahU{l x}(h:Lj l=some x):enc .ints x=l:=by
 unfold Lj at h;split at h
 ·simp only[y6,y8]at h;obtain⟨a0,h0,rfl⟩:=h;rw[bU h0];rfl
 grind
def Lk:List (V Un)→Option (Int×Int)
 |[c0,c1]=>(bM c0).bind fun a0=>(bM c1).bind fun a1=>some (a0,a1)
 |_=>none
def ahV{l x}(h:Lk l=some x):enc .pair x=l:=by
 unfold Lk at h;split at h
 ·simp only[y6,y8]at h;obtain⟨a0,h0,a1,h1,rfl⟩:=h;rw[bY h0,bY h1];rfl
 grind
def Ll:List (V Un)→Option Int
 |[c0]=>(GC c0).bind fun a0=>some a0
 |_=>none
def ahW{l x}(h:Ll l=some x):enc .u8 x=l:=by
 unfold Ll at h;split at h
 ·simp only[y6,y8]at h;obtain⟨a0,h0,rfl⟩:=h;rw[Tt h0];rfl
 grind
def Lm:List (V Un)→Option Bool
 |[c0]=>(fE c0).bind fun a0=>some a0
 |_=>none
def ahX{l x}(h:Lm l=some x):enc .bol x=l:=by
 unfold Lm at h;split at h
 ·simp only[y6,y8]at h;obtain⟨a0,h0,rfl⟩:=h;rw[gc h0];rfl
 grind
def Ln:List (V Un)→Option (List Term)
 |[c0]=>(bE .term c0).bind fun a0=>some a0
 |_=>none
def ahY{l x}(h:Ln l=some x):enc .trms x=l:=by
 unfold Ln at h;split at h
 ·simp only[y6,y8]at h;obtain⟨a0,h0,rfl⟩:=h;rw[bU h0];rfl
 grind
def Lo:List (V Un)→Option (List Col)
 |[c0]=>(bE .col c0).bind fun a0=>some a0
 |_=>none
def ahZ{l x}(h:Lo l=some x):enc .colss x=l:=by
 unfold Lo at h;split at h
 ·simp only[y6,y8]at h;obtain⟨a0,h0,rfl⟩:=h;rw[bU h0];rfl
 grind
def Lp:List (V Un)→Option (List<|List Val)
 |[c0]=>(bE .row c0).bind fun a0=>some a0
 |_=>none
def ah0{l x}(h:Lp l=some x):enc .rowss x=l:=by
 unfold Lp at h;split at h
 ·simp only[y6,y8]at h;obtain⟨a0,h0,rfl⟩:=h;rw[bU h0];rfl
 grind
def Lq:List (V Un)→Option Val
 |[c0,c1,c2]=>(bM c0).bind fun a0=>(bM c1).bind fun a1=>(fO c2).bind fun a2=>some<|Val.mk a0 a1 a2
 |_=>none
def ah1{l x}(h:Lq l=some x):enc .val x=l:=by
 unfold Lq at h;split at h
 ·simp only[y6,y8]at h;obtain⟨a0,h0,a1,h1,a2,h2,rfl⟩:=h;rw[bY h0,bY h1,gO h2];rfl
 grind
def Lr:List (V Un)→Option Col
 |[c0,c1,c2]=>(fO c0).bind fun a0=>(fO c1).bind fun a1=>(bM c2).bind fun a2=>some<|Col.mk a0 a1 a2
 |_=>none
def ah2{l x}(h:Lr l=some x):enc .col x=l:=by
 unfold Lr at h;split at h
 ·simp only[y6,y8]at h;obtain⟨a0,h0,a1,h1,a2,h2,rfl⟩:=h;rw[gO h0,gO h1,bY h2];rfl
 grind
def Ls:List (V Un)→Option By
 |[c0,c1]=>(bM c0).bind fun a0=>(fE c1).bind fun a1=>some<|By.mk a0 a1
 |_=>none
def ah3{l x}(h:Ls l=some x):enc .by_ x=l:=by
 unfold Ls at h;split at h
 ·simp only[y6,y8]at h;obtain⟨a0,h0,a1,h1,rfl⟩:=h;rw[bY h0,gc h1];rfl
 grind
def Lt:List (V Un)→Option Bound
 |[c0,c1,c2]=>(fE c0).bind fun a0=>(fE c1).bind fun a1=>(bE .val c2).bind fun a2=>some<|Bound.mk a0 a1 a2
 |_=>none
def ah4{l x}(h:Lt l=some x):enc .bound x=l:=by
 unfold Lt at h;split at h
 ·simp only[y6,y8]at h;obtain⟨a0,h0,a1,h1,a2,h2,rfl⟩:=h;rw[gc h0,gc h1,bU h2];rfl
 grind
def Lu:List (V Un)→Option Often
 |[c0,c1,c2,c3]=>(bM c0).bind fun a0=>(bM c1).bind fun a1=>(fO c2).bind fun a2=>(bM c3).bind fun a3=>some<|Often.mk (Val.mk a0 a1 a2) a3
 |_=>none
def ah5{l x}(h:Lu l=some x):enc .often x=l:=by
 unfold Lu at h;split at h
 ·simp only[y6,y8]at h;obtain⟨a0,h0,a1,h1,a2,h2,a3,h3,rfl⟩:=h;rw[bY h0,bY h1,gO h2,bY h3];rfl
 grind
def Lv:List (V Un)→Option ColStat
 |[c0,c1,c2,c3]=>(bM c0).bind fun a0=>(bM c1).bind fun a1=>(bE .val c2).bind fun a2=>(bE .often c3).bind fun a3=>some<|ColStat.mk a0 a1 a2 a3
 |_=>none
def ah6{l x}(h:Lv l=some x):enc .colStat x=l:=by
 unfold Lv at h;split at h
 ·simp only[y6,y8]at h;obtain⟨a0,h0,a1,h1,a2,h2,a3,h3,rfl⟩:=h;rw[bY h0,bY h1,bU h2,bU h3];rfl
 grind
def Lw:List (V Un)→Option Data
 |[c0,c1]=>(fO c0).bind fun a0=>(bE .row c1).bind fun a1=>some<|Data.mk a0 a1
 |_=>none
def ah7{l x}(h:Lw l=some x):enc .data x=l:=by
 unfold Lw at h;split at h
 ·simp only[y6,y8]at h;obtain⟨a0,h0,a1,h1,rfl⟩:=h;rw[gO h0,bU h1];rfl
 grind
def Lx:List (V Un)→Option Acc
 |[c0,c1,c2,c3,c4,c5,c6,c7,c8]=>(fO c0).bind fun a0=>(fE c1).bind fun a1=>(bM c2).bind fun a2=>(bM c3).bind fun a3=>(bM c4).bind fun a4=>(bM c5).bind fun a5=>(bM c6).bind fun a6=>(fO c7).bind fun a7=>(bE .val c8).bind fun a8=>some<|Acc.mk a0 a1 a2 a3 a4 (Val.mk a5 a6 a7) a8
 |_=>none
def ah8{l x}(h:Lx l=some x):enc .acc x=l:=by
 unfold Lx at h;split at h
 ·simp only[y6,y8]at h;obtain⟨a0,h0,a1,h1,a2,h2,a3,h3,a4,h4,a5,h5,a6,h6,a7,h7,a8,h8,rfl⟩:=h;rw[gO h0,gc h1,bY h2,bY h3,bY h4,bY h5,bY h6,gO h7,bU h8];rfl
 grind
def Ly:List (V Un)→Option Stat
 |[c0,c1,c2,c3]=>(fO c0).bind fun a0=>(bM c1).bind fun a1=>(bM c2).bind fun a2=>(bE .colStat c3).bind fun a3=>some<|Stat.mk a0 a1 a2 a3
 |_=>none
def ah9{l x}(h:Ly l=some x):enc .stat x=l:=by
 unfold Ly at h;split at h
 ·simp only[y6,y8]at h;obtain⟨a0,h0,a1,h1,a2,h2,a3,h3,rfl⟩:=h;rw[gO h0,bY h1,bY h2,bU h3];rfl
 grind
def Lz:List (V Un)→Option Column
 |[c0,c1,c2,c3,c4,c5,c6]=>(bM c0).bind fun a0=>(bM c1).bind fun a1=>(bE .val c2).bind fun a2=>(bE .often c3).bind fun a3=>(bM c4).bind fun a4=>(bM c5).bind fun a5=>(bM c6).bind fun a6=>some<|Column.mk (ColStat.mk a0 a1 a2 a3) a4 a5 a6
 |_=>none
def aia{l x}(h:Lz l=some x):enc .column x=l:=by
 unfold Lz at h;split at h
 ·simp only[y6,y8]at h;obtain⟨a0,h0,a1,h1,a2,h2,a3,h3,a4,h4,a5,h5,a6,h6,rfl⟩:=h;rw[bY h0,bY h1,bU h2,bU h3,bY h4,bY h5,bY h6];rfl
 grind
def LA:List (V Un)→Option Term
 |[c0,c1,c2,c3,c4,c5,c6,c7,c8,c9]=>(bM c0).bind fun a0=>(bM c1).bind fun a1=>(bM c2).bind fun a2=>(fO c3).bind fun a3=>(bM c4).bind fun a4=>(bM c5).bind fun a5=>(fO c6).bind fun a6=>(bE .term c7).bind fun a7=>(bE .rel c8).bind fun a8=>(bM c9).bind fun a9=>some<|Term.mk a0 (Val.mk a1 a2 a3) a4 a5 a6 a7 a8 a9
 |_=>none
def aib{l x}(h:LA l=some x):enc .term x=l:=by
 unfold LA at h;split at h
 ·simp only[y6,y8]at h;obtain⟨a0,h0,a1,h1,a2,h2,a3,h3,a4,h4,a5,h5,a6,h6,a7,h7,a8,h8,a9,h9,rfl⟩:=h;rw[bY h0,bY h1,bY h2,gO h3,bY h4,bY h5,gO h6,bU h7,bU h8,bY h9];rfl
 grind
def LC:List (V Un)→Option Agg
 |[c0,c1,c2]=>(fO c0).bind fun a0=>(fE c1).bind fun a1=>(bE .term c2).bind fun a2=>some<|Agg.mk a0 a1 a2
 |_=>none
def aic{l x}(h:LC l=some x):enc .agg x=l:=by
 unfold LC at h;split at h
 ·simp only[y6,y8]at h;obtain⟨a0,h0,a1,h1,a2,h2,rfl⟩:=h;rw[gO h0,gc h1,bU h2];rfl
 grind
def LD:List (V Un)→Option Rel
 |[c0,c1,c2,c3,c4,c5,c6,c7,c8,c9,c10]=>(bM c0).bind fun a0=>(fO c1).bind fun a1=>(bE .col c2).bind fun a2=>(bE .rel c3).bind fun a3=>(bE .term c4).bind fun a4=>(bE .agg c5).bind fun a5=>(bE .by_ c6).bind fun a6=>(bM c7).bind fun a7=>(bM c8).bind fun a8=>(fE c9).bind fun a9=>(bE .row c10).bind fun a10=>some<|Rel.mk a0 a1 a2 a3 a4 a5 a6 a7 a8 a9 a10
 |_=>none
def aid{l x}(h:LD l=some x):enc .rel x=l:=by
 unfold LD at h;split at h
 ·simp only[y6,y8]at h;obtain⟨a0,h0,a1,h1,a2,h2,a3,h3,a4,h4,a5,h5,a6,h6,a7,h7,a8,h8,a9,h9,a10,h10,rfl⟩:=h;rw[bY h0,gO h1,bU h2,bU h3,bU h4,bU h5,bU h6,bY h7,bY h8,gc h9,bU h10];rfl
 grind
def LE:List (V Un)→Option Plan
 |[c0,c1,c2,c3,c4,c5,c6,c7,c8,c9,c10,c11,c12,c13,c14,c15,c16,c17,c18,c19,c20,c21,c22]=>(bM c0).bind fun a0=>(fO c1).bind fun a1=>(fO c2).bind fun a2=>(bE .col c3).bind fun a3=>(bE .plan c4).bind fun a4=>(bE .term c5).bind fun a5=>(bE .term c6).bind fun a6=>(bE .term c7).bind fun a7=>(bE .agg c8).bind fun a8=>(bE .by_ c9).bind fun a9=>(bE .int c10).bind fun a10=>(fE c11).bind fun a11=>(fE c12).bind fun a12=>(bE .val c13).bind fun a13=>(fE c14).bind fun a14=>(fE c15).bind fun a15=>(bE .val c16).bind fun a16=>(bM c17).bind fun a17=>(bM c18).bind fun a18=>(fE c19).bind fun a19=>(bE .row c20).bind fun a20=>(bM c21).bind fun a21=>(bM c22).bind fun a22=>some<|Plan.mk a0 a1 a2 a3 a4 a5 a6 a7 a8 a9 a10 (Bound.mk a11 a12 a13) (Bound.mk a14 a15 a16) a17 a18 a19 a20 a21 a22
 |_=>none
def aie{l x}(h:LE l=some x):enc .plan x=l:=by
 unfold LE at h;split at h
 ·simp only[y6,y8]at h;obtain⟨a0,h0,a1,h1,a2,h2,a3,h3,a4,h4,a5,h5,a6,h6,a7,h7,a8,h8,a9,h9,a10,h10,a11,h11,a12,h12,a13,h13,a14,h14,a15,h15,a16,h16,a17,h17,a18,h18,a19,h19,a20,h20,a21,h21,a22,h22,rfl⟩:=h;rw[bY h0,gO h1,gO h2,bU h3,bU h4,bU h5,bU h6,bU h7,bU h8,bU h9,bU h10,gc h11,gc h12,bU h13,gc h14,gc h15,bU h16,bY h17,bY h18,gc h19,bU h20,bY h21,bY h22];rfl
 grind
def LF:List (V Un)→Option Sign
 |[c0,c1]=>(bM c0).bind fun a0=>(GC c1).bind fun a1=>some<|Sign.mk a0 a1
 |_=>none
def aif{l x}(h:LF l=some x):enc .sign x=l:=by
 unfold LF at h;split at h
 ·simp only[y6,y8]at h;obtain⟨a0,h0,a1,h1,rfl⟩:=h;rw[bY h0,Tt h1];rfl
 grind
def LG:List (V Un)→Option Bunch
 |[c0,c1]=>(bE .val c0).bind fun a0=>(bE .row c1).bind fun a1=>some<|Bunch.mk a0 a1
 |_=>none
def aig{l x}(h:LG l=some x):enc .bunch x=l:=by
 unfold LG at h;split at h
 ·simp only[y6,y8]at h;obtain⟨a0,h0,a1,h1,rfl⟩:=h;rw[bU h0,bU h1];rfl
 grind
def LH:List (V Un)→Option Wld
 |[c0,c1]=>(bE .row c0).bind fun a0=>(bE .data c1).bind fun a1=>some<|Wld.mk a0 a1
 |_=>none
def aih{l x}(h:LH l=some x):enc .wld x=l:=by
 unfold LH at h;split at h
 ·simp only[y6,y8]at h;obtain⟨a0,h0,a1,h1,rfl⟩:=h;rw[bU h0,bU h1];rfl
 grind
def LI:List (V Un)→Option Span
 |[c0,c1,c2,c3,c4,c5,c6,c7,c8]=>(bE .val c0).bind fun a0=>(fE c1).bind fun a1=>(fE c2).bind fun a2=>(bE .val c3).bind fun a3=>(fE c4).bind fun a4=>(fE c5).bind fun a5=>(bE .val c6).bind fun a6=>(bM c7).bind fun a7=>(bE .term c8).bind fun a8=>some<|Span.mk a0 (Bound.mk a1 a2 a3) (Bound.mk a4 a5 a6) a7 a8
 |_=>none
def aii{l x}(h:LI l=some x):enc .span x=l:=by
 unfold LI at h;split at h
 ·simp only[y6,y8]at h;obtain⟨a0,h0,a1,h1,a2,h2,a3,h3,a4,h4,a5,h5,a6,h6,a7,h7,a8,h8,rfl⟩:=h;rw[bU h0,gc h1,gc h2,bU h3,gc h4,gc h5,bU h6,bY h7,bU h8];rfl
 grind
def dec:(τ:Ty)→List (V Un)→Option (Den τ)
 | .int=>Lg
 | .str=>Lh
 | .row=>Li
 | .ints=>Lj
 | .pair=>Lk
 | .u8=>Ll
 | .bol=>Lm
 | .trms=>Ln
 | .colss=>Lo
 | .rowss=>Lp
 | .val=>Lq
 | .col=>Lr
 | .by_=>Ls
 | .bound=>Lt
 | .often=>Lu
 | .colStat=>Lv
 | .data=>Lw
 | .acc=>Lx
 | .stat=>Ly
 | .column=>Lz
 | .term=>LA
 | .agg=>LC
 | .rel=>LD
 | .plan=>LE
 | .sign=>LF
 | .bunch=>LG
 | .wld=>LH
 | .span=>LI
theorem pX:∀τ x,(enc τ x).length=sz τ:=by intro τ x;cases τ<;>rfl
theorem zJ:∀τ cs x,dec τ cs=some x→enc τ x=cs:=by
 intro τ cs x h;cases τ with
 |int=>exact ahR h
 |str=>exact ahS h
 |row=>exact ahT h
 |ints=>exact ahU h
 |pair=>exact ahV h
 |u8=>exact ahW h
 |bol=>exact ahX h
 |trms=>exact ahY h
 |colss=>exact ahZ h
 |rowss=>exact ah0 h
 |val=>exact ah1 h
 |col=>exact ah2 h
 |by_=>exact ah3 h
 |bound=>exact ah4 h
 |often=>exact ah5 h
 |colStat=>exact ah6 h
 |data=>exact ah7 h
 |acc=>exact ah8 h
 |stat=>exact ah9 h
 |column=>exact aia h
 |term=>exact aib h
 |agg=>exact aic h
 |rel=>exact aid h
 |plan=>exact aie h
 |sign=>exact aif h
 |bunch=>exact aig h
 |wld=>exact aih h
 |span=>exact aii h
def En:Enc Un:=⟨enc,dec,pX,zJ⟩
def jk(τ:Ty)(x:Den τ):List (C Un):=(enc τ x).map C.ofV
abbrev WI(n:Int):Prop:=-9223372036854775808≤n∧n≤9223372036854775807
abbrev WK(k:IntKind)(n:Int):Prop:=k.min≤n∧n≤k.max
abbrev cm(s:ByteArray):Prop:=s.size≤9223372036854775807
def WL(τ:Ty)(l:List (Den τ)):Prop:=VWf En<|.dat (U:=Un) τ l
def WS(τ:Ty)(x:Den τ):Prop:=∀d∈enc τ x,VWf En d
theorem DM n:VWf En (ci n)↔WI n:=⟨fun h=>by cases h with|s _ h=>exact of_decide_eq_true h,fun h=>.s _<|decide_eq_true h⟩
theorem DN n:VWf En (pW n)↔WK .u8 n:=⟨fun h=>by cases h with|s _ h=>exact of_decide_eq_true h,fun h=>.s _<|decide_eq_true h⟩
theorem DO b:VWf En (cb b)↔True:=⟨fun _=>trivial,fun _=>.s _ rfl⟩
theorem uw s:VWf En (cs s)↔cm s:=⟨fun h=>by cases h with|s _ h=>exact of_decide_eq_true h,fun h=>.s _<|decide_eq_true h⟩
theorem DP τ(l:List (Den τ)):VWf En (.dat (U:=Un) τ l)↔WL τ l:=Iff.rfl
def Tu τ l:WL τ l↔l.length≤9223372036854775807∧∀x∈l,WS τ x:=by
 refine⟨fun h=>?_,fun h=>.dat (U:=Un) τ l h.1 fun i hi j d hd=>h.2 _ (mc hi) _<|y9 hd⟩;cases h with
 |dat _ _ h1 h2=>
  refine⟨h1,fun x hx d hd=>?_⟩;obtain⟨i,hi,rfl⟩:=y4m hx;obtain⟨j,hj⟩:=j8 hd;exact h2 i hi j d hj
theorem WL.len{τ l}(h:WL τ l):l.length≤9223372036854775807:=((Tu τ l).1 h).1
def WL.get{τ l}(h:WL τ l){x}(hx:x∈l):WS τ x:=((Tu τ l).1 h).2 x hx
def aij(x:Val):WS .val x↔(WI x.kind)∧(WI x.n)∧(cm x.s):=by
 show(∀d∈[ci x.kind,ci x.n,cs x.s],VWf En d)↔_;simp only[A9,pH,false_implies,implies_true,DM,DN,DO,uw,DP,and_true,true_and]
def aik(x:Data):WS .data x↔(cm x.table)∧(WL .row x.rows):=by
 show(∀d∈[cs x.table,.dat (U:=Un) Ty.row x.rows],VWf En d)↔_;simp only[A9,pH,false_implies,implies_true,DM,DN,DO,uw,DP,and_true,true_and]
def Tv(x:Term):WS .term x↔(WI x.op)∧(WI x.v.kind)∧(WI x.v.n)∧(cm x.v.s)∧(WI x.depth)∧(WI x.at_)∧(cm x.name)∧(WL .term x.kids)∧(WL .rel x.sub)∧(WI x.type):=by
 show(∀d∈[ci x.op,ci x.v.kind,ci x.v.n,cs x.v.s,ci x.depth,ci x.at_,cs x.name,.dat (U:=Un) Ty.term x.kids,.dat (U:=Un) Ty.rel x.sub,ci x.type],VWf En d)↔_;simp only[A9,pH,false_implies,implies_true,DM,DN,DO,uw,DP,and_true,true_and]
def DQ(x:Rel):WS .rel x↔(WI x.op)∧(cm x.table)∧(WL .col x.cols)∧(WL .rel x.kids)∧(WL .term x.terms)∧(WL .agg x.aggs)∧(WL .by_ x.keys)∧(WI x.limit)∧(WI x.skip)∧(WL .row x.rows):=by
 show(∀d∈[ci x.op,cs x.table,.dat (U:=Un) Ty.col x.cols,.dat (U:=Un) Ty.rel x.kids,.dat (U:=Un) Ty.term x.terms,.dat (U:=Un) Ty.agg x.aggs,.dat (U:=Un) Ty.by_ x.keys,ci x.limit,ci x.skip,cb x.all,.dat (U:=Un) Ty.row x.rows],VWf En d)↔_;simp only[A9,pH,false_implies,implies_true,DM,DN,DO,uw,DP,and_true,true_and]
def WS.val_n{x:Val}(h:WS .val x):WI x.n:=((aij x).1 h).2.1
def WS.data_rows{x:Data}(h:WS .data x):WL .row x.rows:=((aik x).1 h).2
def WS.term_kids{x:Term}(h:WS .term x):WL .term x.kids:=((Tv x).1 h).2.2.2.2.2.2.2.1
def WS.term_sub{x:Term}(h:WS .term x):WL .rel x.sub:=((Tv x).1 h).2.2.2.2.2.2.2.2.1
def WS.rel_kids{x:Rel}(h:WS .rel x):WL .rel x.kids:=((DQ x).1 h).2.2.2.1
def WS.rel_terms{x:Rel}(h:WS .rel x):WL .term x.terms:=((DQ x).1 h).2.2.2.2.1
def WS.rel_aggs{x:Rel}(h:WS .rel x):WL .agg x.aggs:=((DQ x).1 h).2.2.2.2.2.1
def WS.rel_rows{x:Rel}(h:WS .rel x):WL .row x.rows:=((DQ x).1 h).2.2.2.2.2.2.2.2.2
def tab:List (TypeId×TI Un):=[(1,.fn),
 (2,.int .i64),
 (3,.int .i64),
 (4,.bool),
 (5,.int .u8),
 (6,.int .u8),
 (7,.st [(0,1,false),(1,1,false),(2,1,false),(3,1,false)] 4),
 (8,.st [(0,1,false),(1,1,false),(2,1,false),(3,1,false)] 4),
 (9,.str),
 (10,.str),
 (11,.str),
 (12,.int .u64),
 (13,.st [(0,1,false),(1,1,false)] 2),
 (14,.st [(0,1,false),(1,1,false)] 2),
 (15,.one),
 (16,.one),
 (17,.one),
 (18,.st [(0,1,false)] 1),
 (19,.st [(0,1,false)] 1),
 (21,.int .i32),
 (22,.sl 62 Ty.col 40),
 (23,.sl 29 Ty.rel 192),
 (24,.sl 39 Ty.term 128),
 (25,.sl 64 Ty.agg 48),
 (26,.sl 69 Ty.by_ 16),
 (27,.sl 57 Ty.row 24),
 (28,.st [(0,1,false),(1,1,false),(2,1,false),(3,1,false),(4,1,false),(5,1,false),(6,1,false),(7,1,false),(8,1,false),(9,1,false),(10,1,false)] 11),
 (29,.st [(0,1,false),(1,1,false),(2,1,false),(3,1,false),(4,1,false),(5,1,false),(6,1,false),(7,1,false),(8,1,false),(9,1,false),(10,1,false)] 11),
 (30,.sl 80 Ty.data 40),
 (31,.fn),
 (32,.fn),
 (33,.fn),
 (34,.fn),
 (35,.fn),
 (36,.st [(0,1,false),(1,1,false),(2,1,false)] 3),
 (37,.st [(0,1,false),(1,1,false),(2,1,false)] 3),
 (38,.st [(0,1,false),(1,3,true),(4,1,false),(5,1,false),(6,1,false),(7,1,false),(8,1,false),(9,1,false)] 10),
 (39,.st [(0,1,false),(1,3,true),(4,1,false),(5,1,false),(6,1,false),(7,1,false),(8,1,false),(9,1,false)] 10),
 (40,.fn),
 (41,.fn),
 (42,.sl 3 Ty.int 8),
 (43,.fn),
 (44,.fn),
 (45,.fn),
 (46,.fn),
 (47,.fn),
 (48,.sl 42 Ty.ints 24),
 (49,.fn),
 (50,.fn),
 (51,.ar 2 11 true),
 (53,.fn),
 (55,.fn),
 (56,.sl 37 Ty.val 32),
 (57,.sl 37 Ty.val 32),
 (58,.fn),
 (59,.fn),
 (60,.fn),
 (61,.st [(0,1,false),(1,1,false),(2,1,false)] 3),
 (62,.st [(0,1,false),(1,1,false),(2,1,false)] 3),
 (63,.st [(0,1,false),(1,1,false),(2,1,false)] 3),
 (64,.st [(0,1,false),(1,1,false),(2,1,false)] 3),
 (65,.fn),
 (66,.fn),
 (67,.ar 2 1 false),
 (68,.st [(0,1,false),(1,1,false)] 2),
 (69,.st [(0,1,false),(1,1,false)] 2),
 (70,.fn),
 (71,.fn),
 (72,.fn),
 (73,.fn),
 (74,.fn),
 (75,.fn),
 (76,.fn),
 (77,.fn),
 (78,.fn),
 (79,.st [(0,1,false),(1,1,false)] 2),
 (80,.st [(0,1,false),(1,1,false)] 2),
 (81,.fn),
 (82,.fn),
 (83,.fn),
 (84,.st [(0,1,false),(1,1,false)] 2),
 (85,.st [(0,1,false),(1,1,false)] 2),
 (86,.fn),
 (87,.fn),
 (88,.fn),
 (89,.fn),
 (90,.fn),
 (91,.fn),
 (92,.fn),
 (93,.fn),
 (94,.fn),
 (95,.fn),
 (97,.fn),
 (98,.int .i64),
 (100,.fn),
 (102,.fn),
 (103,.fn),
 (104,.fn),
 (105,.fn),
 (106,.fn),
 (107,.fn),
 (108,.fn),
 (109,.fn),
 (110,.fn),
 (111,.fn),
 (112,.fn),
 (113,.fn),
 (114,.fn),
 (115,.fn),
 (116,.fn),
 (118,.fn),
 (119,.fn),
 (120,.fn),
 (121,.fn),
 (122,.fn),
 (123,.fn),
 (124,.fn),
 (125,.fn),
 (126,.fn),
 (127,.fn),
 (128,.fn),
 (129,.fn),
 (130,.fn),
 (131,.fn),
 (132,.fn),
 (133,.fn),
 (134,.fn),
 (135,.fn),
 (136,.fn),
 (137,.fn),
 (138,.fn),
 (139,.fn),
 (140,.fn),
 (141,.fn),
 (142,.fn),
 (143,.fn),
 (144,.fn),
 (145,.fn),
 (146,.fn),
 (147,.fn),
 (148,.fn),
 (149,.fn),
 (150,.fn),
 (151,.fn),
 (152,.fn),
 (153,.fn),
 (154,.fn),
 (155,.fn),
 (156,.fn),
 (157,.sl 160 Ty.bunch 48),
 (158,.fn),
 (159,.st [(0,1,false),(1,1,false)] 2),
 (160,.st [(0,1,false),(1,1,false)] 2),
 (161,.fn),
 (162,.fn),
 (163,.fn),
 (164,.fn),
 (165,.fn),
 (166,.fn),
 (167,.fn),
 (168,.fn),
 (169,.fn),
 (170,.fn),
 (171,.fn),
 (172,.fn),
 (173,.fn),
 (174,.fn),
 (175,.fn),
 (176,.fn),
 (177,.fn),
 (178,.fn),
 (179,.fn),
 (180,.st [(0,1,false),(1,1,false),(2,1,false),(3,1,false),(4,1,false),(5,3,true),(8,1,false)] 9),
 (181,.st [(0,1,false),(1,1,false),(2,1,false),(3,1,false),(4,1,false),(5,3,true),(8,1,false)] 9),
 (182,.fn),
 (183,.fn),
 (184,.fn),
 (185,.fn),
 (186,.sl 27 Ty.rowss 24),
 (187,.fn),
 (188,.fn),
 (189,.fn),
 (190,.fn),
 (191,.fn),
 (192,.one),
 (193,.one),
 (194,.sl 197 Ty.sign 16),
 (195,.fn),
 (196,.st [(0,1,false),(1,1,false)] 2),
 (197,.st [(0,1,false),(1,1,false)] 2),
 (198,.fn),
 (199,.fn),
 (200,.fn),
 (201,.sl 5 Ty.u8 1),
 (202,.fn),
 (203,.sl 4 Ty.bol 1),
 (204,.fn),
 (205,.fn),
 (206,.fn),
 (207,.fn),
 (208,.fn),
 (209,.fn),
 (210,.fn),
 (211,.fn),
 (212,.fn),
 (213,.fn),
 (214,.fn),
 (215,.fn),
 (216,.fn),
 (217,.int .u64),
 (218,.fn),
 (219,.fn),
 (220,.fn),
 (221,.fn),
 (222,.fn),
 (223,.fn),
 (224,.fn),
 (225,.st [(0,1,false),(1,1,false),(2,1,false),(3,1,false)] 4),
 (226,.st [(0,1,false),(1,1,false),(2,1,false),(3,1,false)] 4),
 (227,.ar 0 1 false),
 (230,.fn),
 (231,.int .u32),
 (232,.int .u8),
 (233,.int .u8),
 (234,.fn),
 (235,.one),
 (236,.int .i32),
 (237,.int .i32),
 (238,.st [(0,1,false),(1,1,false),(2,1,false),(3,1,false),(4,1,false),(5,1,false),(6,1,false),(7,1,false),(8,1,false),(9,1,false),(10,1,false)] 11),
 (239,.st [(0,1,false),(1,1,false),(2,1,false),(3,1,false),(4,1,false),(5,1,false),(6,1,false),(7,1,false),(8,1,false),(9,1,false),(10,1,false)] 11)]
def zeros:List (TypeId×List (C Un)):=[(1,[.s .nilFunc]),
 (2,[.s<|.int .i64 0]),
 (3,[.s<|.int .i64 0]),
 (4,[.s<|.bool false]),
 (5,[.s<|.int .u8 0]),
 (6,[.s<|.int .u8 0]),
 (7,[.s<|.int .i64 0,.s<|.int .i64 0,.s<|.bool false,.s<|.int .u8 0]),
 (8,[.s<|.int .i64 0,.s<|.int .i64 0,.s<|.bool false,.s<|.int .u8 0]),
 (9,[.s<|.string ⟨#[]⟩]),
 (10,[.s<|.string ⟨#[]⟩]),
 (11,[.s<|.string ⟨#[]⟩]),
 (12,[.s<|.int .u64 0]),
 (13,[.s<|.string ⟨#[]⟩,.s<|.int .u64 0]),
 (14,[.s<|.string ⟨#[]⟩,.s<|.int .u64 0]),
 (21,[.s<|.int .i32 0]),
 (22,[.sl (U:=Un) Ty.col [] true]),
 (23,[.sl (U:=Un) Ty.rel [] true]),
 (24,[.sl (U:=Un) Ty.term [] true]),
 (25,[.sl (U:=Un) Ty.agg [] true]),
 (26,[.sl (U:=Un) Ty.by_ [] true]),
 (27,[.sl (U:=Un) Ty.row [] true]),
 (28,[.s<|.int .i64 0,.s<|.string ⟨#[]⟩,.sl (U:=Un) Ty.col [] true,.sl (U:=Un) Ty.rel [] true,.sl (U:=Un) Ty.term [] true,.sl (U:=Un) Ty.agg [] true,.sl (U:=Un) Ty.by_ [] true,.s<|.int .i64 0,.s<|.int .i64 0,.s<|.bool false,.sl (U:=Un) Ty.row [] true]),
 (29,[.s<|.int .i64 0,.s<|.string ⟨#[]⟩,.sl (U:=Un) Ty.col [] true,.sl (U:=Un) Ty.rel [] true,.sl (U:=Un) Ty.term [] true,.sl (U:=Un) Ty.agg [] true,.sl (U:=Un) Ty.by_ [] true,.s<|.int .i64 0,.s<|.int .i64 0,.s<|.bool false,.sl (U:=Un) Ty.row [] true]),
 (30,[.sl (U:=Un) Ty.data [] true]),
 (31,[.s .nilFunc]),
 (32,[.s .nilFunc]),
 (33,[.s .nilFunc]),
 (34,[.s .nilFunc]),
 (35,[.s .nilFunc]),
 (36,[.s<|.int .i64 0,.s<|.int .i64 0,.s<|.string ⟨#[]⟩]),
 (37,[.s<|.int .i64 0,.s<|.int .i64 0,.s<|.string ⟨#[]⟩]),
 (38,[.s<|.int .i64 0,.s<|.int .i64 0,.s<|.int .i64 0,.s<|.string ⟨#[]⟩,.s<|.int .i64 0,.s<|.int .i64 0,.s<|.string ⟨#[]⟩,.sl (U:=Un) Ty.term [] true,.sl (U:=Un) Ty.rel [] true,.s<|.int .i64 0]),
 (39,[.s<|.int .i64 0,.s<|.int .i64 0,.s<|.int .i64 0,.s<|.string ⟨#[]⟩,.s<|.int .i64 0,.s<|.int .i64 0,.s<|.string ⟨#[]⟩,.sl (U:=Un) Ty.term [] true,.sl (U:=Un) Ty.rel [] true,.s<|.int .i64 0]),
 (40,[.s .nilFunc]),
 (41,[.s .nilFunc]),
 (42,[.sl (U:=Un) Ty.int [] true]),
 (43,[.s .nilFunc]),
 (44,[.s .nilFunc]),
 (45,[.s .nilFunc]),
 (46,[.s .nilFunc]),
 (47,[.s .nilFunc]),
 (48,[.sl (U:=Un) Ty.ints [] true]),
 (49,[.s .nilFunc]),
 (50,[.s .nilFunc]),
 (51,[.s<|.int .i64 0,.s<|.string ⟨#[]⟩,.sl (U:=Un) Ty.col [] true,.sl (U:=Un) Ty.rel [] true,.sl (U:=Un) Ty.term [] true,.sl (U:=Un) Ty.agg [] true,.sl (U:=Un) Ty.by_ [] true,.s<|.int .i64 0,.s<|.int .i64 0,.s<|.bool false,.sl (U:=Un) Ty.row [] true,.s<|.int .i64 0,.s<|.string ⟨#[]⟩,.sl (U:=Un) Ty.col [] true,.sl (U:=Un) Ty.rel [] true,.sl (U:=Un) Ty.term [] true,.sl (U:=Un) Ty.agg [] true,.sl (U:=Un) Ty.by_ [] true,.s<|.int .i64 0,.s<|.int .i64 0,.s<|.bool false,.sl (U:=Un) Ty.row [] true]),
 (53,[.s .nilFunc]),
 (55,[.s .nilFunc]),
 (56,[.sl (U:=Un) Ty.val [] true]),
 (57,[.sl (U:=Un) Ty.val [] true]),
 (58,[.s .nilFunc]),
 (59,[.s .nilFunc]),
 (60,[.s .nilFunc]),
 (61,[.s<|.string ⟨#[]⟩,.s<|.string ⟨#[]⟩,.s<|.int .i64 0]),
 (62,[.s<|.string ⟨#[]⟩,.s<|.string ⟨#[]⟩,.s<|.int .i64 0]),
 (63,[.s<|.string ⟨#[]⟩,.s<|.bool false,.sl (U:=Un) Ty.term [] true]),
 (64,[.s<|.string ⟨#[]⟩,.s<|.bool false,.sl (U:=Un) Ty.term [] true]),
 (65,[.s .nilFunc]),
 (66,[.s .nilFunc]),
 (67,[.s<|.int .i64 0,.s<|.int .i64 0]),
 (68,[.s<|.int .i64 0,.s<|.bool false]),
 (69,[.s<|.int .i64 0,.s<|.bool false]),
 (70,[.s .nilFunc]),
 (71,[.s .nilFunc]),
 (72,[.s .nilFunc]),
 (73,[.s .nilFunc]),
 (74,[.s .nilFunc]),
 (75,[.s .nilFunc]),
 (76,[.s .nilFunc]),
 (77,[.s .nilFunc]),
 (78,[.s .nilFunc]),
 (79,[.s<|.string ⟨#[]⟩,.sl (U:=Un) Ty.row [] true]),
 (80,[.s<|.string ⟨#[]⟩,.sl (U:=Un) Ty.row [] true]),
 (81,[.s .nilFunc]),
 (82,[.s .nilFunc]),
 (83,[.s .nilFunc]),
 (84,[.sl (U:=Un) Ty.row [] true,.sl (U:=Un) Ty.data [] true]),
 (85,[.sl (U:=Un) Ty.row [] true,.sl (U:=Un) Ty.data [] true]),
 (86,[.s .nilFunc]),
 (87,[.s .nilFunc]),
 (88,[.s .nilFunc]),
 (89,[.s .nilFunc]),
 (90,[.s .nilFunc]),
 (91,[.s .nilFunc]),
 (92,[.s .nilFunc]),
 (93,[.s .nilFunc]),
 (94,[.s .nilFunc]),
 (95,[.s .nilFunc]),
 (97,[.s .nilFunc]),
 (98,[.s<|.int .i64 0]),
 (100,[.s .nilFunc]),
 (102,[.s .nilFunc]),
 (103,[.s .nilFunc]),
 (104,[.s .nilFunc]),
 (105,[.s .nilFunc]),
 (106,[.s .nilFunc]),
 (107,[.s .nilFunc]),
 (108,[.s .nilFunc]),
 (109,[.s .nilFunc]),
 (110,[.s .nilFunc]),
 (111,[.s .nilFunc]),
 (112,[.s .nilFunc]),
 (113,[.s .nilFunc]),
 (114,[.s .nilFunc]),
 (115,[.s .nilFunc]),
 (116,[.s .nilFunc]),
 (118,[.s .nilFunc]),
 (119,[.s .nilFunc]),
 (120,[.s .nilFunc]),
 (121,[.s .nilFunc]),
 (122,[.s .nilFunc]),
 (123,[.s .nilFunc]),
 (124,[.s .nilFunc]),
 (125,[.s .nilFunc]),
 (126,[.s .nilFunc]),
 (127,[.s .nilFunc]),
 (128,[.s .nilFunc]),
 (129,[.s .nilFunc]),
 (130,[.s .nilFunc]),
 (131,[.s .nilFunc]),
 (132,[.s .nilFunc]),
 (133,[.s .nilFunc]),
 (134,[.s .nilFunc]),
 (135,[.s .nilFunc]),
 (136,[.s .nilFunc]),
 (137,[.s .nilFunc]),
 (138,[.s .nilFunc]),
 (139,[.s .nilFunc]),
 (140,[.s .nilFunc]),
 (141,[.s .nilFunc]),
 (142,[.s .nilFunc]),
 (143,[.s .nilFunc]),
 (144,[.s .nilFunc]),
 (145,[.s .nilFunc]),
 (146,[.s .nilFunc]),
 (147,[.s .nilFunc]),
 (148,[.s .nilFunc]),
 (149,[.s .nilFunc]),
 (150,[.s .nilFunc]),
 (151,[.s .nilFunc]),
 (152,[.s .nilFunc]),
 (153,[.s .nilFunc]),
 (154,[.s .nilFunc]),
 (155,[.s .nilFunc]),
 (156,[.s .nilFunc]),
 (157,[.sl (U:=Un) Ty.bunch [] true]),
 (158,[.s .nilFunc]),
 (159,[.sl (U:=Un) Ty.val [] true,.sl (U:=Un) Ty.row [] true]),
 (160,[.sl (U:=Un) Ty.val [] true,.sl (U:=Un) Ty.row [] true]),
 (161,[.s .nilFunc]),
 (162,[.s .nilFunc]),
 (163,[.s .nilFunc]),
 (164,[.s .nilFunc]),
 (165,[.s .nilFunc]),
 (166,[.s .nilFunc]),
 (167,[.s .nilFunc]),
 (168,[.s .nilFunc]),
 (169,[.s .nilFunc]),
 (170,[.s .nilFunc]),
 (171,[.s .nilFunc]),
 (172,[.s .nilFunc]),
 (173,[.s .nilFunc]),
 (174,[.s .nilFunc]),
 (175,[.s .nilFunc]),
 (176,[.s .nilFunc]),
 (177,[.s .nilFunc]),
 (178,[.s .nilFunc]),
 (179,[.s .nilFunc]),
 (180,[.s<|.string ⟨#[]⟩,.s<|.bool false,.s<|.int .i64 0,.s<|.int .i64 0,.s<|.int .i64 0,.s<|.int .i64 0,.s<|.int .i64 0,.s<|.string ⟨#[]⟩,.sl (U:=Un) Ty.val [] true]),
 (181,[.s<|.string ⟨#[]⟩,.s<|.bool false,.s<|.int .i64 0,.s<|.int .i64 0,.s<|.int .i64 0,.s<|.int .i64 0,.s<|.int .i64 0,.s<|.string ⟨#[]⟩,.sl (U:=Un) Ty.val [] true]),
 (182,[.s .nilFunc]),
 (183,[.s .nilFunc]),
 (184,[.s .nilFunc]),
 (185,[.s .nilFunc]),
 (186,[.sl (U:=Un) Ty.rowss [] true]),
 (187,[.s .nilFunc]),
 (188,[.s .nilFunc]),
 (189,[.s .nilFunc]),
 (190,[.s .nilFunc]),
 (191,[.s .nilFunc]),
 (194,[.sl (U:=Un) Ty.sign [] true]),
 (195,[.s .nilFunc]),
 (196,[.s<|.int .i64 0,.s<|.int .u8 0]),
 (197,[.s<|.int .i64 0,.s<|.int .u8 0]),
 (198,[.s .nilFunc]),
 (199,[.s .nilFunc]),
 (200,[.s .nilFunc]),
 (201,[.sl (U:=Un) Ty.u8 [] true]),
 (202,[.s .nilFunc]),
 (203,[.sl (U:=Un) Ty.bol [] true]),
 (204,[.s .nilFunc]),
 (205,[.s .nilFunc]),
 (206,[.s .nilFunc]),
 (207,[.s .nilFunc]),
 (208,[.s .nilFunc]),
 (209,[.s .nilFunc]),
 (210,[.s .nilFunc]),
 (211,[.s .nilFunc]),
 (212,[.s .nilFunc]),
 (213,[.s .nilFunc]),
 (214,[.s .nilFunc]),
 (215,[.s .nilFunc]),
 (216,[.s .nilFunc]),
 (217,[.s<|.int .u64 0]),
 (218,[.s .nilFunc]),
 (219,[.s .nilFunc]),
 (220,[.s .nilFunc]),
 (221,[.s .nilFunc]),
 (222,[.s .nilFunc]),
 (223,[.s .nilFunc]),
 (224,[.s .nilFunc]),
 (230,[.s .nilFunc]),
 (231,[.s<|.int .u32 0]),
 (232,[.s<|.int .u8 0]),
 (233,[.s<|.int .u8 0]),
 (234,[.s .nilFunc]),
 (236,[.s<|.int .i32 0]),
 (237,[.s (.int .i32 0)])]
def eqs:List (TypeId×List EK):=[(37,[.int .i64,.int .i64,.str]),(62,[.str,.str,.int .i64]),(67,[.int .i64,.int .i64]),(69,[.int .i64,.bool]),(197,[.int .i64,.int .u8])]
def gG(fns:FuncId→Option (au Un))(fvs:FuncId→Option (FV Un))(clo:FuncId→Option (List (List<|DC Un)→Option (FV Un)))(gns:FuncId→Option (List Bool×fS Un))(ups:FuncId→Option (mh Un)):Mc Un:=⟨En,tab,zeros,fns,fvs,clo,gns,eqs,ups⟩
def DR fns fvs clo gns ups:TabOK Tryz.prog (gG fns fvs clo gns ups):=agw<|by kernel_rfl
def mixed:Tryz.prog.follows .mixedOrders=true:=by kernel_rfl
end B
namespace B
open Go Go.RowKit
variable {U:Uni} {P:Program} {M:Mc U}
def ail{E n x w g vs args bs}{os:List (Ob U)}(hp:Part P E g w bs os)(hvs:All2 (ARel P E g (os.map some) w) vs args):
 Sim P E ⟨w,g.mine,g.St,bs.length,g.β⟩ g (Dt n x args bs os) {tmps:=vs.toArray++Array.replicate (n- vs.toArray.size) undef,defers:=[]} w:=by
 generalize hm:4*(bs.length+n)+x- os.length=m;have hg:GLe g (os.map some) w g (os.map some++List.replicate m none) w:=by
  refine⟨Keeps.refl _ _,fun _ hl=>⟨hl,rfl⟩,fun k o hk=>⟨o,?_,y7 _,fun _=>⟨rfl,rfl,rfl⟩⟩⟩;grind
 have hlen:=hvs.length;refine{ext:=⟨rfl,rfl,rfl,y7 _,fun _ _ _=>rfl,fun _ _ _ _=>rfl,fun _ _ _ _=>rfl,hp.laid,fun b hl=>hp.laid.lt b hl,fun b o hl hm=>by obtain⟨y,h1,h2⟩:=hm;exact h1 (hp.nlb b o y hl h2)⟩,tms:=?_,bxs:=?_,lbs:=?_,obs:=?_,own:=?_,dfr:=rfl,fix:=fun _ _ _=>rfl,bas:=y7 _}
 ·have e:(vs.toArray++Array.replicate (n- vs.toArray.size) undef).toList=vs++List.replicate (n- vs.length) undef:=by simp
  rw[e,hlen];refine All2.append (All2.map_right AV.one (fun _ _ hh=>?_) hvs) ?_
  ·show ARel P E g (os.map some++List.replicate (4*(bs.length+n)+x- os.length) none) w _ _;grind[ARel.mono]
  ·generalize n- args.length=q
   induction q with
   |zero=>trivial
   |succ q ih=>exact⟨trivial,ih⟩
 ·intro k fz cells hk;have hk':(bs.map some++List.replicate n (none:Option (Bool×List (C U))))[k]?=some (some (fz,cells)):=hk;rcases yk k bs.length with hlt|hge
  ·obtain⟨hl,hb⟩:=hp.bxs k fz cells (by grind);refine⟨hl,?_⟩;show BoxRel P E g (os.map some++List.replicate (4*(bs.length+n)+x- os.length) none) w k fz cells;rw[hm];exact hb.keep hl hg (fun b i hx=>⟨hx,rfl,rfl⟩)
  grind
 ·intro k hl;have hlt:=hp.lbs k hl;refine⟨bs[k],?_⟩;show(bs.map some++List.replicate n (none:Option (Bool×List (C U))))[k]?=_;grind
 ·intro k o hk;have hk':(os.map some++List.replicate (4*(bs.length+n)+x- os.length) (none:Option (Ob U)))[k]?=some (some o):=hk;rcases yk k os.length with hlt|hge
  ·exact(hp.obs k o (by grind)).1
  grind
 ·intro b o y hy;refine⟨hp.own b o y hy,?_⟩;cases y with
  |st=>exact .inr (.inr ⟨rfl,hy⟩)
  |box k=>exact .inr (.inl ⟨_,by simp,hy⟩)
  |obj k=>exact .inr (.inl ⟨_,by simp,hy⟩)
def Tw{R R'}(hR:∀v x,R v (.c x)→R' v x):∀{us:List Value}{l:List (A U)}{cs:List (C U)},vA l=some cs→All2 R us l→All2 R' us cs
 |[],[],cs,h,_=>by simp[vA]at h;subst h;trivial
 |u::us,x::l,cs,h,hh=>by
  cases x with
  |c c=>
   simp only[vA]at h;split at h
   ·rename_i r hr;simp at h;subst h;exact⟨hR _ _ hh.1,Tw hR hr hh.2⟩
   grind
  |_=>grind[vA]
def Tx{R R'}(hR:∀v x,R v (.c x)→R' v x){vs}:∀{bs:List (Bool×List (C U))}{vss:List (List Value)}{rs:List (A U)}{bs':List (Bool×List (C U))}{rs':List (A U)},
 yY bs rs=some (bs',rs')→vss.length=bs.length→(∀(i:Nat) us b,vss[i]?=some us→bs[i]?=some b→us.length=b.2.length)→All2 R (vss.flatten++vs) rs→
 All2 R vs rs'∧bs'.length=bs.length∧∀(i:Nat) b',bs'[i]?=some b'→∃b us,bs[i]?=some b∧vss[i]?=some us∧b'.1=b.1∧All2 R' us b'.2
 |[],vss,rs,bs',rs',h,hl,_,hh=>by
  obtain⟨rfl,rfl⟩:=h;have:vss=[]:=yx (by simpa using hl);subst this;exact⟨by simpa using hh,rfl,fun i b' hb=>by simp at hb⟩
 |b::bs,[],rs,bs',rs',h,hl,_,hh=>by grind
 |b::bs,us::vss,rs,bs',rs',h,hl,hlen,hh=>by
  simp only[yY]at h;split at h
  ·rename_i cs bs2 r h1 h2;obtain⟨rfl,rfl⟩:=h;have hul:us.length=b.2.length:=hlen 0 us b rfl rfl;have ht:=All2.take b.2.length hh;have hd:=All2.drop b.2.length hh;rw[←hul]at ht hd;simp at ht hd;rw[hul]at ht hd;obtain⟨i1,i2,i3⟩:=Tx hR h2 (by grind) (fun i u c hu hc=>hlen (i+1) u c (by grind) (by grind)) hd;refine⟨i1,by grind,fun i b' hb=>?_⟩;cases i with
   |zero=>simp at hb;subst hb;exact⟨b,us,rfl,rfl,rfl,Tw hR h1 ht⟩
   |succ i=>
    grind
  grind
def Tz{E fr g s a w}(h:Sim P E fr g s a w):∀{ks:List Nat}{bs:List (Bool×List (C U))},s.boxesAt ks=some bs→∃vss:List (List Value),vss.length=bs.length∧
 (∀{vs:List Value}{al:List (A U)},All2 (ARel P E g s.ob w) vs al→All2 (ARel P E g s.ob w) (vss.flatten++vs) (yZ bs++al))∧
 ∀(i k:Nat) us b,ks[i]?=some k→vss[i]?=some us→bs[i]?=some b→us.length=b.2.length∧∀(j:Nat) v,us[j]?=some v→w.cell? ⟨g.β k,j,none⟩=some v∧(b.1=false→stuck w ⟨g.β k,j,none⟩=false)
 |[],bs,hb=>by
  simp[S.boxesAt]at hb;subst hb;exact⟨[],rfl,fun hh=>hh,fun i k us b hk=>by simp⟩
 |k::ks,bs,hb=>by
  simp only[S.boxesAt]at hb;split at hb
  ·rename_i b0 r h1 h2;simp at hb;subst hb;obtain⟨vss,i1,i2,i3⟩:=Tz h h2;obtain⟨_,us,hus,hcell⟩:=h.bxs k b0.1 b0.2 h1;refine⟨us::vss,by grind,fun{vs al} hh=>?_,fun i q u b hq hu hb=>?_⟩
   ·simp only[vq,yZ,yw];exact All2.append (All2.map_right A.c (fun _ _ hx=>hx) hus)<|i2 hh
   ·cases i with
    |zero=>
     simp at hq hu hb;subst hq hu hb;exact⟨hus.length,fun j v hv=>⟨(hcell j v hv).1,fun hf=>((hcell j v hv).2.1 hf).1⟩⟩
    |succ i=>grind
  grind
def vF(E:Enc U):C U→Prop
 | .s x=>bH x=true
 | .sl τ xs _=>VWf E<|.dat τ xs
 | .el τ xs i _=>VWf E (.dat τ xs)∧i<xs.length
 |_=>True
def Bp(E:Enc U):A U→Prop
 | .c x=>vF E x
 | .agg cs=>∀c∈cs,vF E c
 | .top=>True
theorem CRel.wf{E g ob w v}{c:C U}(h:CRel P E g ob w v c):vF E c:=by
 cases c with
 |s x=>exact h.2
 |sl τ xs f=>exact h.1.wf
 |el τ xs i off=>obtain⟨h1,b,o,cap,_,h2⟩:=h;exact⟨h2.wf,h1⟩
 |_=>trivial
theorem ARel.wf{E g ob w v}{a:A U}(h:ARel P E g ob w v a):Bp E a:=by
 cases a with
 |c x=>exact CRel.wf h
 |agg cs=>obtain⟨arr,_,h2⟩:=h;exact fun c hc=>(h2.mem c hc).elim fun _ hh=>hh.wf
 |top=>trivial
theorem BoxRel.wf{E g ob w k fz}{cells:List (C U)}(h:BoxRel P E g ob w k fz cells):∀c∈cells,vF E c:=by
 obtain⟨vs,h1,_⟩:=h;exact fun c hc=>(h1.mem c hc).elim fun _ hh=>hh.wf
theorem ObRel.wf{E g w k}{o:Ob U}(h:ObRel E g w k o):VWf E (.dat o.τ o.xs):=by
 refine .dat _ _ h.1.1.2 fun i hi j d hd=>?_;obtain⟨b,off,cv,_,hA⟩:=h.2 (by have:=h.1.1.1;omega);exact(hA.rel i hi j d hd).wf
def aim(hT:TabOK P M)(hF:FnsOK P M)(hm:P.follows .mixedOrders=true){f fn body}(hf:P.funcs[f]?=some fn)(hb:fn.body=some body) N x fm{args rs bs bs' os os'}(h0:(∀a∈args,Bp M.E a)→(∀b∈bs,∀c∈b.2,vF M.E c)→(∀o∈os,VWf M.E (.dat o.τ o.xs)∧o.frozen≤o.xs.length)→aB M N body (Dt fn.ntmps x args bs os) (b9 M bs.length fn.results.toList fm fun r b o=>r=rs∧b=bs'∧o=os')):GContract P M.E f args bs os rs bs' os':=by
 intro w g0 vs0 hp0 hvs0;have hs0:=ail (n:=fn.ntmps) (x:=x) hp0 hvs0
 have h:=h0 (fun a ha=>(hvs0.mem a ha).elim fun _ hh=>hh.wf)
  (fun b hb=>by obtain⟨i,hi⟩:=j8 hb;exact(hp0.bxs i b.1 b.2 hi).2.wf)
  (fun o ho=>by
   obtain⟨i,hi⟩:=j8 ho;have hr:=(hp0.obs i o hi).1;refine⟨hr.wf,?_⟩;unfold Ob.frozen;split
   ·simp
   ·rename_i f hf;exact hr.1.2 f hf)
 refine calls_of_wp hf hb ?_;refine pV hT hF hm N body (Q:=b9 M bs.length fn.results.toList fm fun r b o=>r=rs∧b=bs'∧o=os') ?_ hs0 h;have fin:∀s g a w',um M bs.length fn.results.toList fm (fun r b o=>r=rs∧b=bs'∧o=os') s→Sim P M.E ⟨w,g0.mine,g0.St,bs.length,g0.β⟩ g s a w'→a.defers=[]∧∃v,(results fn a.tmps).run P w'=.ok v w'∧∃v',Ending.returned v=.returned v'∧rM P M.E g0 w w' v' rs bs' os':=by
  intro s g a w' hq hs';unfold um at hq;split at hq
  ·rename_i al bsS hal hbsS;split at hq
   ·rename_i rsA osA hout;split at hq
    ·rename_i bsR rsR hsplit;obtain⟨rfl,rfl,rfl⟩:=hq;obtain⟨v,hv,hvr⟩:=Tj hT hs' hal;refine⟨hs'.dfr,v,hv,v,rfl,?_⟩;obtain⟨vs,hall,hback⟩:=To hvr;obtain⟨vss,hvl,happ,hcells⟩:=Tz hs' hbsS;obtain⟨hbl,hbat⟩:=Gx hbsS;obtain⟨hlr,gr,c1,c2,c3,c4,c5,c6,c7,c8⟩:=Tn hs' bs.length (happ hall) hout;have hlenS:bsS.length=bs.length:=by grind
     have hrange:∀i,i<bs.length→(List.range bs.length)[i]?=some i:=fun i hi=>by grind
     obtain⟨d1,d2,d3⟩:=Tx (R':=CRel P M.E gr (osA.map some) w') (fun _ _ hx=>hx) hsplit hvl (fun i us b hu hb=>by
      grind) c7
     refine⟨gr,(by rw[d2,hlenS];exact hs'.ext),⟨fun k fz cells hk=>?_,fun k hk=>?_,c8,fun b o y hy=>(c4 b o y hy).1,hs'.ext.laid,fun b o y hl hy=>?_⟩,fun k hk=>?_,fun b o y hb hy=>?_,hback ?_ d1⟩
     ·have hkl:k<bs.length:=by grind
      obtain⟨b,us,e1,e2,e3,e4⟩:=d3 k (fz,cells) hk;obtain⟨bx,f1,f2⟩:=hbat k k (hrange k hkl);rw[e1]at f2;simp at f2;subst f2;have hgl:=(hs'.bxs k b.1 b.2 f1).1;refine⟨(c1 k).2 ⟨hkl,hgl⟩,us,e4,fun i u hu=>?_⟩;grind
     ·grind
     ·rcases(c4 b o y hy).2 with hh|⟨z,hz,hh⟩|hh
      ·have:w.heap.size≤b:=hh;exact absurd (hp0.laid.lt b hl) (by omega)
      ·exact(hz (hp0.nlb b o z hl hh)).elim
      grind
     ·have hkl:=hp0.lbs k hk;obtain⟨bx,f1,_⟩:=hbat k k (hrange k hkl);have hgl:=(hs'.bxs k bx.1 bx.2 f1).1;rw[c2 k hgl];exact hs'.fix k hkl hgl
     ·grind
     ·have:=hall.length;have:=d1.length;omega
    grind
   grind
  grind
 intro e s g a w' hq hs';cases e with
 |normal=>exact fin s g a w' hq hs'
 |ret=>exact fin s g a w' hq hs'
 |_=>exact hq.elim
end B
end Go.Proofs.YtjfpbchdcbhfgaaGreat
