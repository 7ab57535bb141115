/- Part 8 of the proof: BFn BEntry. -/
import Derived.Test.YtjfpbchdcbhfgaaGreatNsrt7
namespace Go.Proofs.YtjfpbchdcbhfgaaGreat.B
open Go Go.RowKit
variable {U:Uni} {P:Program} {M:Mc U} {fr:Fr} {w:World} {g:G} {s:S U} {a:Act}
def resF (tmps:Array Value) (r:ResultVar) : Sem Value:=match r with
 | .tmp t=>pure (tmps.getD t undef)
 | .cell p t=>do loadVar t (← asAddr (tmps.getD p undef))
theorem z1v6 (fn:Func) (tmps:Array Value) : results fn tmps=(do let vs ← fn.results.mapM (resF tmps);pure (if h:vs.size=1 then vs[0] else .tuple vs)):=by
 have : (fun (x:ResultVar)=>match x with | .tmp t=>(pure (tmps.getD t undef) : Sem Value) | .cell a t=>do loadVar t (← asAddr (tmps.getD a undef)))=resF tmps:=by
  funext r;cases r<;>rfl
 unfold results
 rw[← this]
 rfl
theorem z1xv (hT:TabOK P M) (h:Sim P M.E fr g s a w) {r:ResultVar} {x:A U} (hr:s.res M r=some x) :
  ∃ v,(resF a.tmps r).run P w=.ok v w∧ARel P M.E g s.ob w v x:=by
 cases r with
 | tmp t =>
  simp only[S.res] at hr
  split at hr
  ·rename_i y hy
   simp at hr;subst hr
   exact⟨a.tmps.getD t undef,by simp [resF],h.slot hy⟩
  ·simp at hr
 | cell p t =>
  simp only[S.res] at hr
  split at hr
  ·rename_i c hc
   split at hr
   ·rename_i agg n hsh
    split at hr
    ·rename_i cs hat
     split at hr
     ·rename_i y hm
      simp at hr;subst hr
      have hp:CRel P M.E g s.ob w (a.tmps.getD p undef) c:=h.slot hc
      obtain⟨b,off,vs,e1,e2,e3,e4⟩:=h.cellsAt hp hat
      have hshp:=(hT.ti t).1 agg n hsh
      have hmk:=z18a hm e4
      cases agg with
      | true =>
       refine⟨.agg vs.toArray,?_,hmk.1 rfl⟩
       simp only[resF]
       rw[e1]
       simp only[Sem.run_bind,asAddr,Sem.run_pure,Result.andThen_ok,loadVar,zhh hshp,run_sizeOf hshp,if_true]
       rw[← e2,zmf w b off vs e3];rfl
      | false =>
       obtain⟨v,rfl,hv⟩:=hmk.2 rfl
       refine⟨v,?_,hv⟩
       have hc0:=e3 0 v rfl
       simp only[Nat.add_zero] at hc0
       simp only[resF]
       rw[e1]
       simp only[Sem.run_bind,asAddr,Sem.run_pure,Result.andThen_ok,loadVar,zhh hshp,Bool.false_eq_true,if_false,run_load,hc0]
     ·simp at hr
    ·simp at hr
   ·simp at hr
  ·simp at hr
theorem z1b9 (hT:TabOK P M) (h:Sim P M.E fr g s a w) : ∀ {rs:List ResultVar} {al:List (A U)},s.ress M rs=some al →
  ∃ vs : List Value,(rs.mapM (resF a.tmps)).run P w=.ok vs w∧All2 (ARel P M.E g s.ob w) vs al
 | [],al,hr=>by simp [S.ress] at hr;subst hr;exact⟨[],by simp,trivial⟩
 | r::rs,al,hr=>by
  simp only[S.ress] at hr
  split at hr
  ·rename_i x l h1 h2
   simp at hr;subst hr
   obtain⟨v,hv,hvr⟩:=z1xv hT h h1
   obtain⟨vs,hvs,hvsr⟩:=z1b9 hT h h2
   refine⟨v::vs,?_,⟨hvr,hvsr⟩⟩
   simp only[List.mapM_cons,Sem.run_bind,hv,Result.andThen_ok,hvs,Sem.run_pure]
  ·simp at hr
theorem zy5 (hT:TabOK P M) (h:Sim P M.E fr g s a w) {fn:Func} {al:List (A U)} (hr:s.ress M fn.results.toList=some al) :
  ∃ v,(results fn a.tmps).run P w=.ok v w∧RetRel (ARel P M.E g s.ob w) v al:=by
 obtain⟨vs,hvs,hrel⟩:=z1b9 hT h hr
 have hm:(fn.results.mapM (resF a.tmps)).run P w=.ok vs.toArray w:=by
  rw[Array.mapM_eq_mapM_toList,Sem.run_map,hvs];rfl
 have hlen:=hrel.length
 rw[z1v6]
 match al,vs,hrel,hm with
 | [],[],hrel,hm=>exact⟨.tuple #[],by rw[Sem.run_bind,hm];simp,#[],rfl,trivial⟩
 | [x],[v],hrel,hm=>exact⟨v,by rw[Sem.run_bind,hm];simp,hrel.1⟩
 | x::y::l,v::u::r,hrel,hm=>exact⟨.tuple (v::u::r).toArray,by rw[Sem.run_bind,hm];simp,_,rfl,by simpa using hrel⟩
 | [],_::_,hrel,_=>exact hrel.elim
 | [_],[],hrel,_=>exact hrel.elim
 | [_],_::_::_,hrel,_=>exact hrel.2.elim
 | _::_::_,[],hrel,_=>exact hrel.elim
 | _::_::_,[_],hrel,_=>exact hrel.2.elim
def zcr (k:Nat) : List (Option Nat×Ob U)→Nat→Option Nat
 | [],_=>none
 | (some k',_)::r,j=>if k'=k then some j else zcr k r (j+1)
 | (none,_)::r,j=>zcr k r (j+1)
theorem zom {k:Nat} {o:Ob U} : ∀ {es:List (Option Nat×Ob U)} {j i:Nat},z4a (srcs es)=true→es[i]? = some (some k,o)→zcr k es j=some (j+i)
 | [],j,i,_,h=>by simp at h
 | (some k',o')::r,j,i,hu,h=>by
  obtain⟨h1,h2⟩:=z8o hu
  simp only[zcr]
  cases i with
  | zero=>simp at h;obtain⟨rfl,rfl⟩:=h;simp
  | succ i =>
   have hm:k∈srcs r:=by
    have : ∀ {r:List (Option Nat×Ob U)} {i:Nat},r[i]? = some (some k,o)→k∈srcs r:=by
     intro r
     induction r with
     | nil=>intro i h;simp at h
     | cons x r ih =>
      intro i h
      obtain⟨x1,x2⟩:=x
      cases i with
      | zero=>simp at h;obtain⟨rfl,rfl⟩:=h;simp [srcs]
      | succ i=>cases x1<;>simp only[srcs]<;>first | exact ih (by simpa using h) | exact List.mem_cons_of_mem _ (ih (by simpa using h))
    exact this (by simpa using h)
   rw[if_neg (by rintro rfl;exact h1 hm)]
   rw[zom h2 (i:=i) (by simpa using h)]
   congr 1;omega
 | (none,o')::r,j,i,hu,h=>by
  simp only[zcr]
  cases i with
  | zero=>simp at h
  | succ i =>
   rw[zom (by simpa [srcs] using hu) (i:=i) (by simpa using h)]
   congr 1;omega
def z1ob : Value→Option Addr
 | .slice a _ _=>a
 | _=>none
def zo5 (s:S U) : List Kind→Nat→List (A U)→List Value→List (Option Addr)
 | ks,j,x::al,v::vs=>match s.outA (ks.headD .d) j x with
  | some (_,e)=>e.map (fun _=>z1ob v)++zo5 s ks.tail (j+e.length) al vs
  | none=>[]
 | _,_,_,_=>[]
theorem z1u5 : ∀ {al rs:List (A U)} {vs:List Value} {es:List (Option Nat×Ob U)} {ks:List Kind} {j:Nat},s.outs ks j al=some (rs,es)→vs.length=al.length→(zo5 s ks j al vs).length=es.length
 | [],rs,vs,es,ks,j,h,hl=>by simp [S.outs] at h;obtain⟨rfl,rfl⟩:=h;cases vs<;>rfl
 | x::al,rs,[],es,ks,j,h,hl=>by simp at hl
 | x::al,rs,v::vs,es,ks,j,h,hl=>by
  simp only[S.outs] at h
  split at h
  ·rename_i r e h1
   split at h
   ·rename_i rs' es' h2
    simp at h;obtain⟨rfl,rfl⟩:=h
    simp only[zo5,h1,List.length_append,List.length_map,z1u5 h2 (show vs.length=al.length by simpa using hl)]
   ·simp at h
  ·simp at h
theorem z1oc {E:Enc U} {s1:S U} {gr:G} {ob:List (Option (Ob U))} (hs1:Sim P E fr g s1 a w) (hf:FrzLe s.ob s1.ob) (hk:Keeps g.St w gr.St w) {v:Value} {c c':C U} (hfz:∀ k∈c.obs,∀ o,s1.ob[k]? = some (some o)→o.fr=none)
  (hd:s.outD c=some c') (hc:CRel P E g s1.ob w v c) : CRel P E gr ob w v c':=by
 have hone:=hc.one
 cases c with
 | s x=>simp [S.outD] at hd;subst hd;exact hc
 | fv φ=>simp [S.outD] at hd;subst hd;exact FunRel.mono hk hc
 | sl τ xs f=>simp [S.outD,S.lst] at hd;subst hd;exact⟨hc.1.mono hk,by simp⟩
 | ob k ver =>
  simp only[S.outD,S.lst] at hd
  cases ho : s.obAt k ver with
  | none=>rw[ho] at hd;simp at hd;subst hd;exact hone
  | some o =>
   rw[ho] at hd;simp at hd;subst hd
   have:=hs1.frozenV (s0:=s) hf hfz (d:=.dat o.τ o.xs) (by simp only[S.toV,ho]) hc
   exact⟨this.mono hk,by simp⟩
 | _=>simp [S.outD,S.lst] at hd;subst hd;exact hone
theorem z1ja {E:Enc U} {s1:S U} {gr:G} {ob:List (Option (Ob U))} (hs1:Sim P E fr g s1 a w) (hf:FrzLe s.ob s1.ob) (hk:Keeps g.St w gr.St w) : ∀ {vs:List Value} {cs cs':List (C U)},(∀ k∈Cs.obs cs,∀ o,s1.ob[k]? = some (some o)→o.fr=none) →
  s.outDs cs=some cs'→All2 (CRel P E g s1.ob w) vs cs→All2 (CRel P E gr ob w) vs cs'
 | [],[],cs',_,hd,_=>by simp [S.outDs] at hd;subst hd;trivial
 | v::vs,c::cs,cs',hfz,hd,hc=>by
  simp only[S.outDs] at hd
  split at hd
  ·rename_i x xs h1 h2
   simp at hd;subst hd
   exact⟨z1oc hs1 hf hk (fun k hm=>hfz k (by simp [Cs.obs,hm])) h1 hc.1,z1ja hs1 hf hk (fun k hm=>hfz k (by simp [Cs.obs,hm])) h2 hc.2⟩
  ·simp at hd
theorem z1od (h:Sim P M.E fr g s a w) (nb:Nat) {fm:List Kind} {vs:List Value} {al rs:List (A U)} {os:List (Ob U)} (hall:All2 (ARel P M.E g s.ob w) vs al) (hout:s.out fm al=some (rs,os)) :
    rs.length=al.length∧∃ gr : G,(∀ k,gr.lb k↔k<nb∧g.lb k)∧(∀ k,g.lb k→gr.β k=g.β k)∧Keeps g.St w gr.St w∧(∀ b i x,gr.ω b i=some x→b<w.heap.size∧(fr.w0.heap.size≤b∨fr.own b i∨(x=.st∧fr.st b i))) ∧
      (∀ k fz cells i,k<nb→s.bx[k]? = some (some (fz,cells))→i<cells.length→(fz=false→gr.ω (g.β k) i=some (.box k))∧(fz=true→gr.St (g.β k) i)) ∧
      (∀ b i k,gr.ω b i=some (.box k)→k<nb) ∧
      All2 (ARel P M.E gr (os.map some) w) vs rs∧∀ k o,os[k]? = some o→ObRel M.E gr w k o∧o.ver=0:=by
  unfold S.out at hout
  split at hout
  · rename_i rs' es houts
    split at hout
    · rename_i hchk
      simp at hout;obtain⟨rfl,rfl⟩:=hout
      simp only[Bool.and_eq_true,Bool.not_eq_true'] at hchk
      obtain⟨hul,hmt⟩:=hchk
      obtain⟨g1,hs1,hg1,hf1,hfz⟩:=Sim.frzs (z82 fm al) (s0:=s) rfl h (FrzLe.refl _)
      generalize hsob : sets s.ob (s.frz (z82 fm al))=ob1 at hs1 hg1 hf1 hfz
      have hvl:=hall.length
      have hlr:rs'.length=al.length:=by
        have : ∀ {al rs:List (A U)} {es:List (Option Nat×Ob U)} {ks:List Kind} {j:Nat},s.outs ks j al=some (rs,es)→rs.length=al.length:=by
          intro al
          induction al with
          | nil=>intro rs es ks j h;simp [S.outs] at h;rw[h.1]
          | cons x al ih =>
            intro rs es ks j h
            simp only[S.outs] at h
            split at h
            · split at h
              · rename_i h2;simp at h;rw[← h.1];simp [ih h2]
              · simp at h
            · simp at h
        exact this houts
      generalize had : zo5 s fm 0 al vs=ad
      have hadl:ad.length=es.length:=by rw[← had];exact z1u5 houts hvl
      let gr : G := { β := g1.β, lb := fun k => k < nb ∧ g1.lb k,
                      ω:=fun b i=>match g1.ω b i with | some .st=>some .st | some (.obj k)=>(zcr k es 0).map Own.obj | some (.box k)=>if k<nb then some (.box k) else none | none=>none,
                      tk:=fun j=>match es[j]? with | some (some k,_)=>g1.tk k | _=>(ad.getD j none,0) }
      have hst:∀ b i,g1.St b i→gr.St b i:=fun b i hh=>by show (match g1.ω b i with | some .st=>some Own.st | some (.obj k)=>_ | some (.box k)=>_ | none=>none)=_;rw[show g1.ω b i=some .st from hh]
      have hkeep:Keeps g1.St w gr.St w:=fun b i hh=>⟨hst b i hh,rfl⟩
      have hobj:∀ b i k j o,es[j]? = some (some k,o)→g1.ω b i=some (.obj k)→gr.ω b i=some (.obj j):=fun b i k j o he hh=>by
        show (match g1.ω b i with | some .st=>some Own.st | some (.obj k)=>_ | some (.box k)=>_ | none=>none)=_
        rw[hh];simp only[zom (j:=0) hul he,Nat.zero_add];rfl
      have htk:∀ j k o,es[j]? = some (some k,o)→gr.tk j=g1.tk k:=fun j k o he=>by show (match es[j]? with | some (some k,_)=>_ | _=>_)=_;rw[he]
      have htn:∀ j o,es[j]? = some (none,o)→gr.tk j=(ad.getD j none,0):=fun j o he=>by show (match es[j]? with | some (some k,_)=>_ | _=>_)=_;rw[he]
      have hgetos:∀ j x o,es[j]? = some (x,o)→((es.map (·.2)).map some)[j]? = some (some o):=fun j x o he=>by rw[List.getElem?_map,List.getElem?_map,he];rfl
      have hall1:All2 (ARel P M.E g1 ob1 w) vs al:=hall.imp fun _ _=>ARel.mono hg1
      have key:∀ (al':List (A U)) (vs':List Value) (rs1:List (A U)) (es':List (Option Nat×Ob U)) (ks:List Kind) (j:Nat) (pre:List (Option Nat×Ob U)) (apre:List (Option Addr)),
          s.outs ks j al'=some (rs1,es')→All2 (ARel P M.E g1 ob1 w) vs' al'→es=pre++es'→j=pre.length→ad=apre++zo5 s ks j al' vs'→apre.length=pre.length →
          (∀ q∈z82 ks al',q∈z82 fm al)→(∀ q∈z106 ks al',q ∉ z82 fm al) →
          All2 (ARel P M.E gr ((es.map (·.2)).map some) w) vs' rs1∧∀ (i:Nat) x o,es'[i]? = some (x,o)→ObRel M.E gr w (j+i) o∧o.ver=0:=by
        intro al'
        induction al' with
        | nil =>
          intro vs' rs1 es' ks j pre apre ho hvs _ _ _ _ _ _
          simp [S.outs] at ho;obtain⟨rfl,rfl⟩:=ho
          refine⟨?_,fun i x o hi=>by simp at hi⟩
          cases vs' with
          | nil=>trivial
          | cons _ _=>exact hvs.elim
        | cons x al' ih =>
          intro vs' rs1 es' ks j pre apre ho hvs hes hj hadd hapl hkin hown'
          cases vs' with
          | nil=>exact hvs.elim
          | cons u vs' =>
            simp only[S.outs] at ho
            split at ho
            · rename_i r e h1
              split at ho
              · rename_i rs2 es2 h2
                simp at ho;obtain⟨rfl,rfl⟩:=ho
                simp only[zo5,h1] at hadd
                obtain⟨i1,i2⟩:=ih vs' rs2 es2 ks.tail (j+e.length) (pre++e) (apre++e.map (fun _=>z1ob u)) h2 hvs.2 (by rw[hes];simp) (by simp [hj]) (by rw[hadd];simp) (by simp [hapl])
                  (fun q hq=>hkin q (by simp only[z82,List.mem_append];exact .inr hq)) (fun q hq=>hown' q (by simp only[z106,List.mem_append];exact .inr hq))
                have hfzk:∀ q∈z82 fm al,∀ o,ob1[q]? = some (some o)→o.fr=none:=fun q hq=>hfz q (.inl hq)
                have hone:ARel P M.E gr ((es.map (·.2)).map some) w u r∧∀ (i:Nat) x o,e[i]? = some (x,o)→ObRel M.E gr w (j+i) o∧o.ver=0:=by
                  have hu:=hvs.1
                  have hese:∀ (i:Nat),i<e.length→es[j+i]? = e[i]?:=fun i hi=>by
                    rw[hes,hj,List.getElem?_append_right (Nat.le_add_right _ _),show pre.length+i - pre.length=i from by omega,List.getElem?_append_left hi]
                  have hade:∀ (i:Nat),i<e.length→ad.getD (j+i) none=z1ob u:=fun i hi=>by
                    rw[hadd,hj,List.getD_eq_getElem?_getD,List.getElem?_append_right (by omega),show pre.length+i - apre.length=i from by omega,List.getElem?_append_left (by simpa using hi),List.getElem?_map,List.getElem?_eq_getElem hi];rfl
                  have nilcase:∀ (τ:U.Ty) (fr0:Option Nat),(fr0=none∨fr0=some 0)→x=.c (.sl τ [] true)→r=.c (.ob j 0)→e=[(none,⟨0,τ,[],fr0,true⟩)]→ARel P M.E gr ((es.map (·.2)).map some) w u r∧∀ (i:Nat) x o,e[i]? = some (x,o)→ObRel M.E gr w (j+i) o∧o.ver=0:=by
                    rintro τ fr0 hfr0 rfl rfl rfl
                    have he0:=hese 0 (by simp)
                    simp only[Nat.add_zero,List.getElem?_cons_zero] at he0
                    obtain⟨hV,hfull⟩ : CRel P M.E g1 ob1 w u (.sl τ [] true):=hu
                    obtain⟨p0,n,rfl⟩:=hfull rfl
                    have hn0:n=0:=by rcases hV.inv with ⟨_,_,_,e⟩ | ⟨_,_,_,_,e,_⟩<;>(simp at e;first | exact e.2.1 | exact e.2.1)
                    subst hn0
                    have ht:=htn j _ he0
                    have had0:=hade 0 (by simp)
                    rw[Nat.add_zero] at had0
                    rw[had0] at ht
                    refine⟨⟨rfl,_,hgetos j _ _ he0,Nat.le_refl _,fun _=>by rw[ht];rfl⟩,fun i x o hi=>?_⟩
                    cases i with
                    | zero =>
                      simp at hi;obtain⟨rfl,rfl⟩:=hi
                      refine⟨⟨⟨⟨Nat.zero_le _,Nat.zero_le _⟩,fun f hf=>by rcases hfr0 with rfl | rfl<;>simp at hf;subst hf;exact Nat.le_refl _⟩,fun hc=>?_⟩,rfl⟩
                      rw[Nat.add_zero,ht] at hc;simp at hc
                    | succ i=>simp at hi
                  have obcase:∀ (k ver:Nat) (o:Ob U) (fr0:Option Nat),x=.c (.ob k ver)→s.obAt k ver=some o→o.live=true→r=.c (.ob j 0)→e=[(some k,⟨0,o.τ,o.xs,fr0,true⟩)]→(∃ o',ob1[k]? = some (some o')∧o'.fr=fr0∧(o'=o∨o'=({ o with fr:=none } : Ob U))) →
                      ARel P M.E gr ((es.map (·.2)).map some) w u r∧∀ (i:Nat) x o,e[i]? = some (x,o)→ObRel M.E gr w (j+i) o∧o.ver=0:=by
                    rintro k ver o fr0 rfl ho hlive rfl rfl ⟨o',ho',hfr',hor⟩
                    have he0:=hese 0 (by simp)
                    simp only[Nat.add_zero,List.getElem?_cons_zero] at he0
                    obtain⟨j1,j2⟩:=z7c ho
                    obtain⟨c1,o2,c2,c3,c4⟩ : CRel P M.E g1 ob1 w u (.ob k ver):=hu
                    rw[ho'] at c2;simp at c2;subst c2
                    have hxs:o'.ver=o.ver∧o'.τ=o.τ∧o'.live=true:=by rcases hor with rfl | rfl<;>exact⟨rfl,rfl,hlive⟩
                    have ht:=htk j k _ he0
                    have hoR:ObRel M.E g1 w k o':=hs1.obs k o' ho'
                    have hval:=c4 (by omega)
                    have hnew:ObRel M.E gr w j (⟨0,o.τ,o.xs,fr0,true⟩ : Ob U):=by
                      have hh:ObRel M.E gr w j (⟨0,o'.τ,o'.xs,o'.fr,o'.live⟩ : Ob U):=by
                        obtain⟨⟨q1,q2⟩,q3⟩:=hoR
                        refine⟨⟨by rw[ht];exact q1,q2⟩,fun hcap=>?_⟩
                        rw[ht] at hcap ⊢
                        obtain⟨b,off,cv,eb,hA⟩:=q3 hcap
                        refine⟨b,off,cv,eb,⟨fun i1 j1 hi hj1=>?_,fun i1 hi j1 d hd=>(hA.rel i1 hi j1 d hd).mono hkeep,fun hl x hx hx'=>?_⟩⟩
                        · obtain⟨d1,d2⟩:=hA.cell i1 j1 hi hj1
                          refine⟨d1,?_⟩
                          unfold Mode at d2 ⊢
                          show match o'.fr with | none=>_ | some f=>_
                          split at d2
                          · rename_i hf;simp only[hf];exact hst _ _ d2
                          · rename_i f hf
                            simp only[hf]
                            exact⟨fun hh=>hst _ _ (d2.1 hh),fun hh=>⟨hobj _ _ _ _ _ he0 (d2.2 hh).1,(d2.2 hh).2⟩⟩
                        · obtain⟨d1,d2,d3⟩:=hA.spare hl x hx hx'
                          exact⟨hobj _ _ _ _ _ he0 d1,d2,d3⟩
                      rw[hfr'] at hh
                      rcases hor with rfl | rfl
                      · rw[hlive] at hh;exact hh
                      · have hl2:({ o with fr:=none } : Ob U).live=true:=hlive
                        rw[hl2] at hh;exact hh
                    refine⟨⟨c1,_,hgetos j _ _ he0,Nat.le_refl _,fun _=>?_⟩,fun i x o1 hi=>?_⟩
                    · rw[ht,hval]
                      rcases hor with rfl | rfl<;>rfl
                    · cases i with
                      | zero=>simp at hi;obtain⟨rfl,rfl⟩:=hi;exact⟨hnew,rfl⟩
                      | succ i=>simp at hi
                  have hkk:∀ k ver,x=.c (.ob k ver)→ks.headD .d≠.m→k∈z82 fm al:=fun k ver hx hm=>hkin k (by
                    subst hx
                    simp only[z82,List.mem_append];left
                    cases hh : ks.headD .d with
                    | m=>exact (hm hh).elim
                    | d=>simp [A.obs,C.obs]
                    | o=>simp [A.obs,C.obs])
                  unfold S.outA at h1
                  split at h1
                  · rename_i c hkind
                    split at h1
                    · rename_i y hy
                      simp at h1;obtain⟨rfl,rfl⟩:=h1
                      refine⟨z1oc hs1 hf1 hkeep (fun k hm=>hfzk k (hkin k ?_)) hy hu,fun i x o hi=>by simp at hi⟩
                      simp only[z82,hkind,List.mem_append];exact .inl hm
                    · simp at h1
                  · rename_i cs hkind
                    split at h1
                    · rename_i ys hy
                      simp at h1;obtain⟨rfl,rfl⟩:=h1
                      obtain⟨arr,ea,hu2⟩:=hu
                      refine⟨⟨arr,ea,z1ja hs1 hf1 hkeep (fun k hm=>hfzk k (hkin k ?_)) hy hu2⟩,fun i x o hi=>by simp at hi⟩
                      simp only[z82,hkind,List.mem_append];exact .inl hm
                    · simp at h1
                  · rename_i τ hkind
                    simp at h1;obtain⟨rfl,rfl⟩:=h1
                    exact nilcase τ none (.inl rfl) rfl rfl rfl
                  · rename_i k ver hkind
                    split at h1
                    · rename_i o ho
                      split at h1
                      · rename_i hlive
                        simp at h1;obtain⟨rfl,rfl⟩:=h1
                        have hin:=hkk k ver rfl (by rw[hkind];simp)
                        obtain⟨o',ho',hor⟩:=(hf1 k).1 o (z7c ho).1
                        exact obcase k ver o none rfl ho hlive rfl rfl ⟨o',ho',hfzk k hin o' ho',hor⟩
                      · simp at h1
                    · simp at h1
                  · rename_i τ hkind
                    simp at h1;obtain⟨rfl,rfl⟩:=h1
                    exact nilcase τ (some 0) (.inr rfl) rfl rfl rfl
                  · rename_i k ver hkind
                    split at h1
                    · rename_i o ho
                      split at h1
                      · rename_i hlive hfr
                        simp at h1;obtain⟨rfl,rfl⟩:=h1
                        have hnk:k ∉ z82 fm al:=hown' k (by simp only[z106,hkind,List.mem_append];left;simp [A.obs,C.obs])
                        refine obcase k ver o (some 0) rfl ho hlive rfl rfl ⟨o,?_,hfr,.inl rfl⟩
                        rw[← hsob,zi9 hnk];exact (z7c ho).1
                      · simp at h1
                    · simp at h1
                  · simp at h1
                refine⟨⟨hone.1,i1⟩,fun i y o hi=>?_⟩
                rcases Nat.lt_or_ge i e.length with hlt | hge
                · rw[List.getElem?_append_left hlt] at hi;exact hone.2 i y o hi
                · rw[List.getElem?_append_right hge] at hi
                  have:=i2 (i - e.length) y o hi
                  rw[show j+e.length+(i - e.length)=j+i from by omega] at this
                  exact this
              · simp at ho
            · simp at ho
      obtain⟨k1,k2⟩:=key al vs rs' es fm 0 [] [] houts hall1 rfl rfl (by rw[had];rfl) rfl (fun q hq=>hq) (fun q hq=>z50 hmt q hq)
      refine⟨hlr,gr,fun k=>⟨fun hh=>⟨hh.1,?_⟩,fun hh=>⟨hh.1,(hg1.lb k hh.2).1⟩⟩,fun k hl=>(hg1.lb k hl).2,fun b i hh=>⟨hst b i (hg1.st b i hh).1,rfl⟩,fun b o x hx=>?_,fun k fz cells i hk hbx hi=>?_,fun b o k hx=>?_,k1,fun k o hk=>?_⟩
      · obtain⟨c,hc⟩:=hs1.lbs k hh.2
        exact (h.bxs k c.1 c.2 hc).1
      · have hx':(match g1.ω b o with | some .st=>some Own.st | some (.obj k)=>(zcr k es 0).map Own.obj | some (.box k)=>if k<nb then some (.box k) else none | none=>none)=some x:=hx
        cases hw : g1.ω b o with
        | none=>rw[hw] at hx';simp at hx'
        | some y =>
          refine⟨(hs1.own b o y hw).1,?_⟩
          rcases (hs1.own b o y hw).2 with h1 | h1 | ⟨h1,h2⟩
          · exact .inl h1
          · exact .inr (.inl h1)
          · subst h1
            rw[hw] at hx';simp at hx';subst hx'
            exact .inr (.inr ⟨rfl,h2⟩)
      · obtain⟨hl,vs',hvs',hcell⟩:=hs1.bxs k fz cells hbx
        have hgl:=(h.bxs k fz cells hbx).1
        have hil:i<vs'.length:=by rw[hvs'.length];exact hi
        obtain⟨c1,c2,c3⟩:=hcell i _ (List.getElem?_eq_getElem hil)
        rw[(hg1.lb k hgl).2] at c2 c3
        refine⟨fun hf=>?_,fun hf=>hst _ _ (c3 hf)⟩
        show (match g1.ω (g.β k) i with | some .st=>some Own.st | some (.obj k)=>(zcr k es 0).map Own.obj | some (.box k)=>if k<nb then some (.box k) else none | none=>none)=_
        rw[(c2 hf).2];simp [hk]
      · have hx':(match g1.ω b o with | some .st=>some Own.st | some (.obj k)=>(zcr k es 0).map Own.obj | some (.box k)=>if k<nb then some (.box k) else none | none=>none)=some (.box k):=hx
        cases hw : g1.ω b o with
        | none=>rw[hw] at hx';simp at hx'
        | some y =>
          rw[hw] at hx'
          cases y with
          | st=>simp at hx'
          | obj q=>dsimp only at hx';cases hp : zcr q es 0<;>rw[hp] at hx'<;>simp at hx'
          | box q =>
            dsimp only at hx'
            split at hx'
            · simp at hx';subst hx';assumption
            · simp at hx'
      · rw[List.getElem?_map] at hk
        cases he : es[k]? with
        | none=>rw[he] at hk;simp at hk
        | some y =>
          obtain⟨y1,y2⟩:=y
          rw[he] at hk;simp at hk;subst hk
          have:=k2 k y1 y2 he
          rw[Nat.zero_add] at this
          exact this
    · simp at hout
  · simp at hout
theorem z1u6 {R:Value→A U→Prop} {v:Value} {al:List (A U)} (hv:RetRel R v al) : ∃ vs : List Value,All2 R vs al∧∀ {R':Value→A U→Prop} {ys:List (A U)},ys.length=al.length→All2 R' vs ys→RetRel R' v ys:=by
 match al,hv with
 | [],hv =>
  obtain⟨arr,e,h2⟩:=hv
  refine⟨arr.toList,h2,fun {R ys} hl h3=>?_⟩
  have : ys=[]:=List.eq_nil_of_length_eq_zero (by simpa using hl)
  subst this;exact⟨arr,e,h3⟩
 | [x],hv =>
  refine⟨[v],⟨hv,trivial⟩,fun {R ys} hl h3=>?_⟩
  match ys,hl,h3 with
  | [y],_,h3=>exact h3.1
 | x::y::l,hv =>
  obtain⟨arr,e,h2⟩:=hv
  refine⟨arr.toList,h2,fun {R ys} hl h3=>?_⟩
  match ys,hl with
  | y1::y2::r,_=>exact⟨arr,e,h3⟩
theorem z1xw (h:Sim P M.E fr g s a w) (hown:∀ b o,¬ fr.own b o) {fm:List Kind} {v:Value} {al rs:List (A U)} {os:List (Ob U)} (hv:RetRel (ARel P M.E g s.ob w) v al) (hout:s.out fm al=some (rs,os)) : Ret P M.E fr.st fr.w0 w v rs os:=by
 obtain⟨vs,hall,hback⟩:=z1u6 hv
 obtain⟨hlr,gr,h1,h2,h3,h4,h5,h6,h7,h8⟩:=z1od h 0 hall hout
 have hext:Ext fr.w0 w:=⟨h.ext.os,h.ext.tape,h.ext.output,h.ext.size,fun i hi=>h.ext.block i hi (hown i)⟩
 refine⟨hext,gr,fun k hk=>by have:=(h1 k).1 hk;omega,fun b o x hb hx=>?_,fun b o x hx=>(h4 b o x hx).1,hback hlr h7,h8⟩
 rcases (h4 b o x hx).2 with hh | hh | hh
 ·omega
 ·exact (hown b o hh).elim
 ·exact hh
end Go.Proofs.YtjfpbchdcbhfgaaGreat.B
namespace Go.Proofs.YtjfpbchdcbhfgaaGreat.B
open Go Go.RowKit
variable {U:Uni} {P:Program} {M:Mc U}
def blks : List Value→List (D U)→List Nat
 | v::vs,.box _::r=>(match v with | .pointer (some a)=>a.block | _=>0)::blks vs r
 | _::vs,_::r=>blks vs r
 | _,_=>[]
theorem z24a {E:Enc U} {g:G} {ob:List (Option (Ob U))} {w:World} {St:Nat→Nat→Prop} (hk:Keeps St w g.St w) {v:Value} {d:DC U} (h:DCRel P E St w v d) : CRel P E g ob w v d.toC:=by
 cases d with
 | v x=>exact zlp rfl (VRel.mono h hk)
 | fn φ=>exact FunRel.mono hk h
theorem zwr {E:Enc U} {g:G} {ob:List (Option (Ob U))} {w:World} {St:Nat→Nat→Prop} (hk:Keeps St w g.St w) :
  ∀ {vs:List Value} {args:List (D U)} {k:Nat},All2 (DRel P E St w) vs args→(∀ i b,(blks vs args)[i]? = some b→g.lb (k+i)∧g.β (k+i)=b)→All2 (AVRel P E g ob w) vs (zwd k args)
 | [],[],k,_,_=>trivial
 | v::vs,d::r,k,h,hb=>by
  cases d with
  | d x=>exact⟨z1ax rfl (D0Rel.mono hk h.1),zwr hk h.2 (fun i b hi=>hb i b hi)⟩
  | fn φ=>exact⟨FunRel.mono hk h.1,zwr hk h.2 (fun i b hi=>hb i b hi)⟩
  | box cs =>
   obtain⟨b,e,_⟩:=h.1
   have h0:=hb 0 b (by simp [blks,e])
   rw[Nat.add_zero] at h0
   refine⟨⟨h0.1,by rw[h0.2];exact e⟩,zwr hk (k:=k+1) h.2 (fun i b hi=>?_)⟩
   have:=hb (i+1) b (by simpa [blks] using hi)
   rw[show k+1+i=k+(i+1) from by omega];exact this
theorem z1jb {E : Enc U} {w : World} {St : Nat → Nat → Prop} : ∀ {vs : List Value} {args : List (D U)}, All2 (DRel P E St w) vs args → (blks vs args).length = (z7i args).length ∧ ∀ (i : Nat) fz cells, (z7i args)[i]? = some (some (fz, cells)) → ∃ (b : Nat) (cs : List (DC U)), fz = true ∧ cells = cs.map DC.toC ∧ (blks vs args)[i]? = some b ∧
      ∀ (j:Nat) c,cs[j]? = some c→St b j∧∃ u,w.cell? ⟨b,j,none⟩=some u∧DCRel P E St w u c
  | [],[],_=>⟨rfl,fun i fz cells h=>by simp [z7i] at h⟩
  | v::vs,d::r,h=>by
    obtain⟨ih1,ih2⟩:=z1jb h.2
    cases d with
    | d x=>exact⟨ih1,ih2⟩
    | fn φ=>exact⟨ih1,ih2⟩
    | box cs =>
      obtain⟨b,e,hb⟩:=h.1
      refine⟨by simp [blks,z7i,ih1],fun i fz cells hi=>?_⟩
      cases i with
      | zero =>
        simp [z7i] at hi;obtain⟨rfl,rfl⟩:=hi
        exact⟨b,cs,rfl,rfl,by simp [blks,e],hb⟩
      | succ i=>exact ih2 i fz cells (by simpa [z7i] using hi)
open Classical in
theorem z1xx {E:Enc U} {n x:Nat} {w:World} (hld:Laid w) {St:Nat→Nat→Prop} {vs:List Value} {args:List (D U)} (hbd:∀ b o,St b o→b<w.heap.size) (hvs:All2 (DRel P E St w) vs args) :
  ∃ g,Sim P E ⟨w,fun _ _=>False,St,0,fun _=>0⟩ g (zg n x args) { tmps:=vs.toArray++Array.replicate (n - vs.toArray.size) undef,defers:=[] } w:=by
 obtain⟨hbl,hbx⟩:=z1jb hvs
 let g : G:={ β:=fun k=>(blks vs args).getD k 0,lb:=fun k=>k<(blks vs args).length,ω:=fun b o=>if St b o then some .st else none,tk:=fun _=>(none,0) }
 have hst:∀ b o,St b o↔g.St b o:=fun b o=>by
  show St b o↔(if St b o then some Own.st else none)=some .st
  by_cases h : St b o<;>simp [h]
 have hk:Keeps St w g.St w:=fun b o h=>⟨(hst b o).1 h,rfl⟩
 have hβ:∀ i b,(blks vs args)[i]? = some b→g.lb (0+i)∧g.β (0+i)=b:=fun i b hi=>by
  rw[Nat.zero_add]
  exact⟨(List.getElem?_eq_some_iff.1 hi).1,by show (blks vs args).getD i 0=b;rw[List.getD_eq_getElem?_getD,hi];rfl⟩
 have hlen:=hvs.length
 have hal:(zwd 0 args).length=args.length:=by
  have : ∀ (k:Nat) (l:List (D U)),(zwd k l).length=l.length:=by
   intro k l
   induction l generalizing k with
   | nil=>rfl
   | cons d r ih=>simp [zwd,ih]
  exact this 0 args
 refine⟨g,{ ext:=⟨rfl,rfl,rfl,Nat.le_refl _,fun _ _ _=>rfl,fun _ _ _ _=>rfl,fun _ _ _ _=>rfl,hld,hld.lt,fun _ _ _ h=>h⟩,tms:=?_,bxs:=?_,lbs:=?_,obs:=?_,own:=?_,dfr:=rfl,fix:=fun _ hk=>absurd hk (Nat.not_lt_zero _),bas:=Nat.zero_le _ }⟩
 ·show All2 _ (vs.toArray++Array.replicate (n - vs.toArray.size) undef).toList (zwd 0 args++List.replicate (n - args.length) (.one .top))
  have e:(vs.toArray++Array.replicate (n - vs.toArray.size) undef).toList=vs++List.replicate (n - vs.length) undef:=by simp
  rw[e,hlen]
  refine All2.append (zwr hk hvs hβ) ?_
  generalize n - args.length=m
  induction m with
  | zero=>trivial
  | succ m ih=>exact⟨trivial,ih⟩
 ·intro k fz cells hkk
  have hkk':(z7i args++List.replicate n (none:Option (Bool×List (C U))))[k]? = some (some (fz,cells)):=hkk
  rcases Nat.lt_or_ge k (z7i args).length with hlt | hge
  ·rw[List.getElem?_append_left hlt] at hkk'
   obtain⟨b,cs,rfl,rfl,hb,hc⟩:=hbx k fz cells hkk'
   obtain⟨hl,hβk⟩:=hβ k b hb
   rw[Nat.zero_add] at hl hβk
   refine⟨hl,(List.range cs.length).map (fun i=>(w.cell? ⟨b,i,none⟩).getD undef),?_,fun i v hv=>?_⟩
   ·refine All2.of_get (by simp) fun i v c hv hcc=>?_
    obtain⟨hi,rfl⟩:=zck hv
    rw[List.getElem?_map] at hcc
    cases hci : cs[i]? with
    | none=>rw[hci] at hcc;simp at hcc
    | some c0 =>
     rw[hci] at hcc;simp at hcc;subst hcc
     obtain⟨_,u,hu,hur⟩:=hc i c0 hci
     rw[hu];exact z24a hk hur
   ·obtain⟨hi,rfl⟩:=zck hv
    obtain⟨h1,u,hu,_⟩:=hc i _ (List.getElem?_eq_getElem hi)
    rw[hβk,hu]
    exact⟨rfl,by simp,fun _=>(hst b i).1 h1⟩
  ·rw[List.getElem?_append_right hge,List.getElem?_replicate] at hkk'
   split at hkk'<;>simp at hkk'
 ·intro k hl
  have hl':k<(z7i args).length:=by rw[← hbl];exact hl
  have : ∀ (l:List (D U)) (k:Nat),k<(z7i l).length→∃ c,(z7i l)[k]? = some (some c):=by
   intro l
   induction l with
   | nil=>intro k h;simp [z7i] at h
   | cons d r ih =>
    intro k h
    cases d with
    | d x=>exact ih k h
    | fn φ=>exact ih k h
    | box cs =>
     cases k with
     | zero=>exact⟨_,rfl⟩
     | succ k=>obtain⟨c,hc⟩:=ih k (by simpa [z7i] using h);exact⟨c,by simpa [z7i] using hc⟩
  obtain⟨c,hc⟩:=this args k hl'
  exact⟨c,by show (z7i args++_)[k]? = _;rw[List.getElem?_append_left hl'];exact hc⟩
 ·intro k o hko
  have hko':(List.replicate (4*((z7i args).length+n)+x) (none:Option (Ob U)))[k]? = some (some o):=hko
  rw[List.getElem?_replicate] at hko'
  split at hko'<;>simp at hko'
 ·intro b o y hy
  have hy':(if St b o then some Own.st else none)=some y:=hy
  split at hy'
  ·rename_i h;simp at hy';subst hy';exact⟨hbd b o h,.inr (.inr ⟨rfl,h⟩)⟩
  ·simp at hy'
inductive VWf (E:Enc U) : V U→Prop
 | s (x:Value) (h:oneC x=true) : VWf E (.s x)
 | dat (τ:U.Ty) (xs:List (U.Den τ)) (hl:xs.length≤9223372036854775807) (h2:∀ (i:Nat) (hi:i<xs.length) (j:Nat) (d:V U),(E.enc τ xs[i])[j]? = some d→VWf E d) : VWf E (.dat τ xs)
theorem VRel.wf {E:Enc U} {St:Nat→Nat→Prop} {w:World} {v:Value} {d:V U} (h:VRel E St w v d) : VWf E d:=by
 induction h with
 | s x h=>exact .s x h
 | nil τ a cap=>exact .dat τ [] (by simp) (fun i hi=>absurd hi (by simp))
 | dat τ xs b o cap cv hcap h1 h2 ih=>exact .dat τ xs hcap.2 ih
def D0Wf (E:Enc U) : D0 U→Prop
 | .v x=>VWf E x
 | .agg xs=>∀ x∈xs,VWf E x
def DCWf (E:Enc U) : DC U→Prop
 | .v x=>VWf E x
 | .fn _=>True
def DWf (E:Enc U) : D U→Prop
 | .d x=>D0Wf E x
 | .fn _=>True
 | .box cs=>∀ x∈cs,DCWf E x
theorem All2.mem {α β:Type} {R:α→β→Prop} {l:List α} {r:List β} (h:All2 R l r) (b:β) (hb:b∈r) : ∃ a,R a b:=by
 obtain⟨i,hi⟩:=List.getElem?_of_mem hb
 obtain⟨a,_,ha⟩:=h.get i hi
 exact⟨a,ha⟩
theorem D0Rel.wf {E:Enc U} {St:Nat→Nat→Prop} {w:World} {v:Value} {d:D0 U} (h:D0Rel E St w v d) : D0Wf E d:=by
 cases d with
 | v x=>exact VRel.wf h
 | agg xs=>obtain⟨arr,_,h2⟩:=h;exact fun x hx=>(h2.mem x hx).elim fun _ hh=>hh.wf
theorem DRel.wf {E:Enc U} {St:Nat→Nat→Prop} {w:World} {v:Value} {d:D U} (h:DRel P E St w v d) : DWf E d:=by
 cases d with
 | d x=>exact D0Rel.wf h
 | fn φ=>trivial
 | box cs =>
  obtain⟨b,_,h2⟩:=h
  intro x hx
  obtain⟨i,hi⟩:=List.getElem?_of_mem hx
  obtain⟨_,u,_,hu⟩:=h2 i x hi
  cases x with
  | v y=>exact VRel.wf hu
  | fn φ=>trivial
theorem z1sb (hT:TabOK P M) (hF:FnsOK P M) (hm:P.follows .mixedOrders=true) {f:FuncId} {fn:Func} {body:Code} (hf:P.funcs[f]? = some fn) (hb:fn.body=some body) (N:Nat→NS) (x:Nat) (fm:List Kind) {args:List (D U)} {rs:List (A U)} {os:List (Ob U)}
  (h0:(∀ a∈args,DWf M.E a)→awp M N body (zg fn.ntmps x args) (retQ M fn.results.toList fm fun rs' os'=>rs'=rs∧os'=os)) : Contract P M.E f args rs os:=by
 intro w St vs hbd hvs hld
 have h:=h0 fun a ha=>(hvs.mem a ha).elim fun _ hh=>hh.wf
 obtain⟨g,hs⟩:=z1xx (n:=fn.ntmps) (x:=x) hld hbd hvs
 refine calls_of_wp hf hb ?_
 refine zc2 hT hF hm N body (Q:=retQ M fn.results.toList fm fun rs' os'=>rs'=rs∧os'=os) ?_ hs h
 have fin:∀ s g a w',retK M fn.results.toList fm (fun rs' os'=>rs'=rs∧os'=os) s→Sim P M.E ⟨w,fun _ _=>False,St,0,fun _=>0⟩ g s a w'→a.defers=[]∧∃ v,(results fn a.tmps).run P w'=.ok v w'∧∃ v',Ending.returned v=.returned v'∧Ret P M.E St w w' v' rs os:=by
  intro s g a w' hq hs'
  unfold retK at hq
  split at hq
  ·rename_i al hal
   split at hq
   ·rename_i rs' os' hout
    obtain⟨rfl,rfl⟩:=hq
    obtain⟨v,hv,hvr⟩:=zy5 hT hs' hal
    have:=z1xw hs' (fun _ _ hh=>hh) hvr hout
    exact⟨hs'.dfr,v,hv,v,rfl,this⟩
   ·exact hq.elim
  ·exact hq.elim
 intro e s g a w' hq hs'
 cases e with
 | normal=>exact fin s g a w' hq hs'
 | ret=>exact fin s g a w' hq hs'
 | _=>exact hq.elim
theorem z1u7 {E:Enc U} {g:G} {ob:List (Option (Ob U))} {w:World} {v:Value} {d:D0 U} (h:ARel P E g ob w v d.toA) : D0Rel E g.St w v d:=by
 have hc:∀ {u:Value} {x:V U},CRel P E g ob w u (C.ofV x)→VRel E g.St w u x:=by
  intro u x hu
  cases x with
  | s y=>obtain⟨rfl,h⟩:=hu;exact .s _ h
  | dat τ xs=>exact hu.1
 cases d with
 | v x=>exact hc h
 | agg xs =>
  obtain⟨arr,e,h2⟩:=h
  refine⟨arr,e,?_⟩
  generalize arr.toList=us at h2
  induction xs generalizing us with
  | nil=>cases us with | nil=>trivial | cons _ _=>exact h2.elim
  | cons x xs ih =>
   cases us with
   | nil=>exact h2.elim
   | cons u us=>exact⟨hc h2.1,ih us h2.2⟩
theorem Contract.data {E:Enc U} {f:FuncId} {args:List (D U)} {ds:List (D0 U)} {ob:List Prop} (h:Contract P E f args (ds.map D0.toA) []) (hq:ob.length≠5:=by first | decide | simp) : zdu P E f args ob ds:=by
 intro w St vs hbd hvs hld
 refine Calls.mono (h w St vs hbd hvs hld) ?_
 rintro e w' ⟨v,rfl,hext,g,_,h2,h3,h4,_⟩
 refine⟨v,rfl,⟨hext,g.St,fun b o hb hs=>(h2 b o _ hb hs).2,fun b o hs=>h3 b o _ hs,?_⟩,fun h=>absurd h hq⟩
 have hall:∀ {us:List Value} {ds:List (D0 U)},All2 (ARel P E g (([] : List (Ob U)).map some) w') us (ds.map D0.toA)→All2 (D0Rel E g.St w') us ds:=by
  intro us ds
  induction ds generalizing us with
  | nil=>intro hu;cases us with | nil=>trivial | cons _ _=>exact hu.elim
  | cons d ds ih =>
   intro hu
   cases us with
   | nil=>exact hu.elim
   | cons u us=>exact⟨z1u7 hu.1,ih hu.2⟩
 match ds,h4 with
 | [],h4=>obtain⟨arr,e,hh⟩:=h4;exact⟨arr,e,hall (ds:=[]) hh⟩
 | [d],h4=>exact z1u7 h4
 | d::d'::r,h4=>obtain⟨arr,e,hh⟩:=h4;exact⟨arr,e,hall (ds:=d::d'::r) hh⟩
end Go.Proofs.YtjfpbchdcbhfgaaGreat.B
