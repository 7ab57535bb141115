/- Part 3 of the proof: BOps. -/
import Derived.Laws.MakeOwn
import Derived.ChangeKeysEq
import Derived.Laws.StructEq
import Derived.Test.YtjfpbchdcbhfgaaGreatNsy2
set_option linter.unusedVariables false
set_option linter.unusedSimpArgs false
set_option linter.defProp false
namespace Go.Proofs.YtjfpbchdcbhfgaaGreat
namespace B
open Go Go.RowKit Go.ChangeShapes Go.WideShapes
variable {U:Uni} {P:Program} {M:Mc U} {fr:Fr} {w:World} {g:G} {s:S U} {a:Act} {o:Oper}
theorem oneC_int{k n}:bH (.int k n)=true↔k.min≤n∧n≤k.max:=by simp[bH]
def Dx k n:bH (.int k<|k.wrap n)=true:=oneC_int.2<|wrap_within k n
def oneC_i64{n}:bH (.int .i64 n)=true↔-9223372036854775808≤n∧n≤9223372036854775807:=by
 rw[oneC_int];rfl
theorem oneC_str{b}:bH (.string b)=true↔b.size≤9223372036854775807:=by simp only[bH,decide_eq_true_eq];rfl
def co(P:Program)(o:Oper)(a:Act)(w:World)(post:Act→World→Prop):Prop:=∀Q,o.wp P a w post Q
def mi{v w' post}(h:(execOp a.eval o).run P w=.ok (.value v) w')(hp:post (a.put o.dst v) w'):co P o a w post:=by
 intro Q;unfold Oper.wp;rw[h];exact hp
def KL{w' post}(h:(execOp a.eval o).run P w=.ok .skip w')(hp:post (a.put o.dst undef) w'):co P o a w post:=by
 intro Q;unfold Oper.wp;rw[h];exact hp
def cu(P:Program)(M:Mc U)(fr:Fr)(s:S U)(o:Oper)(r:Res U)(a':Act)(w':World):Prop:=∃g',Sim P M.E fr g' (s.upd o.dst r) a' w'
def bN(h:Sim P M.E fr g s a w){v x ob}(hrun:(execOp a.eval o).run P w=.ok (.value v) w)(hv:AVRel P M.E g s.ob w v x):
 co P o a w (cu P M fr s o ⟨ob,x,[],[]⟩):=mi hrun ⟨g,h.put hv rfl rfl⟩
def cW{x}{r:Res U}(h:ok x=some r):r=⟨[],x,[],[]⟩:=by simp_all[ok]
def Dy{x}{r:Res U}(h:pK x=some r):∃y,x=some y∧r=⟨[],y,[],[]⟩:=by
 unfold pK at h;split at h
 ·exact⟨_,rfl,cW h⟩
 grind
def agz(hF:FnsOK P M){St f φ}(hf:M.fvs f=some φ):FunRel P M.E St w (.func (.func f) #[] #[]) φ:=by
 refine⟨f,#[],rfl,hF.fvb f φ hf,fun St' w' hk hb hld args ob rs hφ hob vs hvs=>?_⟩
 have hc:=hF.fvs f φ args ob rs hf hφ hob w' St' vs hb (by
  grind[All2,DRel,All2.map_right]) hld
 grind
theorem Sim.ev(hF:FnsOK P M)(h:Sim P M.E fr g s a w){x v}(hx:s.ev M x=some v):AVRel P M.E g s.ob w (a.eval x) v:=by
 cases x with
 |tmp t=>exact h.slot hx
 |const c=>
  simp only[S.ev]at hx
  cases c<;>simp only[Gt]at hx<;>first
   |(simp at hx;done)
   |(split at hx<;>first|(simp at hx;done)|(rename_i h1;simp at hx;subst hx;exact⟨rfl,h1⟩))
   |(simp at hx;subst hx;exact⟨rfl,rfl⟩)
 |global n=>grind[S.ev]
 |func f=>
  simp only[S.ev]at hx;split at hx
  ·rename_i φ hφ;simp at hx;subst hx;exact agz hF hφ
  ·simp at hx;subst hx;exact⟨rfl,by simp⟩
def agA{x}(h:Kl x=true):x=.const (.slice none 0 0):=by
 grind[Kl]
theorem Sim.evT(hF:FnsOK P M)(h:Sim P M.E fr g s a w){t x v}(hx:s.evT M t x=some v):AVRel P M.E g s.ob w (a.eval x) v:=by
 unfold S.evT at hx;split at hx
 ·rename_i hn;have:=agA hn;subst this;split at hx
  ·simp at hx;subst hx;exact⟨.nil _ _ _,fun _=>⟨_,_,rfl⟩⟩
  grind
 ·exact h.ev hF hx
theorem RU(hF:FnsOK P M)(h:Sim P M.E fr g s a w){x r}(ho:o.op=.move x∨o.op=.assign x)(he:pK (s.evT M o.type x)=some r):co P o a w (cu P M fr s o r):=by
 obtain⟨y,hy,rfl⟩:=Dy he;refine bN h (v:=a.eval x) ?_ (h.evT hF hy);rcases ho with ho|ho<;>simp[execOp,ho]
theorem agB(hF:FnsOK P M)(h:Sim P M.E fr g s a w){c x y}{r:Res U}(ho:o.op=.pick c x y){b}(hc:s.ev M c=some (.one<|.c<|.s<|.bool b))(he:pK (match b with|true=>s.evT M o.type x|false=>s.evT M o.type y)=some r):co P o a w (cu P M fr s o r):=by
 have hcv:a.eval c=.bool b:=(h.ev hF hc).1;obtain⟨z,hz,rfl⟩:=Dy he;cases b with
 |true=>exact bN h (v:=a.eval x) (by simp[execOp,ho,hcv,asBool])<|h.evT hF hz
 |false=>exact bN h (v:=a.eval y) (by simp[execOp,ho,hcv,asBool])<|h.evT hF hz
def Dz{E ob v x}{cs:List (C U)}(hc:x.cells=some cs)(h:AVRel P E g ob w v x):All2 (CRel P E g ob w) v.cells.toList cs:=by
 cases x with
 |one y=>
  cases y with
  |c z=>
   simp[AV.cells]at hc;subst hc;have h1:=CRel.one h;have:v.cells=#[v]:=by cases v<;>first|rfl|grind[bH]
   rw[this];exact⟨h,trivial⟩
  |agg zs=>simp[AV.cells]at hc;subst hc;obtain⟨arr,rfl,h2⟩:=h;exact h2
  |top=>grind[AV.cells]
 |tup al=>grind[AV.cells]
 |undef=>grind[AV.cells]
def KM{E ob vs cs agg}{x:AV U}(hm:pr agg cs=some x)(h:All2 (CRel P E g ob w) vs cs):
 (agg=true→AVRel P E g ob w (.agg vs.toArray) x)∧(agg=false→∃v,vs=[v]∧AVRel P E g ob w v x):=by
 cases agg with
 |true=>simp[pr]at hm;subst hm;exact⟨fun _=>⟨vs.toArray,rfl,by omega⟩,by simp⟩
 |false=>
  refine⟨by simp,fun _=>?_⟩
  match cs,vs,hm,h with
  |[c],[v],hm,h=>simp[pr]at hm;subst hm;exact⟨v,rfl,h.1⟩
  |[],_,hm,_=>grind[pr]
  |_::_::_,_,hm,_=>grind[pr]
  |[_],[],_,h=>exact h.elim
  |[_],_::_::_,_,h=>exact h.2.elim
theorem vB{t agg n}(h:jt P t agg n) w:(isAgg t).run P w=.ok agg w:=by
 obtain⟨d,i,h1,h2,_,_⟩:=h;unfold isAgg;rw[Sem.run_bind,run_underlying h1];cases d<;>simp_all[KA]
theorem run_sizeOf{t agg n}(h:jt P t agg n) w:(Go.sizeOf t).run P w=.ok n w:=by
 obtain⟨d,i,_,_,h3,h4⟩:=h;simp[Go.sizeOf,typeInfo,h3,h4]
theorem vC{t i}(h:P.info? t=some i) w:(Go.sizeOf t).run P w=.ok i.size w:=by
 simp[Go.sizeOf,typeInfo,h]
def RV{E ob τ}{xs:List (U.Den τ)}{i off n b o'}{cv:Nat→Nat→Value} hi(hlen:off+n≤U.sz τ)(h1:∀j,j<U.sz τ→w.cell? ⟨b,o'+i*U.sz τ+j,none⟩=some (cv i j))(h2:∀j d,(E.enc τ xs[i])[j]?=some d→VRel E g.St w (cv i j) d):
 ∃vs:List Value,vs.length=n∧(∀(j:Nat) v,vs[j]?=some v→w.cell? ⟨b,o'+i*U.sz τ+off+j,none⟩=some v)∧All2 (CRel P E g ob w) vs ((((E.enc τ<|xs.getD i<|U.dflt τ).drop off).take n).map C.ofV):=by
 have hx:xs.getD i (U.dflt τ)=xs[i]:=by grind
 rw[hx];have hel:=E.len τ xs[i];refine⟨(List.range n).map fun j=>cv i<|off+j,by simp,?_,?_⟩
 ·grind
 ·refine All2.of_get (by grind) ?_;intro j v d hv hd;obtain⟨hj,rfl⟩:=Qg hv;rw[dn,vn hj,mg]at hd;cases he:(E.enc τ xs[i])[off+j]? with
  |none=>grind
  |some e=>
   simp[he]at hd;subst hd;exact pP rfl<|h2 (off+j) e he
def Sim.cellsAt(h:Sim P M.E fr g s a w){p n cs pv}(hp:CRel P M.E g s.ob w pv p)(hc:s.at M p n=some cs):
 ∃b o vs,pv=.pointer (some ⟨b,o,none⟩)∧vs.length=n∧(∀(j:Nat) v,vs[j]?=some v→w.cell? ⟨b,o+j,none⟩=some v)∧All2 (CRel P M.E g s.ob w) vs cs:=by
 cases p with
 |bx k off=>
  obtain⟨hl,hp⟩:=hp;simp only[S.at]at hc;split at hc
  ·rename_i fz cells hk;split at hc
   ·simp at hc;subst hc;obtain⟨_,vs,h1,h2⟩:=h.bxs k fz cells hk;refine⟨g.β k,off,(vs.drop off).take n,hp,?_,?_,(h1.drop off).take n⟩
    ·have:=h1.length;grind
    grind
   grind
  grind
 |el τ xs i off=>
  obtain⟨hi,b,o',cap,hp,hr⟩:=hp;simp only[S.at]at hc;split at hc
  ·rename_i hlen;rcases hr.inv with⟨rfl,_⟩|⟨b',o'',cap',cv,hv',hcap,h1,h2⟩
   ·grind
   ·obtain⟨vs,i1,i2,i3⟩:=RV (P:=P) (ob:=s.ob) (E:=M.E) hi hlen (fun j hj=>(h1 i j hi hj).2)<|h2 i hi;grind
  grind
 |em k ver i off=>
  simp only[S.at]at hc;split at hc
  ·rename_i o' ho;split at hc
   ·rename_i hlen;obtain⟨h1,h2⟩:=gN ho;obtain⟨_,o2,h3,_,h5⟩:=hp;rw[h1]at h3;simp at h3;subst h3;obtain⟨hi,b,off',e,hv⟩:=h5 h2.symm;have hoR:=h.obs k o' h1;obtain⟨b2,off2,cv,e2,hA⟩:=hoR.2 (by have:=hoR.1.1;omega);obtain⟨vs,i1,i2,i3⟩:=RV (P:=P) (ob:=s.ob) (E:=M.E) (g:=g) hi hlen (fun j hj=>(hA.cell i j hi hj).1)<|hA.rel i hi;grind
   grind
  grind
 |_=>grind[S.at]
theorem agC(hT:TabOK P M)(hF:FnsOK P M)(h:Sim P M.E fr g s a w){t x r}(ho:o.op=.load t x)(he:aT M s o=some r):co P o a w (cu P M fr s o r):=by
 simp only[aT,ho]at he;split at he
 ·rename_i p hx;split at he
  ·rename_i agg n hsh;split at he
   ·rename_i cs hat;obtain⟨y,hm,rfl⟩:=Dy he;have hp:CRel P M.E g s.ob w (a.eval x) p:=h.ev hF hx;obtain⟨b,off,vs,e1,e2,e3,e4⟩:=h.cellsAt hp hat;have hshp:=(hT.ti t).1 agg n hsh;have hmk:=KM hm e4;cases agg with
    |true=>
     refine bN h (v:=.agg vs.toArray) ?_ (hmk.1 rfl);simp only[execOp,ho,e1,Instr.loadAt,Instr.sureAddr,loadVar,Sem.run_bind,Sem.run_pure,Result.andThen_ok,vB hshp,run_sizeOf hshp,if_true];rw[←e2,Qf w b off vs e3];rfl
    |false=>
     obtain⟨v,rfl,hv⟩:=hmk.2 rfl;refine bN h (v:=v) ?_ hv;have hc:=e3 0 v rfl;simp at hc;simp only[execOp,ho,e1,Instr.loadAt,Instr.sureAddr,loadVar,Sem.run_bind,Sem.run_pure,Result.andThen_ok,vB hshp,mf,if_false,run_load,hc]
   grind
  grind
 grind
def KN(s:S U) r:s.upd none r={s with bx:=aH s.bx r.bw,ob:=aH s.ob r.ow}:=rfl
theorem agD(hT:TabOK P M)(hF:FnsOK P M)(h:Sim P M.E fr g s a w){t x y r}(ho:o.op=.store t x y)(he:aT M s o=some r)(hob:∀p∈r.ob,p):co P o a w (cu P M fr s o r):=by
 simp only[aT,ho]at he;split at he
 ·rename_i p cs hx hy hd;split at he
  ·rename_i agg n hsh;split at he
   ·rename_i hl;cases hyv:s.evT M t y with
    |none=>grind
    |some yv=>
     simp[hyv]at hy;have hcs:=Dz hy<|h.evT hF hyv;have hp:CRel P M.E g s.ob w (a.eval x) p:=h.ev hF hx;have hshp:=(hT.ti t).1 agg n hsh;have hlen:=hcs.length;have hsz:(a.eval y).cells.size=n:=by grind
     have hone:∀v∈(a.eval y).cells.toList,bH v=true:=fun v hv=>by
      obtain⟨j,hj⟩:=j8 hv;obtain⟨c,_,hc⟩:=hcs.get' j hj;exact hc.one
     cases p with
     |bx k off=>
      simp only[kg]at he;split at he
      ·rename_i cells hk;split at he
       ·rename_i hfit;obtain⟨hlb,hxv⟩:=hp;obtain⟨_,vs0,i1,i2⟩:=h.bxs k false cells hk
        obtain⟨w',hrun,hst⟩:=Gu (P:=P) (a.eval y).cells.toList w (g.β k) off 0 hone (fun j hj=>by
         have hlt:off+0+j<vs0.length:=by rw[i1.length];omega
         simp_all)
        have hrunS:(execOp a.eval o).run P w=.ok .skip w':=by
         simp only[execOp,ho,hxv,Instr.storeAt,Instr.sureAddr,storeVar,Sem.run_bind,Sem.run_pure,Result.andThen_ok,run_sizeOf hshp,hsz,ne_eq,not_true,if_false,hrun]
        split at he
        ·simp only[y8]at he;subst he;refine KL (w':=w') hrunS ⟨g,?_⟩;rw[hd,KN];have:=h.store hk hfit hcs hst;exact this
        ·split at he
         ·rename_i vs hvs;simp only[y8]at he;subst he;obtain⟨g1,hs1,hg1,hf1,hfz⟩:=Sim.frzs (Cs.obs cs) (s0:=s) rfl h<|FrzLe.refl _;have hvr:=hs1.frozenVs (s0:=s) hf1 (fun q hq=>hfz q<|.inl hq) hvs<|hcs.imp fun _ _=>CRel.mono hg1;have hc1:=All2.map_right (R':=CRel P M.E g1 (aH s.ob<|s.frz<|Cs.obs cs) w) C.ofV (fun _ _ hh=>pP rfl hh) hvr;have hvl:(vs.map C.ofV).length=cs.length:=by rw[←hc1.length,hlen]
          refine KL (w':=w') hrunS ⟨g1,?_⟩;rw[hd,KN];have hβ:g1.β k=g.β k:=(hg1.lb k hlb).2;have hst1:Stored w w' (g1.β k) off (a.eval y).cells.toList:=by grind
          have:=hs1.store (k:=k) hk (by omega) hc1 hst1;rw[hvl]at this;exact this
         grind
       grind
      grind
     |em k ver i off=>
      simp only[kg]at he;split at he
      ·rename_i o' vs ho' hvs;split at he
       ·rename_i f hfr;split at he
        ·rename_i hfit;split at he
         ·rename_i z hz;simp at he;subst he;have hfi:f≤i:=hob _<|yl.2 rfl;obtain⟨h1,h2⟩:=gN ho';obtain⟨_,o2,h3,_,h5⟩:=hp;rw[h1]at h3;simp at h3;subst h3;obtain⟨hi,b,off',e,hv⟩:=h5 h2.symm;obtain⟨g1,hs1,hg1,hf1,hfz⟩:=Sim.frzs (Cs.obs cs) (s0:=s) rfl h<|FrzLe.refl _;have hk1:(aH s.ob<|s.frz<|Cs.obs cs)[k]?=some (some o'):=by
           have hnk:∀(ks:List Nat)(l:List (Option<|Ob U)),k ∉ks→(aH l<|s.frz ks)[k]?=l[k]?:=by
            intro ks
            induction ks with
            |nil=>intro l _;rfl
            |cons q ks ih=>
             simp only[S.frz];split
             ·simp_all[aH,dP,Ne.symm]
             grind
           grind
          have hvr:=hs1.frozenVs (s0:=s) hf1 (fun q hq=>hfz q<|.inl hq) hvs<|hcs.imp fun _ _=>CRel.mono hg1;have htk1:(g1.tk k).1=some ⟨b,off',none⟩:=by
           obtain⟨o3,j1,j2,j3⟩:=hg1.ob k o' h1;grind
          have hoR:=hs1.obs k o' hk1;obtain⟨b2,off2,cv,e2,hA⟩:=hoR.2 (by have:=hoR.1.1;omega);have hul:=hvr.length
          obtain⟨w',hrun,hst⟩:=Gu (P:=P) (a.eval y).cells.toList w b (off'+i*U.sz o'.τ+off) 0 hone (fun j hj=>by
           obtain⟨c1,c2⟩:=hA.cell i (off+j) hi<|by omega
           grind[eu])
          refine KL (w':=w') ?_ ⟨g1,?_⟩
          ·simp only[execOp,ho,hv,Instr.storeAt,Instr.sureAddr,storeVar,Sem.run_bind,Sem.run_pure,Result.andThen_ok,run_sizeOf hshp,hsz,ne_eq,not_true,if_false,hrun]
          ·rw[hd,KN];have hgetD:o'.xs.getD i (U.dflt o'.τ)=o'.xs[i]:=by grind
           rw[hgetD]at hz;have:=hs1.storeObj (k:=k) (i:=i) (off:=off) (y:=z) (vs:=vs) hk1 hfr hfi hi htk1 hst hfit.1 hvr<|M.E.back _ _ _ hz;rw[pR];exact this
         grind
        grind
       grind
      grind
     |_=>simp[kg]at he
   grind
  grind
 grind
def RW(h:Sim P M.E fr g s a w){t}{d:Nat}{cs vs}(hd:o.dst=some d)(hk:s.bx[s.key d]?=some none)(hcs:All2 (CRel P M.E g s.ob w) vs.toList cs)(hrun:(execOp a.eval o).run P w=.ok (.value<|.pointer<|some ⟨w.heap.size,0,none⟩) (w.alloc<|.cells vs t)):
 co P o a w (cu P M fr s o ⟨[],.one<|.c<|.bx (s.key d) 0,[(s.key d,some (false,cs))],[]⟩):=by
 refine mi hrun ?_;obtain⟨g',h1,h2⟩:=h.newBox (k:=s.key d) t hk (P0 _ _) hcs;refine⟨g',?_⟩;exact Sim.put' (s':=s) (r:=⟨[],.one<|.c<|.bx (s.key d) 0,[(s.key d,some (false,cs))],[]⟩) h1 h2
theorem agE(hF:FnsOK P M)(h:Sim P M.E fr g s a w){t x r}(ho:o.op=.box t x)(he:aT M s o=some r):co P o a w (cu P M fr s o r):=by
 simp only[aT,ho]at he;split at he
 ·rename_i cs d hx hd;split at he
  ·rename_i hk;simp at he;subst he;cases hxv:s.evT M t x with
   |none=>grind
   |some xv=>
    simp[hxv]at hx;refine RW (t:=t) (vs:=(a.eval x).cells) h hd hk (Dz hx<|h.evT hF hxv) ?_;simp[execOp,ho,Instr.box,newVar,newRow]
  grind
 grind
theorem agF(hT:TabOK P M)(h:Sim P M.E fr g s a w){t r}(ho:o.op=.alloc t)(he:aT M s o=some r):co P o a w (cu P M fr s o r):=by
 simp only[aT,ho]at he;split at he
 ·rename_i cs d hx hd;split at he
  ·rename_i hk;simp at he;subst he;obtain⟨i,z,h1,h2,h3⟩:=hT.zero t cs hx;refine RW (t:=t) (vs:=z.cells) h hd hk (h3.imp fun _ _ hz=>hz _ _ _ _ _) ?_;simp[execOp,ho,Instr.alloc,newVar,newRow,zeroValue,typeInfo,h1,h2]
  grind
 grind
end B
namespace B
open Go Go.RowKit
variable {U:Uni} {P:Program} {M:Mc U} {fr:Fr} {w:World} {g:G} {s:S U} {a:Act} {o:Oper}
def agG{op x y v}{ob:List Prop}(h:yR op x y=some (ob,v))(hob:∀p∈ob,p) t xo yo w:
 (do eqGuard op t xo yo x y;binOp op t x y:Sem Value).run P w=.ok v w:=by
 unfold yR at h;split at h
 ·cases op with
  |shl=>
   obtain⟨rfl,rfl⟩:=h;have:=hob _<|yl.2 rfl;simp only[eqGuard,binOp,Op.shift,Sem.run_bind];simp[*]
  |shr=>
   obtain⟨rfl,rfl⟩:=h;have:=hob _<|yl.2 rfl;simp only[eqGuard,binOp,Op.shift,Sem.run_bind];simp[*]
  |quo=>
   simp at h;obtain⟨rfl,rfl,rfl⟩:=h;have:=hob _<|yl.2 rfl;simp[eqGuard,binOp,Op.intDiv,this]
  |rem=>
   simp at h;obtain⟨rfl,rfl,rfl⟩:=h;have:=hob _<|yl.2 rfl;simp[eqGuard,binOp,Op.intDiv,this]
  |add=>simp at h;obtain⟨rfl,rfl,rfl⟩:=h;simp[eqGuard,binOp,Op.intArith]
  |sub=>simp at h;obtain⟨rfl,rfl,rfl⟩:=h;simp[eqGuard,binOp,Op.intArith]
  |mul=>simp at h;obtain⟨rfl,rfl,rfl⟩:=h;simp[eqGuard,binOp,Op.intArith]
  |eql=>simp at h;obtain⟨rfl,rfl,rfl⟩:=h;simp[eqGuard,binOp,Op.intCmp]
  |neq=>simp at h;obtain⟨rfl,rfl,rfl⟩:=h;simp[eqGuard,binOp,Op.intCmp]
  |lss=>simp at h;obtain⟨rfl,rfl,rfl⟩:=h;simp[eqGuard,binOp,Op.intCmp]
  |leq=>simp at h;obtain⟨rfl,rfl,rfl⟩:=h;simp[eqGuard,binOp,Op.intCmp]
  |gtr=>simp at h;obtain⟨rfl,rfl,rfl⟩:=h;simp[eqGuard,binOp,Op.intCmp]
  |geq=>simp at h;obtain⟨rfl,rfl,rfl⟩:=h;simp[eqGuard,binOp,Op.intCmp]
  |and=>simp at h;obtain⟨rfl,rfl,rfl⟩:=h;simp[eqGuard,binOp,Op.intBits]
  |or=>simp at h;obtain⟨rfl,rfl,rfl⟩:=h;simp[eqGuard,binOp,Op.intBits]
  |andNot=>simp at h;obtain⟨rfl,rfl,rfl⟩:=h;simp[eqGuard,binOp,Op.intBits]
  |xor=>simp at h;obtain⟨rfl,rfl,rfl⟩:=h;simp[eqGuard,binOp,Op.intBits]
 ·rename_i x y
  cases op<;>first
   |(simp at h;done)
   |(obtain⟨rfl,rfl⟩:=h;have hb:x.size+y.size≤9223372036854775807:=hob _<|yl.2 rfl;simp[eqGuard,binOp,Op.stringOp];omega)
   |(obtain⟨rfl,rfl⟩:=h;simp[eqGuard,binOp,Op.stringOp])
 grind
theorem agH{a n}{lo hi:Int}(h1:lo≤a)(h2:a≤hi)(h3:lo≤0)(h4:0≤hi):lo≤a.fdiv (2 ^n)∧a.fdiv (2 ^n)≤hi:=by
 have hp:(0:Int)<2 ^n:=Int.pow_pos (by simp);rw[y4g _ (Int.le_of_lt hp)];rcases Int.lt_or_le a 0 with h|h
 ·refine⟨?_,?_⟩
  ·have h5:a≤a/2 ^n:=by
    rw[Int.le_ediv_iff_mul_le hp];have:a*2 ^n≤a*1:=Int.mul_le_mul_of_nonpos_left (by omega) (by omega);omega
   omega
  ·have:a/2 ^n<0:=Int.ediv_neg_of_neg_of_pos h hp;omega
 ·have h5:0≤a/2 ^n:=Int.ediv_nonneg h (Int.le_of_lt hp);have h6:a/2 ^n≤a:=Int.ediv_le_self _ h;omega
theorem KO(k:IntKind):k.min≤0∧0≤k.max:=by cases k<;>decide
def agI{a b lo hi:Int}(h1:lo≤a)(h2:a≤hi)(h3:lo≤0)(h4:0≤hi):lo≤a.tmod b∧a.tmod b≤hi:=by
 rcases Int.le_total 0 a with h|h
 ·have h5:=Int.tmod_nonneg b h;have h6:a.tmod b≤a:=by
   have:a.tmod b=((a.natAbs % b.natAbs:Nat):Int):=by rw[←Int.natAbs_tmod];omega
   have h7:=Nat.mod_le a.natAbs b.natAbs;omega
  omega
 ·have e:a.tmod b=-((-a).tmod b):=by simp
  have h0:0≤-a:=by omega
  have h5:=Int.tmod_nonneg b h0;have h6:(-a).tmod b≤-a:=by
   have:(-a).tmod b=(((-a).natAbs % b.natAbs:Nat):Int):=by rw[←Int.natAbs_tmod];omega
   have h7:=Nat.mod_le (-a).natAbs b.natAbs;omega
  omega
def agJ{op x y v ob}(hb:yR op x y=some (ob,v))(hob:∀p∈ob,p)(hx:bH x=true)(hy:bH y=true):bH v=true:=by
 unfold yR at hb;split at hb
 ·have h1:=oneC_int.1 hx
  cases op<;>simp at hb<;>first
   |(obtain⟨_,_,rfl⟩:=hb;exact Dx _ _)
   |(exact Dx _ _)
   |(obtain⟨_,_,rfl⟩:=hb;rfl)
   |(rfl)
   |(obtain⟨_,_,rfl⟩:=hb;exact oneC_int.2<|agI h1.1 h1.2 (KO _).1 (KO _).2)
   |(grind[oneC_int,agH,KO])
 ·cases op<;>simp at hb<;>first|(obtain⟨_,_,rfl⟩:=hb;rfl)|(rfl)|(obtain⟨rfl,rfl⟩:=hb;have h3:=hob _<|yl.2 rfl;simp_all[oneC_str,ByteArray.size_append])
 grind
def RX d{t}(ht:P.underlying t=some .bool) x y w:(Op.equalIn (d+1) t (.bool x)<|.bool y).run P w=.ok (x==y) w:=by
 simp[Op.equalIn,run_underlying ht]
theorem RY{t}(ht:P.underlying t=some .bool) x y w:(Op.equal t (.bool x)<|.bool y).run P w=.ok (x==y) w:=by
 exact RX 9999 ht x y w
def DA{e}{k:EK}(he:P.underlying e=some k.desc){xs off v}(hx:xs[off]?=some v) w:(part e xs off).run P w=.ok v w:=by
 cases k<;>simp[part,isAgg,run_underlying he,EK.desc,hx]
def RZ{k es c d xs ys r}(h:d8 (k::es) (c::xs) (d::ys)=some r){g ob w w' u v}(hc:CRel P M.E g ob w' u c)(hd:CRel P M.E g ob w' v d){e}(he:P.underlying e=some k.desc) n:∃b r',(Op.equalIn (n+1) e u v).run P w=.ok b w∧d8 es xs ys=some r'∧r=(b&&r'):=by
 have fin:∀{b r':Bool},d8 es xs ys=some r'→nw es b r'=(b&&r'):=by
  grind[d8,nw]
 unfold d8 at h;split at h
 ·grind
 ·rename_i k0 es0 k1 a xs0 k2 b ys0 e1 e2 e3;obtain⟨rfl,rfl⟩:=e1;obtain⟨rfl,rfl⟩:=e2;obtain⟨rfl,rfl⟩:=e3;split at h
  ·rename_i h1 h2 r' _ _ hr;subst h1;subst h2;obtain rfl:=hc.1;obtain rfl:=hd.1;exact⟨a==b,r',run_equalIn_int w n e _ _ a b he,hr,by grind⟩
  grind
 ·rename_i es0 a xs0 b ys0 e1 e2 e3;obtain⟨rfl,rfl⟩:=e1;obtain⟨rfl,rfl⟩:=e2;obtain⟨rfl,rfl⟩:=e3;split at h
  ·rename_i r' hr;obtain rfl:=hc.1;obtain rfl:=hd.1;exact⟨a.toList==b.toList,r',run_equalIn_string w n e a b he,hr,by grind⟩
  grind
 ·rename_i es0 a xs0 b ys0 e1 e2 e3;obtain⟨rfl,rfl⟩:=e1;obtain⟨rfl,rfl⟩:=e2;obtain⟨rfl,rfl⟩:=e3;split at h
  ·rename_i r' hr;obtain rfl:=hc.1;obtain rfl:=hd.1;exact⟨a==b,r',RX n he a b w,hr,by grind⟩
  grind
 grind
def agK{e es x y}{xs ys:List (C U)}{r}(h:d8 (e::es) (x::xs) (y::ys)=some r):∃r',d8 es xs ys=some r':=by
 unfold d8 at h;split at h
 ·grind
 ·split at h
  all_goals grind
 all_goals grind
def Bj:∀{es:List EK}{xs ys:List (C U)}{r:Bool},d8 es xs ys=some r→xs.length=es.length∧ys.length=es.length
 |[],[],[],r,h=>⟨rfl,rfl⟩
 |[],[],_::_,r,h=>by grind[d8]
 |[],_::_,_,r,h=>by grind[d8]
 |e::es,[],ys,r,h=>by simp_all[d8]
 |e::es,x::xs,[],r,h=>by simp_all[d8]
 |e::es,x::xs,y::ys,r,h=>by
  obtain⟨r',hr⟩:=agK h;have:=Bj hr;grind
def DB{α β R}{xs:List α}{c}{cs:List β}{i}(h:All2 R (xs.drop i) (c::cs)):∃v,xs[i]?=some v∧R v c∧All2 R (xs.drop<|i+1) cs:=by
 cases hd:xs.drop i with
 |nil=>rw[hd]at h;exact h.elim
 |cons v r=>
  rw[hd]at h;have h1:=mg (xs:=xs) (i:=i) (j:=0);refine⟨v,by grind,h.1,?_⟩;rw[←Gh,hd];exact h.2
theorem R0{g ob w w' xs ys n}:∀{fs:List Field}{es:List EK}{i:Nat}{cs ds:List (C U)}{r:Bool},Du P i fs es→d8 es cs ds=some r→
 All2 (CRel P M.E g ob w') (xs.toList.drop i) cs→All2 (CRel P M.E g ob w') (ys.toList.drop i) ds→(Op.eqFields (n+1) xs ys fs).run P w=.ok r w
 |[],[],i,cs,ds,r,_,h,_,_=>by
  obtain⟨h1,h2⟩:=Bj h;obtain rfl:=yx h1;obtain rfl:=yx h2;simp[d8]at h;subst h;simp[Op.eqFields]
 |f::fs,e::es,i,cs,ds,r,hf,h,hx,hy=>by
  obtain⟨⟨f1,f2,f3⟩,f4⟩:=hf;obtain⟨h1,h2⟩:=Bj h;cases cs with
  |nil=>grind
  |cons c cs=>
   cases ds with
   |nil=>grind
   |cons d ds=>
    obtain⟨u,u1,u2,u3⟩:=DB hx;obtain⟨v,v1,v2,v3⟩:=DB hy;obtain⟨b,r',b1,b2,b3⟩:=RZ (P:=P) (M:=M) (w:=w) h u2 v2 f3 n;have ih:=R0 (n:=n) (w:=w) f4 b2 u3 v3;have p1:=DA f3 (xs:=xs) (off:=f.offset) (v:=u) (by grind) w;have p2:=DA f3 (xs:=ys) (off:=f.offset) (v:=v) (by grind) w;simp only[Op.eqFields,f1,ne_eq,not_false_eq_true,if_true,Sem.run_bind,p1,p2,b1,Result.andThen_ok];subst b3;cases b with
    |true=>grind
    |false=>simp
 |[],_::_,_,_,_,_,hf,_,_,_=>hf.elim
 |_::_,[],_,_,_,_,hf,_,_,_=>hf.elim
theorem R3{g ob w w' xs ys n e k}(he:P.underlying e=some k.desc):∀{m i:Nat}{cs ds:List (C U)}{r:Bool},d8 (List.replicate m k) cs ds=some r→
 All2 (CRel P M.E g ob w') (xs.toList.drop i) cs→All2 (CRel P M.E g ob w') (ys.toList.drop i) ds→(Op.eqItems (n+1) e 1 xs ys<|List.range' i m).run P w=.ok r w
 |0,i,cs,ds,r,h,_,_=>by
  obtain⟨h1,h2⟩:=Bj h;obtain rfl:=yx h1;obtain rfl:=yx h2;simp[d8]at h;subst h;simp[Op.eqItems]
 |m+1,i,cs,ds,r,h,hx,hy=>by
  obtain⟨h1,h2⟩:=Bj h;cases cs with
  |nil=>grind
  |cons c cs=>
   cases ds with
   |nil=>grind
   |cons d ds=>
    obtain⟨u,u1,u2,u3⟩:=DB hx;obtain⟨v,v1,v2,v3⟩:=DB hy;obtain⟨b,r',b1,b2,b3⟩:=RZ (P:=P) (M:=M) (w:=w) h u2 v2 he n;have ih:=R3 (n:=n) (w:=w) he b2 u3 v3;have p1:=DA he (xs:=xs) (off:=i*1) (v:=u) (by grind) w;have p2:=DA he (xs:=ys) (off:=i*1) (v:=v) (by grind) w;rw[List.range'_succ];simp only[Op.eqItems,Sem.run_bind,p1,p2,b1,Result.andThen_ok];subst b3;cases b with
    |true=>grind
    |false=>simp
theorem R4{g ob w xs ys t es}(ht:KC P t es){cs ds r}(h:d8 es cs ds=some r)(hx:All2 (CRel P M.E g ob w) xs.toList cs)(hy:All2 (CRel P M.E g ob w) ys.toList ds):(Op.equalIn 10000 t (.agg xs)<|.agg ys).run P w=.ok r w:=by
 rcases ht.2 with⟨fl,h1,h2,h3⟩|⟨n,e,k,h1,h2,h3,h4,i,h5⟩
 ·grind[Program.fieldsOf,run_equalIn_struct,R0]
 ·rw[run_equalIn_array w 9999 xs ys h1 h5,h4,y4h];grind[R3]
theorem Gy{t ps rs vd}(ht:P.underlying t=some (.func ps rs vd)){x y b}(hxy:(x=.nilFunc∧y=.nilFunc∧b=true)∨∃f r c,x=.func f r c∧y=.nilFunc∧b=false) w:(Op.equal t x y).run P w=.ok b w:=by
 have key:∀n,(Op.equalIn (n+1) t x y).run P w=.ok b w:=by
  rcases hxy with⟨rfl,rfl,rfl⟩|⟨f,r,c,rfl,rfl,rfl⟩
  all_goals simp[Op.equalIn,run_underlying ht]
 exact key 9999
theorem Gz op t xo yo{x y}(hxy:x=.nilFunc∨∃f r c,x=.func f r c):eqGuard op t xo yo x y=pure ():=by
 rcases hxy with rfl|⟨f,r,c,rfl⟩
 all_goals cases op<;>rfl
theorem agL(hT:TabOK P M)(hF:FnsOK P M)(h:Sim P M.E fr g s a w){op t t' x y r}(ho:o.op=.binOp op t x y t')(he:aT M s o=some r)(hob:∀p∈r.ob,p):co P o a w (cu P M fr s o r):=by
 simp only[aT,ho]at he;split at he
 ·rename_i p q hx hy;have hxv:a.eval x=.bool p:=(h.ev hF hx).1;have hyv:a.eval y=.bool q:=(h.ev hF hy).1;split at he
  ·rw[cW he];have hu:P.underlying t=some .bool:=by have:=(hT.ti t).2;grind
   exact bN h (v:=.bool<|p==q) (by simp_all[execOp,eqGuard,binOp,RY]) ⟨rfl,rfl⟩
  ·rw[cW he];have hu:P.underlying t=some .bool:=by have:=(hT.ti t).2;grind
   exact bN h (v:=.bool<|!(p==q)) (by simp_all[execOp,eqGuard,binOp,RY]) ⟨rfl,rfl⟩
  grind
 ·rename_i hx hy;have hxv:a.eval x=.nilFunc:=(h.ev hF hx).1;have hyv:a.eval y=.nilFunc:=(h.ev hF hy).1;split at he
  ·rw[cW he];obtain⟨ps,rs,vv,hu⟩:∃ps rs v,P.underlying t=some (.func ps rs v):=by have:=(hT.ti t).2;grind
   exact bN h (v:=.bool true) (by simp[execOp,ho,hxv,hyv,Gz _ _ _ _<|.inl rfl,binOp,Gy hu<|.inl ⟨rfl,rfl,rfl⟩]) ⟨rfl,rfl⟩
  ·rw[cW he];obtain⟨ps,rs,vv,hu⟩:∃ps rs v,P.underlying t=some (.func ps rs v):=by have:=(hT.ti t).2;grind
   exact bN h (v:=.bool false) (by simp[execOp,ho,hxv,hyv,Gz _ _ _ _<|.inl rfl,binOp,Gy hu<|.inl ⟨rfl,rfl,rfl⟩]) ⟨rfl,rfl⟩
  grind
 ·rename_i φ hx hy;obtain⟨f,caps,hxv,-,-⟩:FunRel P M.E g.St w (a.eval x) φ:=h.ev hF hx;have hyv:a.eval y=.nilFunc:=(h.ev hF hy).1;split at he
  ·rw[cW he];obtain⟨ps,rs,vv,hu⟩:∃ps rs v,P.underlying t=some (.func ps rs v):=by have:=(hT.ti t).2;grind
   exact bN h (v:=.bool false) (by simp[execOp,ho,hxv,hyv,Gz _ _ _ _<|.inr ⟨_,_,_,rfl⟩,binOp,Gy hu<|.inr ⟨_,_,_,rfl,rfl,rfl⟩]) ⟨rfl,rfl⟩
  ·rw[cW he];obtain⟨ps,rs,vv,hu⟩:∃ps rs v,P.underlying t=some (.func ps rs v):=by have:=(hT.ti t).2;grind
   exact bN h (v:=.bool true) (by simp[execOp,ho,hxv,hyv,Gz _ _ _ _<|.inr ⟨_,_,_,rfl⟩,binOp,Gy hu<|.inr ⟨_,_,_,rfl,rfl,rfl⟩]) ⟨rfl,rfl⟩
  grind
 ·rename_i p q hne hne2 hx hy;have hxv:a.eval x=p:=(h.ev hF hx).1;have hyv:a.eval y=q:=(h.ev hF hy).1;split at he
  ·rename_i ob v hb;simp at he;subst he;have hv:bH v=true:=agJ hb hob (h.ev hF hx).2 (h.ev hF hy).2;refine bN h (v:=v) ?_ ⟨rfl,hv⟩;have hr:=agG (P:=P) hb hob t x y w;simp only[execOp,ho,hxv,hyv];rw[Sem.run_bind,hr];rfl
  grind
 ·rename_i cs ds hx hy;obtain⟨xs,hxv,hxr⟩:=h.ev hF hx;obtain⟨ys,hyv,hyr⟩:=h.ev hF hy;unfold Rx at he;split at he
  ·rename_i es hes;have hq:=hT.eqs t es hes;split at he
   ·rename_i b hb;rw[cW he];refine bN h (v:=.bool b) ?_ ⟨rfl,rfl⟩;simp only[execOp,ho,hxv,hyv,Sem.run_bind,run_eqGuard_agg w _ _ _ _ _ _ hq.1,Result.andThen_ok,run_eql_struct,R4 (M:=M) hq hb hxr hyr,Sem.run_pure]
   ·rename_i b hb;rw[cW he];refine bN h (v:=.bool<|!b) ?_ ⟨rfl,rfl⟩;simp only[execOp,ho,hxv,hyv,Sem.run_bind,run_eqGuard_agg w _ _ _ _ _ _ hq.1,Result.andThen_ok,run_neq_struct,R4 (M:=M) hq hb hxr hyr,Sem.run_pure]
   grind
  grind
 grind
theorem agM(hF:FnsOK P M)(h:Sim P M.E fr g s a w){op t x r}(ho:o.op=.unOp op t x)(he:aT M s o=some r):co P o a w (cu P M fr s o r):=by
 simp only[aT,ho]at he;split at he
 ·rename_i b hx;have hxv:a.eval x=.bool b:=(h.ev hF hx).1;rw[cW he];exact bN h (v:=.bool<|!b) (by simp[execOp,ho,hxv,Op.unary]) ⟨rfl,rfl⟩
 ·rename_i k n hx;have hxv:a.eval x=.int k n:=(h.ev hF hx).1;rw[cW he];exact bN h (v:=.int k<|k.wrap<|0- n) (by simp[execOp,ho,hxv,Op.unary,Op.intArith]) ⟨rfl,Dx _ _⟩
 grind
theorem agN(hT:TabOK P M)(hF:FnsOK P M)(h:Sim P M.E fr g s a w){src dst x r}(ho:o.op=.convert src dst x)(he:aT M s o=some r):co P o a w (cu P M fr s o r):=by
 simp only[aT,ho]at he;split at he
 ·rename_i k0 k k1 n h1 h2 hx;have hxv:a.eval x=.int k1 n:=(h.ev hF hx).1;rw[cW he];have u1:P.underlying src=some (.int k0):=by have:=(hT.ti src).2;grind
  have u2:P.underlying dst=some (.int k):=by have:=(hT.ti dst).2;grind
  exact bN h (v:=.int k<|k.wrap n) (by simp_all[execOp,convert,run_underlying,Conv.intToInt]) ⟨rfl,Dx _ _⟩
 grind
theorem agO(hF:FnsOK P M)(h:Sim P M.E fr g s a w){x r}(ho:o.op=.nilCheck x)(he:aT M s o=some r):co P o a w (cu P M fr s o r):=by
 simp only[aT,ho]at he;split at he
 ·rename_i k off hx;have hxv:CRel P M.E g s.ob w (a.eval x) (.bx k off):=h.ev hF hx;rw[cW he];exact bN h (v:=a.eval x) (by simp[execOp,ho,hxv.2]) hxv
 ·rename_i τ xs i off hx;have hxv:CRel P M.E g s.ob w (a.eval x) (.el τ xs i off):=h.ev hF hx;rw[cW he];obtain⟨_,b,o',cap,e,_⟩:=hxv;exact bN h (v:=a.eval x) (by simp_all[execOp])<|h.ev hF hx
 ·rename_i k v i off hx;split at he
  ·rename_i o' ho';have hxv:CRel P M.E g s.ob w (a.eval x) (.em k v i off):=h.ev hF hx;rw[cW he];obtain⟨h1,h2⟩:=gN ho';obtain⟨_,o2,h3,_,h5⟩:=hxv;rw[h1]at h3;simp at h3;subst h3;obtain⟨_,b,off',_,e⟩:=h5 h2.symm;exact bN h (v:=a.eval x) (by simp_all[execOp])<|h.ev hF hx
  grind
 ·rename_i φ hx;have hxv:CRel P M.E g s.ob w (a.eval x) (.fv φ):=h.ev hF hx;rw[cW he];obtain⟨f,caps,e,_⟩:=hxv;exact bN h (v:=a.eval x) (by simp_all[execOp])<|h.ev hF hx
 grind
theorem agP(hF:FnsOK P M)(h:Sim P M.E fr g s a w){x j r}(ho:o.op=.extract x j)(he:aT M s o=some r):co P o a w (cu P M fr s o r):=by
 simp only[aT,ho]at he;split at he
 ·rename_i al hx;obtain⟨arr,e,hr⟩:AVRel P M.E g s.ob w (a.eval x) (.tup al):=h.ev hF hx;split at he
  ·rename_i y hy;rw[cW he];obtain⟨v,hv,hry⟩:=hr.get j hy;exact bN h (v:=v) (by simp_all[execOp,Instr.extract]) hry
  grind
 grind
def agQ{E p q d v}(hm:s.move d p=some q)(h:CRel P E g s.ob w v p):∃b o,v=.pointer (some ⟨b,o,none⟩)∧CRel P E g s.ob w (.pointer<|some ⟨b,o+d,none⟩) q:=by
 cases p with
 |bx k off=>simp[S.move]at hm;subst hm;exact⟨_,_,h.2,h.1,rfl⟩
 |el τ xs i off=>
  simp[S.move]at hm;subst hm;obtain⟨h1,b,o',cap,e,h2⟩:=h;exact⟨b,_,e,h1,b,o',cap,by simp,h2⟩
 |em k ver i off=>
  simp only[S.move]at hm;split at hm
  ·rename_i o' ho;simp at hm;subst hm;obtain⟨h1,h2⟩:=gN ho;obtain⟨_,o2,h3,h4,h5⟩:=h;rw[h1]at h3;simp at h3;subst h3;obtain⟨hi,b,off',e,hv⟩:=h5 h2.symm;exact⟨b,_,hv,rfl,o',h1,h4,fun _=>⟨hi,b,off',e,by simp⟩⟩
  grind
 |_=>grind[S.move]
theorem agR(hT:TabOK P M)(hF:FnsOK P M)(h:Sim P M.E fr g s a w){t x f r}(ho:o.op=.fieldAddr t x f)(he:aT M s o=some r):co P o a w (cu P M fr s o r):=by
 simp only[aT,ho]at he;split at he
 ·rename_i p fs n hx hti;split at he
  ·rename_i d hd;split at he
   ·rename_i q hq;rw[cW he];have hp:CRel P M.E g s.ob w (a.eval x) p:=h.ev hF hx;obtain⟨b,off,e,hrel⟩:=agQ hq hp;obtain⟨fl,hu,_,hfl⟩:∃fl,P.underlying t=some (.struct fl)∧fl.size=fs.length∧∀(f:Nat) d,fs[f]?=some d→∃fd,fl[f]?=some fd∧fd.offset=d.1∧0<d.2.1∧jt P fd.type d.2.2 d.2.1:=by
     have:=(hT.ti t).2;grind
    obtain⟨fd,i1,i2,i3,i4⟩:=hfl f d hd;refine bN h (v:=.pointer<|some ⟨b,off+d.1,none⟩) ?_ hrel;simp[execOp,ho,e,Instr.fieldAt,run_underlying hu,i1,Instr.sureAddr,fieldPlace,run_sizeOf i4,Nat.ne_of_gt i3,i2,nW]
   grind
  grind
 grind
theorem agS(hT:TabOK P M)(hF:FnsOK P M)(h:Sim P M.E fr g s a w){t x f r}(ho:o.op=.field t x f)(he:aT M s o=some r):co P o a w (cu P M fr s o r):=by
 simp only[aT,ho]at he;split at he
 ·rename_i cs fs n hx hti;split at he
  ·rename_i d hd;split at he
   ·rename_i hl;obtain⟨y,hm,rfl⟩:=Dy he
    ·
     obtain⟨arr,e,hr⟩:AVRel P M.E g s.ob w (a.eval x) (.one<|.agg cs):=h.ev hF hx;obtain⟨fl,hu,_,hfl⟩:∃fl,P.underlying t=some (.struct fl)∧fl.size=fs.length∧∀(f:Nat) d,fs[f]?=some d→∃fd,fl[f]?=some fd∧fd.offset=d.1∧0<d.2.1∧jt P fd.type d.2.2 d.2.1:=by
      have:=(hT.ti t).2;rw[hti]at this;exact this
     obtain⟨fd,i1,i2,i3,i4⟩:=hfl f d hd;have hmk:=KM hm<|(hr.drop d.1).take d.2.1;have hlen:=hr.length;cases hag:d.2.2 with
     |true=>
      rw[hag]at hmk i4;refine bN h (v:=.agg ((arr.toList.drop d.1).take d.2.1).toArray) ?_ (hmk.1 rfl);have hex:arr.extract d.1 (d.1+d.2.1)=((arr.toList.drop d.1).take d.2.1).toArray:=by
       apply PV;simp[Array.toList_extract,List.extract_eq_take_drop]
      simp only[execOp,ho,e,Instr.field,Sem.run_bind,run_underlying hu,Result.andThen_ok,i1,asAgg,part,vB i4,run_sizeOf i4,if_true,i2,Sem.run_pure];rw[hex]
     |false=>
      rw[hag]at hmk i4;obtain⟨v,hv,hrel⟩:=hmk.2 rfl;refine bN h (v:=v) ?_ hrel;have hc:arr[d.1]?=some v:=by
       have:=congrArg (fun l=>l[0]?) hv;simp only[vn i3,mg,iC,A7]at this;rw[nO]at this;exact this
      simp[execOp,ho,e,Instr.field,run_underlying hu,i1,asAgg,part,vB i4,i2,hc]
   ·simp at he
  ·simp at he
 ·simp at he
end B
namespace B
open Go Go.RowKit
variable {U:Uni} {P:Program} {M:Mc U} {fr:Fr} {w:World} {g:G} {s:S U} {a:Act} {o:Oper}
def pw(hT:TabOK P M){t e τ bytes}(h:M.ti t=.sl e τ bytes):
 P.underlying t=some (.slice e)∧(0<U.sz τ∧0<bytes)∧∃i z,P.info? e=some i∧i.size=U.sz τ∧i.bytes=bytes∧i.zero=some z∧z.cells.size=U.sz τ:=by
 have:=(hT.ti t).2;grind
theorem agT(hT:TabOK P M)(hF:FnsOK P M)(h:Sim P M.E fr g s a w){t x y r}(ho:o.op=.indexAddr t x y)(he:aT M s o=some r)(hob:∀p∈r.ob,p):co P o a w (cu P M fr s o r):=by
 simp only[aT,ho]at he;split at he
 ·rename_i τ xs tk k n e τ₀ bytes hx hy hti;split at he
  ·rename_i hsz;simp at he;subst he;have hn:=hob _<|yl.2 rfl;obtain⟨hu,_,i,z,hi,his,_,_,_⟩:=pw hT hti;have hyv:a.eval y=.int k n:=(h.ev hF hy).1;obtain⟨hv,_⟩:CRel P M.E g s.ob w (a.eval x) (.sl τ xs tk):=h.ev hF hx;rcases hv.inv with⟨rfl,_⟩|⟨b,o',cap,cv,hxv,hcap,h1,h2⟩
   ·grind
   ·refine bN h (v:=.pointer<|some ⟨b,o'+n.toNat*U.sz τ,none⟩) ?_ ⟨by omega,b,o',cap,rfl,by grind⟩;simp[execOp,ho,hxv,hyv,Instr.indexAt,asIntOf,run_underlying hu,hn.1,hn.2,vC hi,his,hsz,nW]
  grind
 ·rename_i q ver k n e τ₀ bytes hx hy hti;split at he
  ·rename_i ob' hob';split at he
   ·rename_i hsz;simp at he;subst he;have hn:=hob _<|yl.2 rfl;obtain⟨hu,_,i,z,hi,his,_,_,_⟩:=pw hT hti;have hyv:a.eval y=.int k n:=(h.ev hF hy).1;have hxr:CRel P M.E g s.ob w (a.eval x) (.ob q ver):=h.ev hF hx;obtain⟨hxv,hoR⟩:=h.obval hob' hxr;obtain⟨b,off,cv,e',hA⟩:=hoR.2 (by have:=hoR.1.1;omega);obtain⟨j1,j2⟩:=gN hob';refine bN h (v:=.pointer<|some ⟨b,off+n.toNat*U.sz ob'.τ,none⟩) ?_ ⟨rfl,ob',j1,Nat.le_of_eq j2.symm,fun _=>⟨by omega,b,off,e',by rfl⟩⟩;rw[e']at hxv;simp[execOp,ho,hxv,hyv,Instr.indexAt,asIntOf,run_underlying hu,hn.1,hn.2,vC hi,his,hsz,nW]
   grind
  grind
 ·rename_i k off q n len esz eagg hx hy hti;split at he
  ·rename_i hn;rw[cW he];obtain⟨e,hu,i,d,hi1,hi2,hi3,hi4⟩:∃e,P.underlying t=some (.array len e)∧jt P e eagg esz:=by
    have:=(hT.ti t).2;grind
   have hyv:a.eval y=.int q n:=(h.ev hF hy).1;obtain⟨hl,hxv⟩:CRel P M.E g s.ob w (a.eval x) (.bx k off):=h.ev hF hx;refine bN h (v:=.pointer<|some ⟨g.β k,off+n.toNat*esz,none⟩) ?_ ⟨hl,rfl⟩;simp[execOp,ho,hxv,hyv,Instr.indexAt,asIntOf,Instr.sureAddr,run_underlying hu,hn.1,hn.2,vC hi3,hi4,nW]
  grind
 ·rename_i τ xs j off q n len esz eagg hx hy hti;split at he
  ·rename_i hn;rw[cW he];obtain⟨e,hu,i,d,hi1,hi2,hi3,hi4⟩:∃e,P.underlying t=some (.array len e)∧jt P e eagg esz:=by
    have:=(hT.ti t).2;grind
   have hyv:a.eval y=.int q n:=(h.ev hF hy).1;obtain⟨hl,b,o',cap,hxv,hv⟩:CRel P M.E g s.ob w (a.eval x) (.el τ xs j off):=h.ev hF hx;refine bN h (v:=.pointer<|some ⟨b,o'+j*U.sz τ+off+n.toNat*esz,none⟩) ?_ ⟨hl,b,o',cap,by simp,hv⟩;simp[execOp,ho,hxv,hyv,Instr.indexAt,asIntOf,Instr.sureAddr,run_underlying hu,hn.1,hn.2,vC hi3,hi4,nW]
  grind
 grind
def R5(b:ByteArray) i(h:i<b.size):b[i]?=some (b.toList.getD i 0):=by
 rw[ByteArray.toList_eq,yf,nO];have h':i<b.data.size:=h;rw[sD h'];rw[getElem?_pos b i h];rfl
def agU(u:UInt8):bH (.int .u8 (u.toNat:Nat))=true:=by
 have:=u.toNat_lt;exact oneC_int.2 ⟨by show(0:Int)≤_;omega,by show _≤(255:Int);omega⟩
theorem agV(hT:TabOK P M)(hF:FnsOK P M)(h:Sim P M.E fr g s a w){t x y r}(ho:o.op=.index t x y)(he:aT M s o=some r)(hob:∀p∈r.ob,p):co P o a w (cu P M fr s o r):=by
 simp only[aT,ho]at he;split at he
 ·rename_i b k n hx hy hti;simp at he;subst he;have hn:=hob _ (yl.2 rfl);have hu:P.underlying t=some .string:=by have:=(hT.ti t).2;grind
  have hxv:a.eval x=.string b:=(h.ev hF hx).1;have hyv:a.eval y=.int k n:=(h.ev hF hy).1;refine bN h (v:=.int .u8 ((b.toList.getD n.toNat 0).toNat:Nat)) ?_ ⟨rfl,agU _⟩;have hg:=R5 b n.toNat (by omega);simp_all[execOp,Instr.index,asIntOf,run_underlying]
 grind
theorem ju{k n}{y:Nat}{code}(h0:0≤n)(h1:n≤(y:Int)) w:(Instr.sliceBound (.int k n) y code).run P w=.ok n.toNat w:=by
 simp[Instr.sliceBound,asIntOf,h0,h1]
def ur{t e i}(hu:P.underlying t=some (.slice e))(hi:P.info? e=some i)(p:Option Addr) len cap l h(lo hi' mx:Option Value) m w(hb:(Instr.sliceBounds true len cap lo hi' mx).run P w=.ok (l,h,m) w):
 (Instr.sliceAt t (.slice p len cap) lo hi' mx).run P w=.ok (.slice (if m=l then p else p.map (·.add (l*i.size))) (h- l)<|m- l) w:=by
 simp[Instr.sliceAt,Instr.slice,run_underlying hu,hb,vC hi]
theorem agW(p:Option Addr):p.map (·.add 0)=p:=by simp[Addr.add]
def lh(hF:FnsOK P M)(h:Sim P M.E fr g s a w):∀{xs:List Operand}{ts:List TypeId}{al:List (A U)},dK M s xs ts=some al→All2 (ARel P M.E g s.ob w) (xs.map a.eval) al
 |[],_,al,he=>by simp[dK]at he;subst he;trivial
 |x::xs,ts,al,he=>by
  simp only[dK]at he;split at he
  ·rename_i y ys hy hys;simp at he;subst he;exact⟨h.evT hF hy,lh hF h hys⟩
  grind
def KP{E ob}:∀{vs:List Value}{al:List (A U)}{ns:List Int},All2 (ARel P E g ob w) vs al→lf al=some ns→vs=ns.map (Value.int .i64)
 |[],[],ns,_,he=>by simp_all[lf]
 |v::vs,x::al,ns,hr,he=>by
  unfold lf at he;split at he
  ·grind
  ·rename_i n r h1;obtain⟨rfl,rfl⟩:=h1;cases hi:lf al with
   |none=>grind
   |some ms=>
    simp[hi]at he;subst he;have h0:v=.int .i64 n:=hr.1.1;rw[h0,KP hr.2 hi];rfl
  grind
def KQ{E ob}:∀{vs:List Value}{al:List (A U)}{ns:List Int},All2 (ARel P E g ob w) vs al→lf al=some ns→∀n∈ns,bH (.int .i64 n)=true
 |[],[],ns,_,he=>by simp_all[lf]
 |v::vs,x::al,ns,hr,he=>by
  unfold lf at he;split at he
  ·grind
  ·rename_i n r h1;obtain⟨rfl,rfl⟩:=h1;cases hi:lf al with
   |none=>grind
   |some ms=>
    simp[hi]at he;subst he;intro m hm;rcases yh.1 hm with rfl|hm
    ·exact hr.1.2
    ·exact KQ hr.2 hi m hm
  grind
def KR{f}(hf:∀a b,f a b=a∨f a b=b):∀{ns:List Int}{n:Int},(∀m∈n::ns,bH (.int .i64 m)=true)→bH (.int .i64<|ns.foldl f n)=true
 |[],n,h=>h n<|by simp
 |m::ns,n,h=>by
  refine KR hf (ns:=ns) (n:=f n m) fun q hq=>?_;grind
theorem R6 w:∀(r:List Int)(n:Int),((r.map<|Value.int .i64).foldlM Builtin.min2<|.int .i64 n).run P w=.ok (.int .i64<|r.foldl (fun a b=>if b<a then b else a) n) w
 |[],n=>by simp
 |m::r,n=>by
  exact R6 w r _
theorem R7 w:∀(r:List Int)(n:Int),((r.map<|Value.int .i64).foldlM Builtin.max2<|.int .i64 n).run P w=.ok (.int .i64<|r.foldl (fun a b=>if a<b then b else a) n) w
 |[],n=>by simp
 |m::r,n=>by
  exact R7 w r _
theorem agX(hF:FnsOK P M)(h:Sim P M.E fr g s a w){c r}(ho:o.op=.call c)(hc:c.callee=.builtin .min)(he:iJ s M o .min c=some r):co P o a w (cu P M fr s o r):=by
 unfold iJ at he;dsimp only at he;split at he
 ·rename_i n ns hx;rw[cW he];cases hal:dK M s c.args.toList c.argTypes.toList with
  |none=>grind
  |some al=>
   simp[hal]at hx;have hv:=KP (lh hF h hal) hx;refine bN h (v:=.int .i64<|ns.foldl (fun a b=>if b<a then b else a) n) ?_ ⟨rfl,KR (fun a b=>by omega)<|KQ (lh hF h hal) hx⟩;simp only[execOp,ho,resolve,hc,invoke,builtin,Builtin.min_,Sem.run_bind,Sem.run_pure,Result.andThen_ok,A8,hv,cL,R6]
 grind
theorem agY(hF:FnsOK P M)(h:Sim P M.E fr g s a w){c r}(ho:o.op=.call c)(hc:c.callee=.builtin .max)(he:iJ s M o .max c=some r):co P o a w (cu P M fr s o r):=by
 unfold iJ at he;dsimp only at he;split at he
 ·rename_i n ns hx;rw[cW he];cases hal:dK M s c.args.toList c.argTypes.toList with
  |none=>grind
  |some al=>
   simp[hal]at hx;have hv:=KP (lh hF h hal) hx;refine bN h (v:=.int .i64<|ns.foldl (fun a b=>if a<b then b else a) n) ?_ ⟨rfl,KR (fun a b=>by omega)<|KQ (lh hF h hal) hx⟩;simp only[execOp,ho,resolve,hc,invoke,builtin,Builtin.max_,Sem.run_bind,Sem.run_pure,Result.andThen_ok,A8,hv,cL,R7]
 grind
end B
namespace B
open Go Go.RowKit
variable {U:Uni} {P:Program} {M:Mc U} {fr:Fr} {w:World} {g:G} {s:S U} {a:Act} {o:Oper}
def zD{E:Enc U}{St:Nat→Nat→Prop}{τ}{xs:List (U.Den τ)}{p:Option Addr}{cap l h m z}(hr:VRel E St w (.slice p xs.length cap) (.dat τ xs))(hl:l≤h)(hh:h≤xs.length)(hm:h≤m)(hz:z=U.sz τ):
 VRel E St w (.slice (if m=l then p else p.map (·.add (l*z))) (h- l)<|m- l) (.dat τ<|(xs.take h).drop l):=by
 have hlen:((xs.take h).drop l).length=h- l:=by grind
 rcases yk l h with h1|h1
 ·rcases hr.inv with⟨rfl,_⟩|⟨b,o,cap',cv,hv,hcap,g1,g2⟩
  ·grind
  ·obtain⟨rfl,rfl⟩:=hv;rw[if_neg<|by omega];simp only[iD,nW];rw[←hlen];refine .dat τ _ b _ _ (fun i j=>cv (l+i) j) (by omega) (fun i j hi hj=>?_) fun i hi j d hd=>?_
   all_goals grind
 ·have e1:(xs.take h).drop l=[]:=by grind
  rw[e1,show h- l=0 from by omega];exact .nil τ _ _
theorem R8(hF:FnsOK P M)(h:Sim P M.E fr g s a w){x l}(hb:kQ s M x=some l):(x=none∧l=none)∨∃y n k,x=some y∧l=some n∧a.eval y=.int k n:=by
 cases x with
 |none=>simp[kQ]at hb;exact .inl ⟨rfl,hb.symm⟩
 |some y=>
  right;simp only[kQ]at hb;split at hb
  ·rename_i n hn;simp at hb;subst hb;unfold bnd at hn;split at hn
   ·rename_i k n' hv;simp at hn;subst hn;exact⟨y,n',k,rfl,rfl,(h.ev hF hv).1⟩
   grind
  grind
def zE{g}(h:Sim P M.E fr g s a w){cx τ xs v}(hl:s.lst cx=some ⟨τ,xs⟩)(hv:CRel P M.E g s.ob w v cx):
 ∃g',Sim P M.E fr g' {s with ob:=aH s.ob<|s.frz cx.obs} a w∧GLe g s.ob w g' (aH s.ob<|s.frz cx.obs) w∧VRel M.E g'.St w v (.dat τ xs):=by
 obtain⟨g1,hs1,hg1,hf1,hfz⟩:=Sim.frzs cx.obs (s0:=s) rfl h<|FrzLe.refl _;refine⟨g1,hs1,hg1,?_⟩;refine hs1.frozenV (s0:=s) hf1 (fun q hq=>hfz q<|.inl hq) ?_ (CRel.mono hg1 hv);cases cx with
 |sl τ' xs' f=>simp[S.lst]at hl;obtain⟨rfl,hl⟩:=hl;subst hl;rfl
 |ob k ver=>
  simp only[S.lst]at hl;simp only[S.toV];grind
 |_=>simp[S.lst]at hl
def Bk{g1 v x ob ks}(hs1:Sim P M.E fr g1 {s with ob:=aH s.ob<|s.frz ks} a w)(hrun:(execOp a.eval o).run P w=.ok (.value v) w)(hv:AVRel P M.E g1 (aH s.ob<|s.frz ks) w v x):co P o a w (cu P M fr s o ⟨ob,x,[],s.frz ks⟩):=by
 refine mi hrun ⟨g1,?_⟩;exact Sim.put' (s':=s) (r:=⟨ob,x,[],s.frz ks⟩) hs1 hv
def fT(hF:FnsOK P M)(h:Sim P M.E fr g s a w){x}(hb:kQ s M x=some none):x=none:=by
 grind[R8]
def jv(hF:FnsOK P M)(h:Sim P M.E fr g s a w){x n}(hb:kQ s M x=some (some n)):∃y k,x=some y∧a.eval y=.int k n:=by
 grind[R8]
def KS{b i j}(h:bH (.string b)=true):bH (.string<|b.extract i j)=true:=by
 grind[oneC_str,ByteArray.size_extract]
theorem agZ(hT:TabOK P M)(hF:FnsOK P M)(h:Sim P M.E fr g s a w){t x lo hi mx r}(ho:o.op=.slice t x lo hi mx)(he:aT M s o=some r)(hob:∀p∈r.ob,p):co P o a w (cu P M fr s o r):=by
 simp only[aT,ho]at he;split at he
 ·rename_i xv l0 h0 m0 hx hbl hbh hbm;unfold yS at he;split at he
  ·rename_i e τ₀ bytes cx hti;split at he
   ·rename_i τ xs hlst;split at he
    ·rename_i hsz;obtain⟨hu,_,i,z,hinf,his,_,_,_⟩:=pw hT hti;have hxr:CRel P M.E g s.ob w (a.eval x) cx:=h.ev hF hx;obtain⟨p,cap,hxv,hcap,hmx⟩:=h.len hlst hxr;have hbd:i.size=U.sz τ:=his.trans hsz;dsimp only at he;split at he
     ·simp at he;subst he;have e1:=fT hF h hbl;have e2:=fT hF h hbh;have e3:=fT hF h hbm;subst e1 e2 e3;refine bN h (v:=a.eval x) ?_ hxr;have hb:=ur (P:=P) hu hinf p xs.length cap 0 xs.length none none none cap w (by rfl);simp only[execOp,ho,hxv,vo,Sem.run_bind,hb,Result.andThen_ok,Sem.run_pure,Nat.zero_mul,agW,Nat.sub_zero];simp
     ·rename_i n;simp at he;subst he;obtain⟨q1,q2⟩:=hob _ (yl.2 rfl);obtain⟨y,k,rfl,hy⟩:=jv hF h hbl;have e2:=fT hF h hbh;have e3:=fT hF h hbm;subst e2 e3;obtain⟨g1,hs1,hg1,hV⟩:=zE h hlst hxr;have hb:=ur (P:=P) hu hinf p xs.length cap n.toNat xs.length (some (.int k n)) none none cap w (by simp_all[Instr.sliceBounds,ju]);rw[hxv]at hV;have hsub:=zD (l:=n.toNat) (h:=xs.length) (m:=cap) (z:=i.size) hV (by omega) (y7 _) hcap hbd;rw[vp]at hsub;refine Bk hs1 (v:=.slice (if cap=n.toNat then p else p.map (·.add (n.toNat*i.size))) (xs.length- n.toNat) (cap- n.toNat)) ?_ ⟨hsub,fun hfull=>?_⟩
      ·simp only[execOp,ho,hxv,hy,iD,vo,Sem.run_bind,hb,Result.andThen_ok,Sem.run_pure]
      ·cases cx with
       |sl τ' xs' f=>
        dsimp only at hfull;simp[S.lst]at hlst;obtain⟨rfl,hlst⟩:=hlst;simp at hlst;subst hlst;obtain⟨pa,na,e⟩:=hxr.2 hfull;grind
       |_=>simp at hfull
     ·rename_i n;simp at he;subst he;obtain⟨q1,q2⟩:=hob _ (yl.2 rfl);obtain⟨y,k,rfl,hy⟩:=jv hF h hbh;have e2:=fT hF h hbl;have e3:=fT hF h hbm;subst e2 e3;obtain⟨g1,hs1,hg1,hV⟩:=zE h hlst hxr;have hb:=ur (P:=P) hu hinf p xs.length cap 0 n.toNat none (some (.int k n)) none cap w (by simp[Instr.sliceBounds,ju (P:=P) (y:=cap) q1 (by omega)]);rw[hxv]at hV;have hsub:=zD (l:=0) (h:=n.toNat) (m:=cap) (z:=i.size) hV (by omega) (by omega) (by omega) hbd;rw[P1]at hsub;refine Bk hs1 (v:=.slice (if cap=0 then p else p.map (·.add (0*i.size))) (n.toNat- 0) (cap- 0)) ?_ ⟨hsub,by simp⟩;simp only[execOp,ho,hxv,hy,iD,vo,Sem.run_bind,hb,Result.andThen_ok,Sem.run_pure]
     ·rename_i l hh;simp at he;subst he;obtain⟨q1,q2,q3⟩:=hob _ (yl.2 rfl);obtain⟨y,k,rfl,hy⟩:=jv hF h hbl;obtain⟨y',k',rfl,hy'⟩:=jv hF h hbh;have e3:=fT hF h hbm;subst e3;obtain⟨g1,hs1,hg1,hV⟩:=zE h hlst hxr
      have hb:=ur (P:=P) hu hinf p xs.length cap l.toNat hh.toNat (some (.int k l)) (some (.int k' hh)) none cap w (by
       simp[Instr.sliceBounds,ju (P:=P) (y:=cap) (n:=hh) (by omega) (by omega),ju (P:=P) (y:=hh.toNat) (n:=l) q1 (by omega)])
      rw[hxv]at hV;have hsub:=zD (l:=l.toNat) (h:=hh.toNat) (m:=cap) (z:=i.size) hV (by omega) (by omega) (by omega) hbd;refine Bk hs1 (v:=.slice (if cap=l.toNat then p else p.map (·.add (l.toNat*i.size))) (hh.toNat- l.toNat) (cap- l.toNat)) ?_ ⟨hsub,by simp⟩;simp_all[execOp,iD,vo,Sem.run_bind,Result.andThen_ok,Sem.run_pure]
     ·rename_i hh m;simp at he;subst he;obtain⟨q1,q2,q3⟩:=hob _ (yl.2 rfl);subst q2;have e2:=fT hF h hbl;obtain⟨y',k',rfl,hy'⟩:=jv hF h hbh;obtain⟨y2,k2,rfl,hy2⟩:=jv hF h hbm;subst e2;obtain⟨g1,hs1,hg1,hV⟩:=zE h hlst hxr
      have hb:=ur (P:=P) hu hinf p xs.length cap 0 hh.toNat none (some (.int k' hh)) (some (.int k2 hh)) hh.toNat w (by
       simp[Instr.sliceBounds,ju (P:=P) (y:=cap) (n:=hh) (by omega) (by omega),ju (P:=P) (y:=hh.toNat) (n:=hh) q1 (by omega)])
      rw[hxv]at hV;have hsub:=zD (l:=0) (h:=hh.toNat) (m:=hh.toNat) (z:=i.size) hV (by omega) (by omega) (by omega) hbd;rw[P1]at hsub;refine Bk hs1 (v:=.slice (if hh.toNat=0 then p else p.map (·.add (0*i.size))) (hh.toNat- 0) (hh.toNat- 0)) ?_ ⟨hsub,fun _=>⟨_,_,rfl⟩⟩;simp_all[execOp,iD,vo,Sem.run_bind,Result.andThen_ok,Sem.run_pure]
     ·rename_i l hh m;simp at he;subst he;obtain⟨q1,q2,q3,q4⟩:=hob _ (yl.2 rfl);subst q3;obtain⟨y,k,rfl,hy⟩:=jv hF h hbl;obtain⟨y',k',rfl,hy'⟩:=jv hF h hbh;obtain⟨y2,k2,rfl,hy2⟩:=jv hF h hbm;obtain⟨g1,hs1,hg1,hV⟩:=zE h hlst hxr
      have hb:=ur (P:=P) hu hinf p xs.length cap l.toNat hh.toNat (some (.int k l)) (some (.int k' hh)) (some (.int k2 hh)) hh.toNat w (by
       simp[Instr.sliceBounds,ju (P:=P) (y:=cap) (n:=hh) (by omega) (by omega),ju (P:=P) (y:=hh.toNat) (n:=hh) (by omega) (by omega),ju (P:=P) (y:=hh.toNat) (n:=l) q1 (by omega)])
      rw[hxv]at hV;have hsub:=zD (l:=l.toNat) (h:=hh.toNat) (m:=hh.toNat) (z:=i.size) hV (by omega) (by omega) (by omega) hbd;refine Bk hs1 (v:=.slice (if hh.toNat=l.toNat then p else p.map (·.add (l.toNat*i.size))) (hh.toNat- l.toNat) (hh.toNat- l.toNat)) ?_ ⟨hsub,fun _=>⟨_,_,rfl⟩⟩;simp_all[execOp,iD,vo,Sem.run_bind,Result.andThen_ok,Sem.run_pure]
     grind
    grind
   grind
  ·rename_i b hti;have hu:P.underlying t=some .string:=by have:=(hT.ti t).2;grind
   have hxv:a.eval x=.string b:=(h.ev hF hx).1;split at he
   ·rw[cW he];have e1:=fT hF h hbl;have e2:=fT hF h hbh;have e3:=fT hF h hbm;subst e1 e2 e3;refine bN h (v:=.string b) ?_ ⟨rfl,(h.ev hF hx).2⟩;simp[execOp,ho,hxv,Instr.sliceAt,Instr.slice,run_underlying hu,Instr.sliceBounds]
   ·rename_i n;simp at he;subst he;obtain⟨q1,q2⟩:=hob _ (yl.2 rfl);obtain⟨y,k,rfl,hy⟩:=jv hF h hbl;have e2:=fT hF h hbh;have e3:=fT hF h hbm;refine bN h (v:=.string (b.extract n.toNat b.size)) ?_ ⟨rfl,KS (h.ev hF hx).2⟩;simp_all[execOp,Instr.sliceAt,Instr.slice,run_underlying,Instr.sliceBounds,ju]
   ·rename_i n;simp at he;subst he;obtain⟨q1,q2⟩:=hob _ (yl.2 rfl);obtain⟨y,k,rfl,hy⟩:=jv hF h hbh;have e2:=fT hF h hbl;have e3:=fT hF h hbm;refine bN h (v:=.string (b.extract 0 n.toNat)) ?_ ⟨rfl,KS (h.ev hF hx).2⟩;simp_all[execOp,Instr.sliceAt,Instr.slice,run_underlying,Instr.sliceBounds,ju]
   ·rename_i l hh;simp at he;subst he;obtain⟨q1,q2,q3⟩:=hob _ (yl.2 rfl);obtain⟨y,k,rfl,hy⟩:=jv hF h hbl;obtain⟨y',k',rfl,hy'⟩:=jv hF h hbh;have e3:=fT hF h hbm;subst e3;refine bN h (v:=.string (b.extract l.toNat hh.toNat)) ?_ ⟨rfl,KS (h.ev hF hx).2⟩;simp[execOp,ho,hxv,hy,hy',Instr.sliceAt,Instr.slice,run_underlying hu,Instr.sliceBounds,ju (P:=P) (y:=b.size) (n:=hh) (by omega) (by omega),ju (P:=P) (y:=hh.toNat) (n:=l) q1 (by omega)]
   grind
  grind
 grind
def DD{α:Type}{x}{l:List α}(h:x.toList=l):x=l.toArray:=by grind
theorem ag0(hT:TabOK P M)(hF:FnsOK P M)(h:Sim P M.E fr g s a w){c r}(ho:o.op=.call c)(hc:c.callee=.builtin .len)(he:iJ s M o .len c=some r):co P o a w (cu P M fr s o r):=by
 unfold iJ at he;dsimp only at he;split at he
 ·rename_i x t hx ht;have ex:=DD hx;have et:=DD ht;split at he
  ·rename_i b hxv hti;rw[cW he];have hu:P.underlying t=some .string:=by have:=(hT.ti t).2;grind
   have hv:a.eval x=.string b:=(h.ev hF hxv).1;refine bN h (v:=.int .i64 (b.size:Nat)) ?_ ⟨rfl,oneC_i64.2 (by have:=oneC_str.1 (h.ev hF hxv).2;omega)⟩;simp[execOp,ho,resolve,hc,invoke,builtin,Builtin.len_,ex,et,run_underlying hu,hv,goInt]
  ·rename_i cx e τ₀ bytes hxv hti;split at he
   ·rename_i τ xs hl;rw[cW he];obtain⟨hu,_⟩:=pw hT hti;have hxr:CRel P M.E g s.ob w (a.eval x) cx:=h.ev hF hxv;obtain⟨p,cap,hp,_,hmx⟩:=h.len hl hxr;refine bN h (v:=.int .i64 (xs.length:Nat)) ?_ ⟨rfl,oneC_i64.2<|by omega⟩;simp[execOp,ho,resolve,hc,invoke,builtin,Builtin.len_,ex,et,run_underlying hu,hp,goInt]
   grind
  grind
 grind
end B
namespace B
open Go Go.RowKit
variable {U:Uni} {P:Program} {M:Mc U} {fr:Fr} {w:World} {g:G} {s:S U} {a:Act} {o:Oper}
def R9{E St τ}{xs ys:List (U.Den τ)}{vs us:List Value}(hl:vs.length=xs.length*U.sz τ)(h1:∀i(hi:i<xs.length) j d,(E.enc τ xs[i])[j]?=some d→∃u,vs[i*U.sz τ+j]?=some u∧VRel E St w u d)(h2:∀i(hi:i<ys.length) j d,(E.enc τ ys[i])[j]?=some d→∃u,us[i*U.sz τ+j]?=some u∧VRel E St w u d):
 ∀i(hi:i<(xs++ys).length) j d,(E.enc τ (xs++ys)[i])[j]?=some d→∃u,(vs++us)[i*U.sz τ+j]?=some u∧VRel E St w u d:=by
 intro i hi j d hd;rcases yk i xs.length with h|h
 ·grind
 ·have e:i*U.sz τ=xs.length*U.sz τ+(i- xs.length)*U.sz τ:=by rw[←iA];grind
  grind
def Sa{tx ty T e e' i}(ht:P.underlying tx=some (.slice e))(ht':P.underlying ty=some (.slice e'))(hi:P.info? e=some i)(p q:Option Addr) n cap m c(us:List Value) w w'(hf:(Builtin.firstCells i.size m<|.slice q m c).run P w=.ok us.toArray w)(hroom:n+m≤cap)(hst:(match p with|some x=>storeCells (x.add<|n*i.size) us|none=>pure ()).run P w=.ok () w'):
 (Builtin.append_ #[tx,ty] T #[.slice p n cap,.slice q m c]).run P w=.ok (.slice p (n+m) cap) w':=by
 cases p with
 |none=>simp at hst;subst hst;simp[Builtin.append_,run_underlying ht,run_underlying ht',Go.sizeOf,typeInfo,hi,Builtin.lenOf,hroom,hf]
 |some x=>simp[Builtin.append_,run_underlying ht,run_underlying ht',Go.sizeOf,typeInfo,hi,Builtin.lenOf,hroom,hf,hst]
def Sb{tx ty T e e' i z}(ht:P.underlying tx=some (.slice e))(ht':P.underlying ty=some (.slice e'))(hi:P.info? e=some i)(hz:i.zero=some z) p q n cap m c olds us w(hfo:(Builtin.firstCells i.size n<|.slice p n cap).run P w.drew=.ok olds.toArray w.drew)(hf:(Builtin.firstCells i.size m<|.slice q m c).run P w.drew=.ok us.toArray w.drew)(hroom:cap<n+m)(h63:((n+m:Nat):Int)≤9223372036854775807)(hfit:Builtin.nextslicecap (n+m) cap*i.bytes≤281474976710656):
 (Builtin.append_ #[tx,ty] T #[.slice p n cap,.slice q m c]).run P w=
  .ok (.slice (some ⟨w.heap.size,0,none⟩) (n+m)<|grownCap w (n+m) cap e) (w.drew.alloc<|.cells (olds++us++(Builtin.zeroCells z.cells<|grownCap w (n+m) cap e- (n+m)).toList).toArray e):=by
 have hn:¬(n+m≤cap):=by omega
 have h63':¬(9223372036854775807<((n:Int)+(m:Int))):=by omega
 have h48':¬(281474976710656<Builtin.nextslicecap (n+m) cap*i.bytes):=by omega
 simp[Builtin.append_,run_underlying ht,run_underlying ht',Go.sizeOf,typeInfo,zeroValue,hi,hz,Builtin.lenOf,hn,h63',h48',Question.forced,hf,hfo,newRow,grownCap];congr 2;simp
def Sc{p n z cap}{vs:List Value}(hl:vs.length=n*z)(h:0<n→∃b o,p=some ⟨b,o,none⟩∧∀(q:Nat) v,vs[q]?=some v→w.cell? ⟨b,o+q,none⟩=some v):
 (Builtin.firstCells z n (.slice p n cap)).run P w=.ok vs.toArray w:=by
 rcases P2 n with rfl|hn
 ·have:vs=[]:=yx (by omega);subst this;cases p<;>simp[Builtin.firstCells,loadCells,loadCellsFrom]
 ·grind[Builtin.firstCells,Qf]
def Sim.adopt{E}(h:Sim P E fr g s a w){q ver τ xs p}(hq:q<s.ob.length)(hver:∀o0,s.ob[q]?=some (some o0)→o0.ver<ver)(hv:VRel E g.St w (.slice p xs.length xs.length) (.dat τ xs))(hmx:xs.length≤9223372036854775807):
 ∃g',Sim P E fr g' {s with ob:=s.ob.set q<|some ⟨ver,τ,xs,some xs.length,true⟩} a w∧CRel P E g' (s.ob.set q<|some ⟨ver,τ,xs,some xs.length,true⟩) w (.slice p xs.length xs.length) (.ob q ver)∧g'.β=g.β∧g'.ω=g.ω:=by
 let g':G:={g with tk:=fun k=>if k=q then(p,xs.length)else g.tk k};have htq:g'.tk q=(p,xs.length):=by grind
 have htn:∀k,k≠q→g'.tk k=g.tk k:=fun k e=>by grind
 have hg:GLe g s.ob w g' (s.ob.set q<|some ⟨ver,τ,xs,some xs.length,true⟩) w:=RO hq hver (Keeps.refl _ _) (fun k hl=>⟨hl,rfl⟩) htn;have hs:∀x,Same g w g' w x:=fun x b i hx=>⟨hx,rfl,rfl⟩;refine⟨g',?_,⟨rfl,_,eH hq,y7 _,fun _=>by grind⟩,rfl,rfl⟩;refine{ext:=h.ext,tms:=h.tms.imp fun _ _=>AVRel.mono hg,bxs:=fun k fz cells hk=>?_,lbs:=h.lbs,obs:=?_,own:=h.own,dfr:=h.dfr,fix:=h.fix,bas:=h.bas}
 ·obtain⟨hl,hb⟩:=h.bxs k fz cells hk;exact⟨hl,hb.keep hl hg<|hs _⟩
 ·intro k o' hk;have hk':(s.ob.set q<|some (⟨ver,τ,xs,some xs.length,true⟩:Ob U))[k]?=some (some o'):=hk;by_cases e:k=q
  ·subst e;rw[eH hq]at hk';simp at hk';subst hk';refine⟨⟨by grind,fun f hf=>by grind⟩,fun hc=>?_⟩;rw[htq]at hc ⊢;rcases hv.inv with⟨rfl,_⟩|⟨b,o2,cap',cv,hv',hcap,g1,g2⟩
   ·grind
   ·obtain⟨rfl,_⟩:=hv';refine⟨b,o2,cv,rfl,⟨fun i j hi hj=>⟨(g1 i j hi hj).2,fun _=>(g1 i j hi hj).1,fun hh=>?_⟩,g2,fun _ x hx hx'=>?_⟩⟩
    all_goals grind
  ·rw[dP<|Ne.symm e]at hk';exact(h.obs k o' hk').keep hg.st (hs _)<|htn k e
def DE{q ver}(h:s.nver q=some ver):q<s.ob.length∧∀o0,s.ob[q]?=some (some o0)→o0.ver<ver:=by
 grind[S.nver,List.getElem?_eq_some_iff]
def ag1{E St τ ys p us}(hz:0<U.sz τ)(hr:zA E St w τ ys p us):∀v∈us,bH v=true:=by
 obtain⟨hul,_,r2⟩:=hr;intro v hv';obtain⟨jj,hj⟩:=j8 hv';have hj2:jj<ys.length*U.sz τ:=by grind
 have hd1:jj/U.sz τ<ys.length:=(PW hz).2 hj2;have hd2:jj % U.sz τ<(E.enc τ ys[jj/U.sz τ]).length:=by rw[E.len];exact A6 _ hz
 obtain⟨u,hu1,hu2⟩:=r2 (jj/U.sz τ) hd1 (jj % U.sz τ) _<|ya hd2;rw[show jj/U.sz τ*U.sz τ+jj % U.sz τ=jj from by simp[sy,y3w],hj]at hu1;simp at hu1;subst hu1;exact hu2.one
def vD{E St τ ys p us cap z}(hzz:z=U.sz τ)(hr:zA E St w τ ys p us):
 (Builtin.firstCells z ys.length<|.slice p ys.length cap).run P w=.ok us.toArray w∧(Builtin.firstCells z ys.length<|.slice p ys.length cap).run P w.drew=.ok us.toArray w.drew:=by
 obtain⟨h1,h2,_⟩:=hr;refine⟨Sc (by grind) fun hn=>?_,Sc (by grind) fun hn=>?_⟩
 ·exact h2<|by grind
 ·exact h2<|by grind
theorem ag2(hT:TabOK P M)(hF:FnsOK P M)(h:Sim P M.E fr g s a w){c r}(ho:o.op=.call c)(hc:c.callee=.builtin .append)(he:iJ s M o .append c=some r)(hob:∀p∈r.ob,p):co P o a w (cu P M fr s o r):=by
 unfold iJ at he;dsimp only at he;split at he
 ·rename_i x y tx ty d hx ht hd;have ex:=DD hx;have et:=DD ht;split at he
  ·rename_i vx vy e' τ₁ bytes' hxv hyv hti';obtain⟨hu',_⟩:=pw hT hti';unfold Bi at he;split at he
   ·rename_i cy;split at he
    ·rename_i e τ₀ bytes τ' ys ver hti hly hver;obtain⟨hu,⟨hz0,hby⟩,i,zv,hi,his,hib,hiz,hzs⟩:=pw hT hti;obtain⟨hq,hvr⟩:=DE hver;have hyr:CRel P M.E g s.ob w (a.eval y) cy:=h.evT hF hyv;obtain⟨q2,c2,ey,hc2⟩:=h.len hly hyr;have hlen:∀n:Nat,n*bytes≤ze→n≤ze:=fun n hn=>gK (P3 n hby) hn;have hrunp:∀(p:Option Addr)(n cap:Nat)(v:Value)(w':World),a.eval x=.slice p n cap→(Builtin.append_ #[tx,ty] o.type #[.slice p n cap,.slice q2 ys.length c2]).run P w=.ok v w'→(execOp a.eval o).run P w=.ok (.value v) w':=by
      intro p n cap v w' ep hr;simp[execOp,ho,resolve,hc,invoke,builtin,ex,et,ep,ey,hr]
     split at he
     ·
      rename_i τ xs;split at he
      ·rename_i h1 h2 hq1 hq2;cases h1;cases h2;simp at he;subst he;have hroom:=hob _ (yl.2 rfl);rw[ey]at hyr;obtain⟨_,_,us,hus⟩:=h.row hz0 hly hyr;obtain⟨hv,hfull⟩:CRel P M.E g s.ob w (a.eval x) (.sl _ xs true):=h.evT hF hxv;obtain⟨p,n,ep⟩:=hfull rfl;rw[ep]at hv;have hn:n=xs.length:=by
        rcases hv.inv with⟨rfl,_,_,e⟩|⟨_,_,_,_,e,_⟩
        ·simp at e;exact e.2.1
        ·simp at e;exact e.2.1
       subst hn;obtain⟨_,_,vs,hvs⟩:=h.row (c:=.sl _ xs true) hz0 rfl ⟨hv,fun _=>⟨_,_,rfl⟩⟩;rcases P2 ys.length with hm|hm
       ·have hys:ys=[]:=yx hm;subst hys;have hr:=Sa (P:=P) (T:=o.type) hu hu' hi p q2 xs.length xs.length 0 c2 [] w w (by have:=(vD (P:=P) (cap:=c2) his hus).1;have e0:us=[]:=yx (by simpa using hus.1);subst e0;exact this) (by simp) (by cases p<;>simp[storeCells]);obtain⟨g1,hs1,hc1,_,_⟩:=h.adopt (q:=s.okey d) (ver:=ver) hq hvr hv (by have:=hlen _ hroom;unfold ze at this;simp at this;omega);refine mi (hrunp _ _ _ _ _ ep hr) ⟨g1,?_⟩;have e2:xs++[]=xs:=de _;refine Sim.put' (s':=s) ?_ ?_
        ·show Sim P M.E fr g1 {s with bx:=s.bx,ob:=s.ob.set (s.okey d) (some ⟨ver,τ₀,xs++[],some xs.length,true⟩)} a w;rw[e2];exact hs1
        ·show CRel P M.E g1 (s.ob.set (s.okey d) (some ⟨ver,τ₀,xs++[],some xs.length,true⟩)) w _ (.ob (s.okey d) ver);rw[e2,iC];exact hc1
       ·have hgrow:xs.length<xs.length+ys.length:=by omega
        have hcapg:=grownCap_ge w (xs.length+ys.length) xs.length e;have hr:=Sb (P:=P) (T:=o.type) hu hu' hi hiz p q2 xs.length xs.length ys.length c2 vs us w (vD (P:=P) (cap:=xs.length) his hvs).2 (vD (P:=P) (cap:=c2) his hus).2 hgrow (by have:=hlen _ hroom;unfold ze at this;omega) (growslice_fits hgrow (by rw[hib];unfold ze at hroom;omega));generalize hcc:grownCap w (xs.length+ys.length) xs.length e=cc at hcapg hr;generalize hzz:(Builtin.zeroCells zv.cells (cc- (xs.length+ys.length))).toList=zz at hr;have hzl:zz.length=(cc- (xs.length+ys.length))*U.sz τ₀:=by rw[←hzz,iz,size_zeroCells,hzs]
        have hll:(vs++us).length=(xs.length+ys.length)*U.sz τ₀:=by rw[yb,hvs.1,hus.1,iA]
        have htot:(vs++us++zz).length=cc*U.sz τ₀:=by rw[yb,hll,hzl,←iA];congr 1;omega
        have hd0:=h.later ((Ext.refl w).drew)
        have hnew:=hd0.newObj (q:=s.okey d) (o:=⟨ver,τ₀,xs++ys,some xs.length,true⟩) hq hvr e (arr:=vs++us++zz) (cap:=cc) (f:=xs.length) rfl (by simp) (by have:=hlen _ hroom;unfold ze at this;simp;omega) htot (fun i' hi' j d' hd'=>by
         obtain⟨u,hu1,hu2⟩:=R9 (E:=M.E) (St:=g.St) (w:=w) hvs.1 hvs.2.2 hus.2.2 i' hi' j d' hd';refine⟨u,by rw[d7 (ym.1 hu1).1];exact hu1,hu2.mono ?_⟩
         exact fun b o' hs=>⟨hs,rfl⟩)
        obtain⟨g1,hs1,hc1⟩:=hnew;refine mi (hrunp _ _ _ _ _ ep hr) ⟨g1,?_⟩;refine Sim.put' (s':=s) hs1 ?_;have e1:(xs++ys).length=xs.length+ys.length:=yb;have hc2:CRel P M.E g1 (s.ob.set (s.okey d) (some ⟨ver,τ₀,xs++ys,some xs.length,true⟩)) (w.drew.alloc (.cells (vs++us++zz).toArray e)) (.slice (some ⟨w.drew.heap.size,0,none⟩) (xs++ys).length cc) (.ob (s.okey d) ver):=hc1;rw[e1]at hc2;exact hc2
      ·simp at he
     ·
      rename_i k v;split at he
      ·rename_i o' ho';split at he
       ·rename_i hlive;split at he
        ·rename_i h1 h2 hq1 hq2;have hz1:0<U.sz o'.τ:=by rw[←h2];exact hz0
         have hsz1:i.size=U.sz o'.τ:=by rw[his,h2]
         have hzs1:zv.cells.size=U.sz o'.τ:=by rw[hzs,h2]
         clear hq1 hq2;subst h1;simp only[y8]at he;subst he;have hroom:(o'.xs.length+ys.length)*bytes≤ze:=hob _ (yl.2 rfl);rw[ey]at hyr;obtain⟨_,_,us,hus⟩:=h.row hz1 hly hyr;have hxr:CRel P M.E g s.ob w (a.eval x) (.ob k v):=h.evT hF hxv;obtain⟨ep,hoR⟩:=h.obval ho' hxr;obtain⟨hk,hkv⟩:=gN ho';have hxl:s.lst (.ob k v)=some ⟨o'.τ,o'.xs⟩:=by simp only[S.lst,ho']
         rw[ep]at hxr;obtain⟨_,hcap,vs,hvs⟩:=h.row hz1 hxl hxr;have hcast:Km rfl ys=ys:=rfl;rcases yk (g.tk k).2 (o'.xs.length+ys.length)with hgrow|hfit
         ·have hcapg:=grownCap_ge w (o'.xs.length+ys.length) (g.tk k).2 e;have hr:=Sb (P:=P) (T:=o.type) hu hu' hi hiz (g.tk k).1 q2 o'.xs.length (g.tk k).2 ys.length c2 vs us w (vD (P:=P) (cap:=(g.tk k).2) hsz1 hvs).2 (vD (P:=P) (cap:=c2) hsz1 hus).2 hgrow (by have:=hlen _ hroom;unfold ze at this;omega) (growslice_fits hgrow (by rw[hib];unfold ze at hroom;omega));generalize hcc:grownCap w (o'.xs.length+ys.length) (g.tk k).2 e=cc at hcapg hr;generalize hzz:(Builtin.zeroCells zv.cells (cc- (o'.xs.length+ys.length))).toList=zz at hr;have hzl:zz.length=(cc- (o'.xs.length+ys.length))*U.sz o'.τ:=by rw[←hzz,iz,size_zeroCells,hzs1]
          have hll:(vs++us).length=(o'.xs.length+ys.length)*U.sz o'.τ:=by rw[yb,hvs.1,hus.1,iA]
          have htot:(vs++us++zz).length=cc*U.sz o'.τ:=by rw[yb,hll,hzl,←iA];congr 1;omega
          obtain⟨hsp,hgsp⟩:=h.spend hk;have hd0:=hsp.later ((Ext.refl w).drew);have hfroz:o'.frozen≤o'.xs.length:=by
           unfold Ob.frozen;split
           ·exact y7 _
           ·rename_i f hf;exact hoR.1.2 f hf
          have hrel:∀i'(hi':i'<(o'.xs++ys).length) j d',(M.E.enc o'.τ (o'.xs++ys)[i'])[j]?=some d'→∃u,(vs++us++zz)[i'*U.sz o'.τ+j]?=some u∧VRel M.E g.St w.drew u d':=fun i' hi' j d' hd'=>by
           obtain⟨u,hu1,hu2⟩:=R9 (E:=M.E) (St:=g.St) (w:=w) hvs.1 hvs.2.2 hus.2.2 i' hi' j d' hd';refine⟨u,by rw[d7 (ym.1 hu1).1];exact hu1,hu2.mono ?_⟩;exact fun b o' hs=>⟨hs,rfl⟩
          have e1:(o'.xs++ys).length=o'.xs.length+ys.length:=yb
          have hfin:∃g1,Sim P M.E fr g1 {s with ob:=(s.ob.set k (some o'.spent)).set (s.okey d) (some ⟨ver,o'.τ,o'.xs++ys,some o'.frozen,true⟩)} a (w.drew.alloc (.cells (vs++us++zz).toArray e))∧
           CRel P M.E g1 ((s.ob.set k (some o'.spent)).set (s.okey d) (some ⟨ver,o'.τ,o'.xs++ys,some o'.frozen,true⟩)) (w.drew.alloc (.cells (vs++us++zz).toArray e)) (.slice (some ⟨w.drew.heap.size,0,none⟩) (o'.xs++ys).length cc) (.ob (s.okey d) ver):=by
           by_cases e0:k=s.okey d
           ·subst e0;have hd1:=h.later ((Ext.refl w).drew);rw[List.set_set];exact hd1.newObj (q:=s.okey d) (o:=⟨ver,o'.τ,o'.xs++ys,some o'.frozen,true⟩) hq hvr e (arr:=vs++us++zz) (cap:=cc) (f:=o'.frozen) rfl (by simp;omega) (by have:=hlen _ hroom;unfold ze at this;simp;omega) htot hrel
           ·exact hd0.newObj (q:=s.okey d) (o:=⟨ver,o'.τ,o'.xs++ys,some o'.frozen,true⟩) (by simpa using hq) (fun o0 h0=>by
             have h0':(s.ob.set k (some o'.spent))[s.okey d]?=some (some o0):=h0
             rw[dP e0]at h0';exact hvr o0 h0') e (arr:=vs++us++zz) (cap:=cc) (f:=o'.frozen) rfl (by simp;omega) (by have:=hlen _ hroom;unfold ze at this;simp;omega) htot hrel
          obtain⟨g1,hs1,hc1⟩:=hfin;refine mi (hrunp _ _ _ _ _ ep hr) ⟨g1,?_⟩;refine Sim.put' (s':=s) hs1 ?_;rw[e1]at hc1;exact hc1
         ·have hstore:∃w',(match(g.tk k).1 with|some x=>storeCells (x.add (o'.xs.length*i.size)) us|none=>pure ()).run P w=.ok () w'∧(us=[]∧w'=w∨∃b off,(g.tk k).1=some ⟨b,off,none⟩∧Stored w w' b (off+o'.xs.length*U.sz o'.τ) us):=by
           by_cases hus0:us=[]
           ·subst hus0;refine⟨w,?_,.inl ⟨rfl,rfl⟩⟩;cases(g.tk k).1<;>simp[storeCells]
           ·have hul:0<us.length:=y21.2 hus0;have hml:us.length=ys.length*U.sz o'.τ:=hus.1;have hm:0<ys.length:=by
             rcases P2 ys.length with h0|h0
             ·rw[h0,Nat.zero_mul]at hml;omega
             ·exact h0
            obtain⟨b,off,cv,e2,hA⟩:=hoR.2 (by have:=hfit;omega);have h3:(o'.xs.length+ys.length)*U.sz o'.τ≤(g.tk k).2*U.sz o'.τ:=fB _ hfit;rw[iA]at h3
            obtain⟨w',hrun,hst⟩:=Gu (P:=P) us w b (off+o'.xs.length*U.sz o'.τ) 0 (ag1 hz1 hus) (fun j hj=>by
             obtain⟨_,d2,d3⟩:=hA.spare hlive (o'.xs.length*U.sz o'.τ+j) (by omega) (by omega);rw[show off+o'.xs.length*U.sz o'.τ+0+j=off+(o'.xs.length*U.sz o'.τ+j)from by omega]
             exact⟨d2,d3⟩)
            refine⟨w',?_,.inr ⟨b,off,e2,by rw[iC]at hst;exact hst⟩⟩;rw[e2];simp only[nW,hsz1];exact hrun
          obtain⟨w',hrun,hst⟩:=hstore;have hr:=Sa (P:=P) (T:=o.type) hu hu' hi (g.tk k).1 q2 o'.xs.length (g.tk k).2 ys.length c2 us w w' (vD (P:=P) (cap:=c2) hsz1 hus).1 hfit hrun;obtain⟨g1,hs1,hc1⟩:=h.appIn (q:=s.okey d) (ver:=ver) (ys:=ys) hz1 hk hlive hq hvr hfit (by have:=hlen _ hroom;unfold ze at this;omega) hus.1 hst hus.2.2;refine mi (hrunp _ _ _ _ _ ep hr) ⟨g1,?_⟩;exact Sim.put' (s':=s) hs1 hc1
        ·simp at he
       ·simp at he
      ·simp at he
     ·simp at he
    ·simp at he
   ·simp at he
  ·simp at he
 ·simp at he
end B
namespace B
open Go Go.RowKit
variable {U:Uni} {P:Program} {M:Mc U} {fr:Fr} {w:World} {g:G} {s:S U} {a:Act} {o:Oper}
def Sd off:∀(l:List Value)(k:Nat)(cells:Array Value),off+k+l.length≤cells.size→
 ((l.zipIdx k).foldl (fun(cs:Array Value)(x:Value×Nat)=>cs.setIfInBounds (off+x.2) x.1) cells).toList=cells.toList.take (off+k)++l++cells.toList.drop (off+k+l.length)
 |[],k,cells,_=>by simp
 |v::l,k,cells,h=>by
  simp at h ⊢;rw[Sd off l (k+1) _<|by grind,Kz];have hk:off+k<cells.toList.length:=by grind
  rw[show off+(k+1)=off+k+1 from by rfl];rw[List.take_set,List.drop_set,if_pos<|by omega,List.take_succ_eq_append_getElem hk];have:(cells.toList.take (off+k)++[cells.toList[off+k]]).set (off+k) v=cells.toList.take (off+k)++[v]:=by
   have hl:(cells.toList.take<|off+k).length=off+k:=by grind
   simp_all
  grind
def DF{E ob place}:∀{ps:List (Nat×Value)}{qs:List (Nat×List (C U))}{cells:Array Value}{cs out:List (C U)},
 All2 (fun x y=>x.1=y.1∧All2 (CRel P E g ob w) x.2.cells.toList y.2) ps qs→All2 (CRel P E g ob w) cells.toList cs→iH place cs qs=some out→
 ∃arr,Instr.fill place cells ps=some arr∧All2 (CRel P E g ob w) arr.toList out
 |[],[],cells,cs,out,_,hr,hf=>by simp[iH]at hf;subst hf;exact⟨cells,rfl,hr⟩
 |(i,v)::ps,(i',c)::qs,cells,cs,out,hp,hr,hf=>by
  obtain⟨⟨rfl,hv⟩,hp'⟩:=hp;simp only[iH]at hf;split at hf
  ·grind
  ·rename_i off size hpl;split at hf
   ·have h1:=hv.length;have h2:=hr.length;have hsz:v.cells.size=size:=by grind
    have hsp:=Sd off v.cells.toList 0 cells (by grind);have hcells:All2 (CRel P E g ob w) (v.cells.zipIdx.foldl (fun(cs:Array Value)(x:Value×Nat)=>cs.setIfInBounds (off+x.2) x.1) cells).toList (cs.take off++c++cs.drop (off+size)):=by
     rw[←Array.foldl_toList,Array.toList_zipIdx,hsp,iC,iz,hsz];exact((hr.take off).append hv).append (hr.drop _)
    obtain⟨arr,e1,e2⟩:=DF hp' hcells hf;simp_all[Instr.fill,if_neg]
   grind
def KT(hF:FnsOK P M)(h:Sim P M.E fr g s a w):∀{ps:List (Nat×Operand)}{qs:List (Nat×List (C U))},pL M s ps=some qs→
 All2 (fun x y=>x.1=y.1∧All2 (CRel P M.E g s.ob w) x.2.cells.toList y.2) (ps.map fun x=>(x.1,a.eval x.2)) qs
 |[],qs,hp=>by simp[pL]at hp;subst hp;trivial
 |(i,x)::ps,qs,hp=>by
  simp only[pL]at hp;split at hp
  ·rename_i cs l hc hl;simp at hp;subst hp;cases hx:s.ev M x with
   |none=>grind
   |some v=>
    simp[hx]at hc;exact⟨⟨rfl,Dz hc<|h.ev hF hx⟩,KT hF h hl⟩
  grind
theorem Se{α β:Type}(f:α→Sem β) G w:∀(l:List α),(∀x∈l,(f x).run P w=.ok (G x) w)→(l.mapM f).run P w=.ok (l.map G) w
 |[],_=>by simp
 |x::l,h=>by
  simp only[List.mapM_cons,Sem.run_bind,h x<|by simp,Result.andThen_ok,Se f G w l fun y hy=>h y<|by grind,Sem.run_pure,cL]
def ag3{α β:Type}(f:α→Sem β) G w(l:Array α)(h:∀x∈l.toList,(f x).run P w=.ok (G x) w):(l.mapM f).run P w=.ok (l.map G) w:=by
 rw[y4i,Sem.run_map,Se f G w l.toList h];simp only[Result.andThen_ok];congr 1;grind
theorem ag4(hT:TabOK P M)(hF:FnsOK P M)(h:Sim P M.E fr g s a w){t ps r}(ho:o.op=.build t ps)(he:aT M s o=some r):co P o a w (cu P M fr s o r):=by
 simp only[aT,ho]at he;split at he
 ·rename_i z fs n l hz hti hp;split at he
  ·split at he
   ·rename_i cs hfill;rw[cW he];obtain⟨i,zv,h1,h2,h3⟩:=hT.zero t z hz;have hzr:All2 (CRel P M.E g s.ob w) zv.cells.toList z:=h3.imp fun _ _ hh=>hh _ _ _ _ _;obtain⟨fl,hu,hsz,hfl⟩:∃fl,P.underlying t=some (.struct fl)∧fl.size=fs.length∧∀(f:Nat) d,fs[f]?=some d→∃fd,fl[f]?=some fd∧fd.offset=d.1∧0<d.2.1∧jt P fd.type d.2.2 d.2.1:=by
     have:=(hT.ti t).2;grind
    have hpr:=KT hF h hp;obtain⟨arr,e1,e2⟩:=DF hpr hzr hfill;have hin:∀fd∈fl.toList,∃(f:Nat)(d:Nat×Nat×Bool),fl[f]?=some fd∧fs[f]?=some d:=by
     intro fd hfd;obtain⟨f,hf⟩:=j8 hfd;rw[nO]at hf;have hlt:f<fs.length:=by grind
     exact⟨f,fs[f],hf,ya hlt⟩
    have hpl:(fl.mapM fun(f:Field)=>(do pure (f.offset,←Go.sizeOf f.type):Sem (Nat×Nat))).run P w=.ok (fl.map fun(f:Field)=>(f.offset,P.cellsOf f.type)) w:=by
     refine ag3 _ _ w fl fun fd hfd=>?_;obtain⟨f,d,i1,i2⟩:=hin fd hfd;obtain⟨fd',j1,j2,j3,j4⟩:=hfl f d i2;rw[i1]at j1;simp at j1;subst j1;obtain⟨_,ii,_,_,k3,k4⟩:=j4;simp[Go.sizeOf,typeInfo,k3,Program.cellsOf]
    have hplace:(fun(i:Nat)=>(fl.map fun(f:Field)=>(f.offset,P.cellsOf f.type))[i]?)=(fun(i:Nat)=>(fs[i]?).map fun(f:Nat×Nat×Bool)=>(f.1,f.2.1)):=by
     funext f;cases hf:fl[f]? with
     |none=>
      grind
     |some fd=>
      have hlt:f<fs.length:=by grind
      obtain⟨fd',j1,j2,j3,j4⟩:=hfl f fs[f]<|ya hlt;obtain⟨_,ii,_,_,k3,k4⟩:=j4;simp_all[ya,Program.cellsOf]
    refine bN h (v:=.agg arr) ?_ ⟨arr,rfl,e2⟩;simp only[execOp,ho,Instr.build,zeroValue,typeInfo,Sem.run_bind,run_program,Result.andThen_ok,h1,h2,Sem.run_pure,run_underlying hu,hpl];simp_all
   grind
  grind
 ·rename_i z len esz eagg l hz hti hp;split at he
  ·split at he
   ·rename_i cs hfill;rw[cW he];obtain⟨i,zv,h1,h2,h3⟩:=hT.zero t z hz;have hzr:All2 (CRel P M.E g s.ob w) zv.cells.toList z:=h3.imp fun _ _ hh=>hh _ _ _ _ _;obtain⟨e,hu,hs⟩:∃e,P.underlying t=some (.array len e)∧jt P e eagg esz:=by
     have:=(hT.ti t).2;grind
    obtain⟨arr,e1,e2⟩:=DF (KT hF h hp) hzr hfill;refine bN h (v:=.agg arr) ?_ ⟨arr,rfl,e2⟩;simp only[execOp,ho,Instr.build,zeroValue,typeInfo,Sem.run_bind,run_program,Result.andThen_ok,h1,h2,Sem.run_pure,run_underlying hu,run_sizeOf hs];simp_all
   grind
  grind
 grind
def Sf{α:Type}(l:List α)(hl:0<l.length):∀(n q:Nat),q<n*l.length→((List.replicate n l).flatten)[q]?=l[q % l.length]?
 |0,q,h=>by omega
 |n+1,q,h=>by
  rw[y4j,vq];rcases yk q l.length with h1|h1
  ·rw[d7 h1,PX h1]
  ·rw[fC h1,Sf l hl n (q- l.length)<|by grind,Nat.mod_eq_sub_mod h1]
def KU:∀{cs:List (C U)}{ds:List (V U)}{j:Nat}{d:V U},s.toVs cs=some ds→ds[j]?=some d→∃c,cs[j]?=some c∧s.toV c=some d
 |[],ds,j,d,h,hd=>by simp_all[S.toVs]
 |c::cs,ds,j,d,h,hd=>by
  simp only[S.toVs]at h;split at h
  ·rename_i v vs h1 h2;simp at h;subst h;cases j with
   |zero=>grind
   |succ j=>simp at hd ⊢;exact KU h2 hd
  grind
def Sg{τ z}(hz:z=U.sz τ):∀(len:Nat){cs:List (C U)}{xs:List (U.Den τ)},pM M s τ (rF z len cs)=some xs→xs.length=len∧
 ∀i(hi:i<xs.length) j d,(M.E.enc τ xs[i])[j]?=some d→∃c,cs[i*z+j]?=some c∧s.toV c=some d
 |0,cs,xs,h=>by simp[rF,pM]at h;subst h;exact⟨rfl,fun i hi=>by simp at hi⟩
 |len+1,cs,xs,h=>by
  simp only[rF,pM]at h;split at h
  ·rename_i x r h1 h2;simp at h;subst h;obtain⟨e1,e2⟩:=Sg hz len h2;refine⟨by grind,fun i hi j d hd=>?_⟩;cases hv:s.toVs (cs.take z)with
   |none=>grind
   |some ds=>
    simp[hv]at h1;have hb:=M.E.back τ ds x h1;cases i with
    |zero=>
     simp at hd;rw[hb]at hd;obtain⟨c,hc,hcv⟩:=KU hv hd;grind
    |succ i=>
     grind
  grind
end B
namespace B
open Go Go.RowKit
variable {U:Uni} {P:Program} {M:Mc U} {fr:Fr} {w:World} {g:G} {s:S U} {a:Act} {o:Oper}
def Sh(hT:TabOK P M)(hF:FnsOK P M)(h:Sim P M.E fr g s a w){e}:∀{ps:List (Nat×Operand)}{qs:List (Nat×List (C U))},partsK M s e ps=some qs→
 All2 (fun x y=>x.1=y.1∧All2 (CRel P M.E g s.ob w) x.2.cells.toList y.2) (ps.map fun x=>(x.1,a.eval x.2)) qs
 |[],qs,hp=>by simp[partsK]at hp;subst hp;trivial
 |(i,x)::ps,qs,hp=>by
  simp only[partsK]at hp;split at hp
  ·rename_i cs l hc hl;simp at hp;subst hp;refine⟨⟨rfl,?_⟩,Sh hT hF h hl⟩;unfold ui at hc;split at hc
   ·split at hc
    ·split at hc
     ·rename_i hzs;simp at hc;subst hc;exact(KE hzs).imp fun _ _ hh=>hh _ _ _ _ _
     grind
    grind
   ·cases hx:s.evT M e x with
    |none=>grind
    |some v=>
     simp[hx]at hc;exact Dz hc<|h.evT hF hx
  grind
theorem Si{α}:∀(x:List (Nat×α))(l:List α),(aH l x).length=l.length
 |[],_=>rfl
 |(k,y)::r,l=>by simp only[aH];rw[Si r];simp
def ag5{s0:S U}{ob'}(hf:FrzLe s0.ob ob'){q ver:Nat}(h:∀o0,s0.ob[q]?=some (some o0)→o0.ver<ver):∀o0,ob'[q]?=some (some o0)→o0.ver<ver:=by
 cases hq:s0.ob[q]? with
 |none=>have:=(hf q).2 (by grind);grind
 |some x=>
  cases x with
  |none=>have:=(hf q).2 (by grind);grind
  |some o1=>
   obtain⟨o2,h2,h3⟩:=(hf q).1 o1 hq;grind
theorem DG{c k}(h:k∈c.obs):∀{cs:List (C U)}{i:Nat},cs[i]?=some c→k∈Cs.obs cs
 |[],i,hc=>by grind
 |d::cs,0,hc=>by simp_all[Cs.obs]
 |d::cs,i+1,hc=>by simp only[Cs.obs,ye];exact .inr<|DG h (i:=i)<|by grind
theorem ag6(hT:TabOK P M)(hF:FnsOK P M)(h:Sim P M.E fr g s a w){t len ps r}(ho:o.op=.buildSlice t len ps)(he:aT M s o=some r):co P o a w (cu P M fr s o r):=by
 simp only[aT,ho]at he;split at he
 ·rename_i e τ bytes d hti hd;obtain⟨hu,⟨hz,_⟩,i,zv,hi,his,_,hiz,hzs⟩:=pw hT hti;split at he
  ·rename_i zc l ver hze hp hver;obtain⟨hq,hvr⟩:=DE hver;split at he
   ·rename_i hl;obtain⟨hzl,hlen,_⟩:=hl;split at he
    ·rename_i cs hfill;split at he
     ·rename_i xs hdec;simp at he;subst he;obtain⟨i',zv',h1,h2,h3⟩:=hT.zero e zc hze;rw[hi]at h1;simp at h1;subst h1;rw[hiz]at h2;simp at h2;subst h2;have hzr:All2 (CRel P M.E g s.ob w) zv.cells.toList zc:=h3.imp fun _ _ hh=>hh _ _ _ _ _;let zero:Array Value:=if len*U.sz τ=0 then#[]else zv.cells;let rows:Array Value:=(Array.range<|len*U.sz τ).map fun q=>zero[q % zero.size]!;have hrows:All2 (CRel P M.E g s.ob w) rows.toList ((List.replicate len zc).flatten):=by
       refine All2.of_get (by simp[rows,hzl]) ?_;intro q v c hv hc;have hpos:0<zc.length:=by omega
       rw[Sf zc hpos len q<|by grind,hzl]at hc;obtain⟨u,hu1,hu2⟩:=hzr.get (q % U.sz τ) hc;grind
      obtain⟨arr,e1,e2⟩:=DF (place:=fun i=>some (i*U.sz τ,U.sz τ)) (Sh hT hF h hp) hrows hfill;obtain⟨x1,x2⟩:=Sg (M:=M) (s:=s) rfl len hdec;have hal:arr.toList.length=len*U.sz τ:=by
       rw[e2.length];have:∀(qs:List (Nat×List (C U)))(cs out:List (C U)),iH (fun i=>some (i*U.sz τ,U.sz τ)) cs qs=some out→out.length=cs.length:=by
        intro qs
        induction qs with
        |nil=>simp[iH]
        |cons y qs ih=>
         grind[iH]
       rw[this _ _ _ hfill];simp_all
      obtain⟨g1,hs1,hg1,hf1,hfz⟩:=Sim.frzs (Cs.obs cs) (s0:=s) rfl h<|FrzLe.refl _
      obtain⟨g2,hs2,hc2⟩:=hs1.newObj (q:=s.okey d) (o:=⟨ver,τ,xs,some 0,true⟩) (by simp_all[aH,Si]) (ag5 hf1 hvr) e (arr:=arr.toList) (cap:=len) (f:=0) rfl (yc _) (by show xs.length≤len∧xs.length≤9223372036854775807;have:len≤len*U.sz τ:=P3 _ (by omega);omega) hal (fun i hi j d' hd'=>by
       obtain⟨c,hc,hcv⟩:=x2 i hi j d' hd';obtain⟨u,hu1,hu2⟩:=e2.get _ hc
       exact⟨u,hu1,hs1.frozenV (s0:=s) hf1 (fun q hq=>hfz q (.inl (DG hq hc))) hcv (CRel.mono hg1 hu2)⟩)
      refine mi (v:=.slice (some ⟨w.heap.size,0,none⟩) len len) (w':=w.alloc<|.cells arr e) ?_ ⟨g2,Sim.put' (s':=s) ?_ ?_⟩
      ·have e3:Instr.fill (fun i=>some (i*U.sz τ,U.sz τ)) rows (ps.map fun x=>(x.1,a.eval x.2)).toList=some arr:=by
        simp_all
       have hnb:¬(len*U.sz τ>2 ^24):=by omega
       simp only[execOp,ho,Instr.buildSlice,Sem.run_bind,run_underlying hu,Result.andThen_ok,vC hi,his];by_cases h0:len*U.sz τ=0
       ·have hz0:zero=#[]:=if_pos h0;have e4:=e3;simp only[rows,hz0]at e4;simp_all[if_pos,Sem.run_bind,Sem.run_pure,Result.andThen_ok,newRow]
       ·have hz0:zero=zv.cells:=if_neg h0;have e4:=e3;simp only[rows,hz0]at e4;simp only[Sem.run_bind,Sem.run_pure,Result.andThen_ok,zeroValue,typeInfo,run_program,hi,hiz];simp_all[newRow]
      ·simp_all[aH,Cs.obs,pR]
      ·show CRel P M.E g2 (aH s.ob<|s.frz (Cs.obs cs)++[(s.okey d,some ⟨ver,τ,xs,some 0,true⟩)]) (w.alloc<|.cells arr e) (.slice (some ⟨w.heap.size,0,none⟩) len len) (.ob (s.okey d) ver);simp_all[pR,CRel,aH,Cs.obs,set]
     grind
    grind
   grind
  grind
 grind
theorem ag7:∀{cs:List (C U)}{ds:List (V U)},s.toVs cs=some ds→ds.length=cs.length
 |[],ds,h=>by simp_all[S.toVs]
 |c::cs,ds,h=>by
  simp only[S.toVs]at h;split at h
  ·rename_i v vs h1 h2;simp at h;subst h;simp[ag7 h2]
  grind
theorem ag8(hT:TabOK P M)(hF:FnsOK P M)(h:Sim P M.E fr g s a w){t x y r}(ho:o.op=.makeSlice t x y)(he:aT M s o=some r)(hob:∀p∈r.ob,p):co P o a w (cu P M fr s o r):=by
 simp only[aT,ho]at he;split at he
 ·rename_i vl vc d hx hy hd;unfold yT at he;split at he
  ·rename_i n c e τ bytes hti;obtain⟨hu,⟨hz,_⟩,i,zv,hi,his,hib,hiz,hzs⟩:=pw hT hti;split at he
   ·rename_i zc ver hze hver;obtain⟨hq,hvr⟩:=DE hver;split at he
    ·split at he
     ·rename_i x0 hx0;simp at he;subst he;obtain⟨q1,q2,q3⟩:=hob _ (yl.2 rfl);have hxv:a.eval x=.int .i64 n:=(h.ev hF hx).1;have hyv:a.eval y=.int .i64 c:=(h.ev hF hy).1;obtain⟨i',zv',h1,h2,h3⟩:=hT.zero e zc hze;rw[hi]at h1;simp at h1;subst h1;rw[hiz]at h2;simp at h2;subst h2;cases hds:s.toVs zc with
      |none=>grind
      |some ds=>
       simp[hds]at hx0;have hback:=M.E.back _ _ _ hx0;have hcc:c≤35184372088832:=by
        unfold ze at q3;have:c.toNat≤c.toNat*bytes:=P3 _ (by omega);omega
       generalize harrd:madeCells zv.cells (c.toNat*U.sz τ)=arr;have hal:arr.toList.length=c.toNat*U.sz τ:=by rw[←harrd,iz,size_madeCells]
       have hag:∀q,q<c.toNat*U.sz τ→arr.toList[q]?=zv.cells.toList[q % U.sz τ]?:=by
        intro q hqq;have hlt:q % U.sz τ<zv.cells.size:=by simp_all[A6]
        rw[←harrd];simp only[madeCells,hzs,A8,Array.toList_range,dn,PZ hqq,iD,nO];grind
       have hzr:∀(g':G)(ob:List (Option (Ob U)))(w':World),All2 (CRel P M.E g' ob w') zv.cells.toList zc:=fun g' ob w'=>h3.imp fun _ _ hh=>hh _ _ _ _ _
       obtain⟨g2,hs2,hc2⟩:=h.newObj (q:=s.okey d) (o:=⟨ver,τ,List.replicate n.toNat x0,some 0,true⟩) hq hvr e (arr:=arr.toList) (cap:=c.toNat) (f:=0) rfl (yc _) (by grind) hal (fun i1 hi1 j d' hd'=>by
        have hd2:(M.E.enc τ x0)[j]?=some d':=by
         grind
        rw[hback]at hd2;obtain⟨cc,hc,hcv⟩:=KU hds hd2;obtain⟨u,hu1,hu2⟩:=(hzr g s.ob w).get j hc;refine⟨u,?_,?_⟩
        ·grind[uo,Nat.mul_comm,Nat.mul_add_mod,Nat.mod_eq_of_lt]
        ·obtain⟨c2,hc2,hzz⟩:=h3.get' j hu1;rw[hc]at hc2;simp at hc2;subst hc2;cases cc with
         |s x=>simp[S.toV]at hcv;subst hcv;obtain⟨rfl,hh⟩:=hu2;exact .s _ hh
         |sl τ' xs f=>simp[S.toV]at hcv;subst hcv;exact hu2.1
         |ob k v=>
          obtain⟨_,o1,ho1,_⟩:=hzz P M.E g [] w;grind
         |_=>grind[S.toV])
       refine mi (v:=.slice (some ⟨w.heap.size,0,none⟩) n.toNat c.toNat) (w':=w.alloc (.cells arr e)) ?_ ⟨g2,Sim.put' (s':=s) hs2 ?_⟩
       ·grind[run_make,ze,execOp,Sem.run_bind,Result.andThen_ok,Sem.run_pure]
       ·have hc3:CRel P M.E g2 (s.ob.set (s.okey d) (some ⟨ver,τ,List.replicate n.toNat x0,some 0,true⟩)) (w.alloc (.cells arr e)) (.slice (some ⟨w.heap.size,0,none⟩) (List.replicate n.toNat x0).length c.toNat) (.ob (s.okey d) ver):=hc2;rw[sE]at hc3;exact hc3
     grind
    grind
   grind
  grind
 grind
end B
namespace B
open Go Go.RowKit
variable {U:Uni} {P:Program} {M:Mc U} {fr:Fr} {w:World} {g:G} {s:S U} {a:Act} {o:Oper}
theorem ag9{s0 s1:S U}(hf:FrzLe s0.ob s1.ob) q:s1.nver q=s0.nver q:=by
 unfold S.nver;cases hq:s0.ob[q]? with
 |none=>rw[(hf q).2<|by grind,hq]
 |some x=>
  cases x with
  |none=>rw[(hf q).2<|by grind,hq]
  |some o1=>
   obtain⟨o2,h2,h3⟩:=(hf q).1 o1 hq;grind
theorem KV{s0 s1:S U}(hf:FrzLe s0.ob s1.ob):∀(os:List (Ob U))(q:Nat),s1.vers q os=s0.vers q os
 |[],q=>rfl
 |_::r,q=>by simp only[S.vers,ag9 hf,KV hf r]
def Bl{c f caps w}(hb:dw P f)(ho:o.op=.call c){x}(hc:c.callee=.value x)(hv:a.eval x=.func (.func f) #[] caps):
 (execOp a.eval o).run P w=.ok (.enter f<|c.args.map a.eval++caps) w:=by
 obtain⟨fn,body,hfn,hbody,hname⟩:=hb;simp_all[execOp,resolve,Deferred.ofValue,invoke,callFunc]
theorem aha{E gr g' ob ob' w w' v}{rs:List (A U)}(hs:rs.all A.scal=true)(h:RetRel (ARel P E gr ob w) v rs):RetRel (ARel P E g' ob' w') v rs:=by
 have hc:∀{u:Value}{c:C U},c.scal=true→CRel P E gr ob w u c→CRel P E g' ob' w' u c:=by
  intro u c hh hu;cases c with
  |s x=>exact hu
  |_=>simp[C.scal]at hh
 have hcs:∀{us:List Value}{cs:List (C U)},cs.all C.scal=true→All2 (CRel P E gr ob w) us cs→All2 (CRel P E g' ob' w') us cs:=by
  intro us cs
  induction cs generalizing us with
  |nil=>intro _ hu;cases us with|nil=>trivial|cons _ _=>exact hu.elim
  |cons c cs ih=>
   intro hh hu;simp only[fb,yp]at hh;cases us with
   |nil=>exact hu.elim
   |cons u us=>exact⟨hc hh.1 hu.1,ih hh.2 hu.2⟩
 have ha:∀{u:Value}{x:A U},x.scal=true→ARel P E gr ob w u x→ARel P E g' ob' w' u x:=by
  intro u x hh hu;cases x with
  |c y=>exact hc hh hu
  |agg cs=>obtain⟨arr,e,h2⟩:=hu;exact⟨arr,e,hcs hh h2⟩
  |top=>trivial
 have has:∀{us:List Value}{al:List (A U)},al.all A.scal=true→All2 (ARel P E gr ob w) us al→All2 (ARel P E g' ob' w') us al:=by
  intro us al
  induction al generalizing us with
  |nil=>intro _ hu;cases us with|nil=>trivial|cons _ _=>exact hu.elim
  |cons c cs ih=>
   intro hh hu;simp only[fb,yp]at hh;cases us with
   |nil=>exact hu.elim
   |cons u us=>exact⟨ha hh.1 hu.1,ih hh.2 hu.2⟩
 match rs,hs,h with
 |[],hs,h=>obtain⟨arr,e,h2⟩:=h;exact⟨arr,e,has hs h2⟩
 |[x],hs,h=>simp at hs;exact ha hs h
 |_::_::_,hs,h=>obtain⟨arr,e,h2⟩:=h;exact⟨arr,e,has hs h2⟩
theorem Sj{q vers}:∀{rs rs':List (A U)},rs.all A.scal=true→As.ret q vers rs=some rs'→rs'=rs
 |[],rs',_,h=>by simp_all[As.ret]
 |x::rs,rs',hs,h=>by
  simp only[fb,yp]at hs;simp only[As.ret]at h;split at h
  ·rename_i y ys h1 h2;simp at h;subst h;rw[Sj hs.2 h2];congr 1;cases x with
   |c c=>
    cases c with
    |s v=>simp_all[A.ret,C.ret]
    |_=>simp[A.scal,C.scal]at hs
   |agg cs=>
    simp only[A.ret]at h1;split at h1
    ·rename_i z hz;simp at h1;subst h1;congr 1;have:∀{cs zs:List (C U)},cs.all C.scal=true→Cs.ret q vers cs=some zs→zs=cs:=by
      intro cs
      induction cs with
      |nil=>simp[Cs.ret]
      |cons c cs ih=>
       intro zs hh h;simp only[Cs.ret]at h;split at h
       ·cases c with
        |s v=>simp_all[C.ret]
        |_=>simp[C.scal]at hh
       grind
     exact this hs.1 hz
    grind
   |top=>grind[A.scal]
  grind
theorem Bm{k}:∀{ks:List Nat}{l:List (Option<|Ob U)},k ∉ks→(aH l<|s.frz ks)[k]?=l[k]?
 |[],_,_=>rfl
 |q::ks,l,hn=>by
  simp at hn;simp only[S.frz];split
  ·simp only[aH];rw[Bm hn.2,dP<|Ne.symm hn.1]
  ·exact Bm hn.2
theorem KW{s':S U}:∀{ks:List Nat},(∀k∈ks,s'.bx[k]?=s.bx[k]?)→s'.boxesAt ks=s.boxesAt ks
 |[],_=>rfl
 |k::ks,h=>by simp only[S.boxesAt,h k<|cP ..,KW (ks:=ks) fun q hq=>h q<|cV _ hq]
theorem KX{s':S U}:∀{ks:List Nat},(∀k∈ks,s'.ob[k]?=s.ob[k]?)→s'.passed ks=s.passed ks
 |[],_=>rfl
 |k::ks,h=>by simp only[S.passed,h k<|cP ..,KX (ks:=ks) fun q hq=>h q<|cV _ hq]
theorem KY{s':S U}:∀{ks:List Nat},(∀k∈ks,s'.ob[k]?=s.ob[k]?)→s'.spents ks=s.spents ks
 |[],_=>rfl
 |k::ks,h=>by simp only[S.spents,h k<|cP ..,KY (ks:=ks) fun q hq=>h q<|cV _ hq]
def Sk{s0 s1:S U}(hf:FrzLe s0.ob s1.ob) k v:(s1.obAt k v).isSome=(s0.obAt k v).isSome:=by
 unfold S.obAt;cases hq:s0.ob[k]? with
 |none=>rw[(hf k).2<|by grind,hq]
 |some x=>
  cases x with
  |none=>rw[(hf k).2<|by grind,hq]
  |some o1=>
   obtain⟨o2,h2,h3⟩:=(hf k).1 o1 hq;grind
theorem Sl{s0 s1}(hf:FrzLe s0.ob s1.ob) ks oks(c:C U):c.pass s1 ks oks=c.pass s0 ks oks:=by
 cases c with
 |ob k v=>
  have:=Sk hf k v;simp only[C.pass];cases h1:s1.obAt k v<;>cases h0:s0.obAt k v<;>rw[h1,h0]at this<;>first|rfl|grind|grind
 |em k v i off=>
  have:=Sk hf k v;simp only[C.pass];cases h1:s1.obAt k v<;>cases h0:s0.obAt k v<;>rw[h1,h0]at this<;>first|rfl|grind|grind
 |_=>rfl
theorem mj:∀{l r:List Nat},eI l r=false→∀k∈l,k ∉r
 |[],_,_,k,hk=>by grind
 |x::l,r,h,k,hk=>by
  simp only[eI,y3d]at h;rcases yh.1 hk with rfl|hk
  ·intro hr;have:=y3z.1 h.1 k hr;simp_all
  ·exact mj h.2 k hk
def ahb{E s1 g1}(hs1:Sim P E fr g1 s1 a w)(hf:FrzLe s.ob s1.ob){ks oks os}(hos:s1.passed oks=some os){m v x y}(hfz:∀k∈rH s false m x,∀o,s1.ob[k]?=some (some o)→o.fr=none)(he:pt s ks oks m x=some y)(hx:ARel P E g1 s1.ob w v x):ARel P E (g1.sub ks oks) (os.map some) w v y:=by
 have hbx:∀{k off:Nat},x=.c (.bx k off)→ARel P E (g1.sub ks oks) (os.map some) w v y:=by
  rintro k off rfl;have he':(match bX k ks 0 with|some i=>some (A.c (C.bx (U:=U) i off))|none=>none)=some y:=by cases m<;>exact he
  cases hi:bX k ks 0 with
  |none=>grind
  |some i=>
   rw[hi]at he';simp at he';subst he';have:=Dw (ks:=ks) hs1 hos (c:=.bx k off) hx;simp only[C.pass,hi]at this;exact this
 have hdat:∀{c:C U},x=.c c→(∀k∈c.obs,∀o,s1.ob[k]?=some (some o)→o.fr=none)→(match s.toV c with|some d=>some (A.c (C.ofV d))|none=>none)=some y→ARel P E (g1.sub ks oks) (os.map some) w v y:=by
  rintro c rfl hk he';cases hd:s.toV c with
  |none=>grind
  |some d=>
   rw[hd]at he';simp at he';subst he';exact pP rfl ((hs1.frozenV (s0:=s) hf hk hd hx).mono sK)
 have hpass:∀{c:C U},x=.c c→some (A.c (c.pass s ks oks))=some y→ARel P E (g1.sub ks oks) (os.map some) w v y:=by
  rintro c rfl he';simp at he';subst he';rw[←Sl hf];exact Dw hs1 hos hx
 cases x with
 |top=>grind[pt]
 |agg cs=>
  simp only[pt]at he;split at he
  ·rename_i ds hds;simp at he;subst he;obtain⟨arr,e,hh⟩:=hx;have hk:∀k∈Cs.obs cs,∀o,s1.ob[k]?=some (some o)→o.fr=none:=fun k hk=>hfz k (by cases m<;>exact hk);exact⟨arr,e,uq C.ofV (fun _ _ hv=>pP rfl (hv.mono sK)) (hs1.frozenVs (s0:=s) hf hk hds hh)⟩
  grind
 |c c=>
  cases c with
  |bx k off=>grind
  |fv φ=>
   have he':some (A.c (C.fv φ))=some y:=by cases m<;>exact he
   simp at he';subst he';exact FunRel.mono sK hx
  |fc f caps=>
   have he':(match rG ks caps with|some is=>some (A.c (C.fc (U:=U) f is))|none=>none)=some y:=by cases m<;>exact he
   have key:∀{caps is:List Nat},rG ks caps=some is→(∀k∈caps,g1.lb k)→is.map (fun i=>Value.pointer (some ⟨(g1.sub ks oks).β i,0,none⟩))=caps.map (fun k=>Value.pointer (some ⟨g1.β k,0,none⟩))∧∀i∈is,(g1.sub ks oks).lb i:=by
    intro caps
    induction caps with
    |nil=>intro is h1 _;simp[rG]at h1;subst h1;exact⟨rfl,by simp⟩
    |cons k r ih=>
     intro is h1 h2;simp only[rG]at h1;split at h1
     ·rename_i i l hi hl;simp at h1;subst h1;obtain⟨i1,i2⟩:=ih hl (fun q hq=>h2 q (by grind));have hp:=Dw (ks:=ks) hs1 hos (v:=.pointer (some ⟨g1.β k,0,none⟩)) (c:=.bx k 0) ⟨h2 k (by simp),rfl⟩;simp only[C.pass,hi]at hp;refine⟨?_,?_⟩
      ·simp only[cL,i1,←hp.2]
      ·intro q hq;rcases yh.1 hq with rfl|hq;exact hp.1;grind
     grind
   cases hi:rG ks caps with
   |none=>grind
   |some is=>
    rw[hi]at he';simp at he';subst he';obtain⟨k1,k2⟩:=key hi hx.2;refine⟨?_,k2⟩;rw[hx.1];simp_all[gM]
  |_=>
   cases m with
   |true=>exact hpass rfl he
   |false=>exact hdat rfl hfz he
def Sm{E s1 g1}(hs1:Sim P E fr g1 s1 a w)(hf:FrzLe s.ob s1.ob){ks oks os}(hos:s1.passed oks=some os):∀{ms:List Bool}{vs:List Value}{al al':List (A U)},
 (∀k∈dM s false ms al,∀o,s1.ob[k]?=some (some o)→o.fr=none)→pu s ks oks ms al=some al'→All2 (ARel P E g1 s1.ob w) vs al→All2 (ARel P E (g1.sub ks oks) (os.map some) w) vs al'
 |ms,[],[],al',_,he,_=>by simp[pu]at he;subst he;trivial
 |ms,v::vs,x::al,al',hfz,he,hx=>by
  simp only[pu]at he;split at he
  ·rename_i y ys h1 h2;simp at he;subst he;exact⟨ahb hs1 hf hos (fun k hk=>hfz k<|by simp_all[dM,f9]) h1 hx.1,Sm hs1 hf hos (fun k hk=>hfz k<|by simp_all[dM,gL]) h2 hx.2⟩
  grind
def Sn(hF:FnsOK P M)(h:Sim P M.E fr g s a w){f ms F al vs d r}(hg:M.gns f=some (ms,F))(he:rJ s d F ms al=some r)(hob:∀p∈r.ob,p)(hal:All2 (ARel P M.E g s.ob w) vs al)(hrun:dw P f→(execOp a.eval o).run P w=.ok (.enter f vs.toArray) w):co P o a w (cu P M fr s o r):=by
 unfold rJ at he;split at he
 ·rename_i bs hbs;split at he
  ·rename_i hchk;simp at hchk;obtain⟨⟨hu,huo⟩,hmt⟩:=hchk;split at he
   ·rename_i os al' hos hargs;split at he
    ·rename_i ob rs bs' os' hFd;split at he
     ·rename_i hlen;split at he
      ·rename_i vers hvers;simp at he;subst he;generalize hoks:dM s true ms al++s.cursB bs=oks at*;generalize hdks:dM s false ms al=dks at*;generalize hks:As.bxs al=ks at*;obtain⟨hcon,hbody⟩:=hF.gns f ms F _ _ _ ob rs bs' os' hg hFd hob;obtain⟨g1,hs1,hg1,hf1,hfz⟩:=Sim.frzs dks (s0:=s) rfl h<|FrzLe.refl _;have hne:∀k∈oks,(aH s.ob<|s.frz dks)[k]?=s.ob[k]?:=fun k hk=>Bm<|mj hmt k hk;have hos1:({s with ob:=aH s.ob<|s.frz dks}:S U).passed oks=some os:=(KX (s:=s) (s':={s with ob:=aH s.ob<|s.frz dks}) hne).trans hos;have hbs1:({s with ob:=aH s.ob<|s.frz dks}:S U).boxesAt ks=some bs:=(KW (s:=s) (s':={s with ob:=aH s.ob<|s.frz dks}) fun _ _=>rfl).trans hbs;have hpart:=hs1.part hu huo hbs1 hos1;have hpe:(fun b:Bool×List (C U)=>(b.1,b.2.map<|C.pass ({s with ob:=aH s.ob<|s.frz dks}:S U) ks oks))=fun b=>(b.1,b.2.map<|C.pass s ks oks):=by
        funext b;congr 2;grind[Sl]
       rw[hpe]at hpart;have hD:=Sm hs1 hf1 (ks:=ks) hos1 (fun k hk=>hfz k<|.inl<|by grind) hargs<|hal.imp fun _ _=>ARel.mono hg1;intro Q;unfold Oper.wp;rw[hrun hbody];refine Calls.mono (hcon w _ vs hpart hD) ?_;rintro e w' ⟨v,rfl,hR⟩;obtain⟨g2,hs2,hv2⟩:=hs1.gcall hu huo hbs1 hos1 hlen.1 (by rw[KV hf1];exact hvers) hR;rw[KY (s:=s) (s':={s with ob:=aH s.ob<|s.frz dks}) hne]at hs2 hv2;refine⟨g2,Sim.put' (s':=s) ?_ ?_⟩
       all_goals grind[aH,rI,fe,pR,AVRel]
      grind
     grind
    grind
   grind
  grind
 grind
def So{α:Type}{l:List α}{i x}(h:l[i]?=some x):l.set i x=l:=by
 apply P4;grind
theorem Sim.objNil{E}(h:Sim P E fr g s a w){p q s'}(hn:s.objNil p q=some s'):∃g',Sim P E fr g' s' a w:=by
 unfold S.objNil at hn;split at hn
 ·rename_i τ hp;split at hn
  ·rename_i ver hver;simp at hn;subst hn;obtain⟨hq,hvr⟩:=DE hver;cases p with
   |sl d=>
    simp only[S.refAt]at hp;split at hp
    ·rename_i x hx;simp at hp;subst hp;obtain⟨v,hv,hr⟩:=All2.get d h.tms hx;obtain⟨hV,hfull⟩:CRel P E g s.ob w v (.sl τ [] true):=hr;obtain⟨p0,n,rfl⟩:=hfull rfl;have hn0:n=0:=by rcases hV.inv with⟨_,_,_,e⟩|⟨_,_,_,_,e,_⟩<;>(grind)
     subst hn0;obtain⟨g1,hs1,hc1,hβ,hω⟩:=h.adopt (q:=q) (ver:=ver) (xs:=([]:List (U.Den τ))) hq hvr hV (by simp);refine⟨g1,{hs1 with tms:=?_}⟩;have:=All2.set d (hs1.tms) (show AVRel P E g1 _ w (.slice p0 0 0) (.one (.c (.ob q ver)))from hc1);have e:a.tmps.toList.set d (.slice p0 0 0)=a.tmps.toList:=So hv;rw[e]at this;exact this
    grind
   |cell k i=>
    simp only[S.refAt]at hp;split at hp
    ·rename_i fz cells hk;obtain⟨hl,vs,h1,h2⟩:=h.bxs k fz cells hk;obtain⟨v,hv,hr⟩:=h1.get i hp;obtain⟨hV,hfull⟩:CRel P E g s.ob w v (.sl τ [] true):=hr;obtain⟨p0,n,rfl⟩:=hfull rfl;have hn0:n=0:=by rcases hV.inv with⟨_,_,_,e⟩|⟨_,_,_,_,e,_⟩<;>(grind)
     subst hn0;obtain⟨g1,hs1,hc1,hβ,hω⟩:=h.adopt (q:=q) (ver:=ver) (xs:=([]:List (U.Den τ))) hq hvr hV (by simp);have hklt:k<s.bx.length:=(ym.1 hk).1;refine⟨g1,?_⟩;have hset:({s with ob:=s.ob.set q (some ⟨ver,τ,[],some 0,true⟩)}:S U).setRef (.ob q ver) (.cell k i)={s with ob:=s.ob.set q (some ⟨ver,τ,[],some 0,true⟩),bx:=s.bx.set k (some (fz,cells.set i (.ob q ver)))}:=by
      simp_all[S.setRef]
     rw[hset];refine{ext:=hs1.ext,tms:=hs1.tms,bxs:=?_,lbs:=?_,obs:=hs1.obs,own:=hs1.own,dfr:=hs1.dfr,fix:=hs1.fix,bas:=hs1.bas}
     ·intro k' fz' cells' hk';have hk2:(s.bx.set k (some (fz,cells.set i (.ob q ver))))[k']?=some (some (fz',cells')):=hk';by_cases e:k'=k
      ·subst e;rw[eH hklt]at hk2;obtain⟨rfl,rfl⟩:=hk2;obtain⟨hl1,us,i1,i2⟩:=hs1.bxs k' fz cells hk;have huv:us[i]?=some (.slice p0 0 0):=by
        obtain⟨u,hu,_⟩:=i1.get i hp;grind
       have:=All2.set i i1 (show CRel P E g1 _ w (.slice p0 0 0) (.ob q ver)from hc1);rw[So huv]at this;exact⟨hl1,us,this,i2⟩
      ·rw[dP (Ne.symm e)]at hk2;exact hs1.bxs k' fz' cells' hk2
     ·intro k' hl';obtain⟨c,hc'⟩:=hs1.lbs k' hl';grind
    grind
  grind
 all_goals grind
theorem Sp(hF:FnsOK P M){f ms F al vs d}(hg:M.gns f=some (ms,F))(hrun:dw P f→(execOp a.eval o).run P w=.ok (.enter f vs.toArray) w):∀(l:List (Nat×Nat))(j:Nat){g:G}{s:S U}{r:Res U},
 Sim P M.E fr g s a w→(∀{g':G}{s':S U},Sim P M.E fr g' s' a w→s'.tm=s.tm→All2 (ARel P M.E g' s'.ob w) vs al)→rK d F ms al l j s=some r→(∀p∈r.ob,p)→co P o a w (cu P M fr s o r)
 |[],_,g,s,r,h,hal,he,hob=>Sn hF h hg he hob (hal h rfl) hrun
 |(k,i)::l,j,g,s,r,h,hal,he,hob=>by
  simp only[rK]at he;split at he
  ·rename_i fz cells ver hb hv hj;split at he
   ·rename_i τ hc;split at he
    ·rename_i res hres;simp at he;subst he;have hn:s.objNil (.cell k i) (s.okey d+j)=some {s with bx:=s.bx.set k<|some (fz,cells.set i<|.ob (s.okey d+j) ver),ob:=s.ob.set (s.okey d+j)<|some ⟨ver,τ,[],some 0,true⟩}:=by
      simp_all[S.objNil,S.refAt,S.setRef]
     obtain⟨g1,hs1⟩:=h.objNil hn;have key:=Sp hF hg hrun l (j+1) (r:=res) hs1 (fun h' e=>hal h' e) hres hob;exact key
    grind
   grind
  grind
def Sq(hF:FnsOK P M)(h:Sim P M.E fr g s a w){f ms F al vs d r}(hg:M.gns f=some (ms,F))(he:rL s d F ms al=some r)(hob:∀p∈r.ob,p)(hal:∀{g':G}{s':S U},Sim P M.E fr g' s' a w→s'.tm=s.tm→All2 (ARel P M.E g' s'.ob w) vs al)(hrun:dw P f→(execOp a.eval o).run P w=.ok (.enter f vs.toArray) w):co P o a w (cu P M fr s o r):=by
 unfold rL at he;split at he
 ·rename_i r' hr;simp at he;subst he;exact Sn hF h hg hr hob (hal h rfl) hrun
 grind[Sp]
def Sr{s'}(ht:s'.tm=s.tm):∀(xs:List Operand)(ts:List TypeId),dK M s' xs ts=dK M s xs ts:=by
 have h1:∀x,s'.ev M x=s.ev M x:=by simp_all[S.ev]
 have h2:∀t x,S.evT M s' t x=S.evT M s t x:=by simp_all[S.evT]
 intro xs
 induction xs with
 |nil=>intro ts;rfl
 |cons x xs ih=>simp_all[dK]
def Sim.objWritten{E}(h:Sim P E fr g s a w){k o ys w'}(hk:s.ob[k]?=some (some o))(hlen:ys.length=o.xs.length)(hx:FExt ⟨w,fun b i=>g.ω b i=some (.obj k),g.St,0,g.β⟩ w')(ho:ObRel E g w' k {o with xs:=ys}):
 Sim P E fr g {s with ob:=s.ob.set k<|some {o with xs:=ys}} a w':=by
 have hs:∀x,x≠Own.obj k→Same g w g w' x:=fun x hne b i hbi=>by
  have hlt:=(h.own b i x hbi).1;have hno:¬g.ω b i=some (.obj k):=fun e=>by grind
  exact⟨hbi,hx.cell b i hlt hno,hx.frozen b i hlt hno⟩
 have hst':Keeps g.St w g.St w':=(hs .st<|by simp).keeps;have hg:GLe g s.ob w g (s.ob.set k<|some {o with xs:=ys}) w':=by
  refine⟨hst',fun _ hl=>⟨hl,rfl⟩,fun q o' hq=>?_⟩;grind
 have hno:∀b,b<fr.w0.heap.size→∀i,¬fr.own b i→¬g.ω b i=some (.obj k):=fun b hb i hn e=>by
  rcases h.wr e (by simp)with h1|h1
  all_goals grind
 refine{ext:=⟨hx.os.trans h.ext.os,hx.tape.trans h.ext.tape,hx.output.trans h.ext.output,gK h.ext.size hx.size,fun q hq hn=>?_,fun b i hb hn=>?_,fun b i hb hn=>?_,hx.laid,h.ext.lb0,h.ext.nlb⟩,tms:=h.tms.imp fun _ _=>AVRel.mono hg,bxs:=fun q fz cells hc=>?_,lbs:=h.lbs,obs:=?_,own:=fun b i x hbi=>⟨yu (h.own b i x hbi).1 hx.size,(h.own b i x hbi).2⟩,dfr:=h.dfr,fix:=h.fix,bas:=h.bas}
 ·exact(hx.block q (yu hq h.ext.size) fun i=>hno q hq i<|hn i).trans<|h.ext.block q hq hn
 ·exact(hx.cell b i (yu hb h.ext.size)<|hno b hb i hn).trans<|h.ext.cell b i hb hn
 ·exact(hx.frozen b i (yu hb h.ext.size)<|hno b hb i hn).trans<|h.ext.frozen b i hb hn
 ·obtain⟨hl,hb⟩:=h.bxs q fz cells hc;exact⟨hl,hb.keep hl hg<|hs _<|by simp⟩
 ·intro q o' hq;have hq':(s.ob.set k<|some {o with xs:=ys})[q]?=some (some o'):=hq;by_cases e:q=k
  ·grind
  ·rw[dP<|Ne.symm e]at hq';exact(h.obs q o' hq').keep hst' (hs _<|by grind) rfl
def Ss(hF:FnsOK P M)(h:Sim P M.E fr g s a w){f F al vs r}(hg:M.ups f=some F)(he:ny s F al=some r)(hob:∀p∈r.ob,p)(hal:All2 (ARel P M.E g s.ob w) vs al)(hrun:dw P f→(execOp a.eval o).run P w=.ok (.enter f vs.toArray) w):co P o a w (cu P M fr s o r):=by
 unfold ny at he;split at he
 ·rename_i k v al';split at he
  ·rename_i ob ds ho hds;split at he
   ·rename_i hfr hany;split at he
    ·rename_i obl ys hFd;simp at he;subst he;obtain⟨hcon,hbody⟩:=hF.ups f F ob.τ ob.xs ds obl ys hg hFd hob
     match vs,hal with
     |u::us,⟨hu,hal'⟩=>
      obtain⟨g1,hs1,hg1,hf1,hfz⟩:=Sim.frzs (As.obs al') (s0:=s) rfl h<|FrzLe.refl _;have hD:=hs1.frozenDs (s0:=s) hf1 (fun q hq=>hfz q<|.inl hq) hds<|hal'.imp fun _ _=>ARel.mono hg1;have hkn:k ∉As.obs al':=fun hm=>by
       have:=y3z.1 hany k hm;simp_all
      have hso:s.ob[k]?=some (some ob)∧ob.ver=v:=by
       grind[S.obAt,Nat.eq_of_beq_eq_true]
      have hk1:({s with ob:=aH s.ob<|s.frz<|As.obs al'}:S U).ob[k]?=some (some ob):=by
       simp_all[aH,As.obs,Bm]
      have hu1:u=.slice (g1.tk k).1 ob.xs.length (g1.tk k).2:=by
       obtain⟨_,o2,h2,_,h4⟩:=(ARel.mono hg1 hu:ARel P M.E g1 _ w u (.c<|.ob k v));grind
      have hoR:=hs1.obs k ob hk1;intro Q;unfold Oper.wp;rw[hrun hbody];have hoe:(⟨ob.ver,ob.τ,ob.xs,some 0,ob.live⟩:Ob U)=ob:=by rw[←hfr]
      have hc:=hcon w g1 k ob.ver ob.live us (by grind) (fun b i x hx=>(hs1.own b i x hx).1) hD hs1.ext.laid (fun b i hl hx=>by have:=hs1.nlb hl hx;grind);rw[←hu1]at hc;refine Calls.mono hc ?_;rintro e w' ⟨rfl,hlen,hext,hob'⟩;have hob2:ObRel M.E g1 w' k {ob with xs:=ys}:=by
       grind
      have hs2:=hs1.objWritten hk1 hlen hext hob2;refine⟨g1,Sim.put' (s':=s) ?_ ?_⟩
      ·simp_all[aH,As.obs,pR]
      ·exact⟨#[],rfl,trivial⟩
    grind
   grind
  grind
 grind
theorem ahc(hF:FnsOK P M)(h:Sim P M.E fr g s a w){c f r}(ho:o.op=.call c)(hc:c.callee=.value (.func f))(he:sH M s o c=some r)(hob:∀p∈r.ob,p):co P o a w (cu P M fr s o r):=by
 unfold sH at he;rw[hc]at he;dsimp only at he;split at he
 ·rename_i F al d hf hev hd;unfold Kn at he;split at he
  ·rename_i ds hds;split at he
   ·rename_i ob rs os hFd;split at he
    ·split at he
     ·split at he
      ·rename_i rs' hret;have hargs:=lh hF h hev;obtain⟨g1,hs1,hg1,hf1,hfz⟩:=Sim.frzs (As.obs al) (s0:=s) rfl h (FrzLe.refl _);have hD:=hs1.frozenDs (s0:=s) hf1 (fun q hq=>hfz q (.inl hq)) hds (hargs.imp fun _ _=>ARel.mono hg1);obtain⟨hcon,hbody⟩:=hF.fns f F ds ob rs os hf hFd (by grind);have hrun:=Bl (P:=P) (o:=o) (a:=a) (w:=w) hbody ho hc (caps:=#[]) rfl;intro Q;unfold Oper.wp;rw[hrun];have hcall:=hcon w g1.St ((c.args.map a.eval).toList) (fun b i hi=>(hs1.own b i _ hi).1) (by simp_all) hs1.ext.laid;refine Calls.mono hcall ?_;rintro e w' ⟨v,rfl,hR⟩;split at he
       ·simp at he;subst he;obtain⟨hext,gr,_,_,_,hrel,_⟩:=hR;refine⟨g,Sim.put (h.later hext) ?_ rfl rfl⟩;grind[AVRel,nS,Sj,Kx,aha]
       ·obtain⟨g2,hs2,hv2⟩:=hs1.returned hR (by grind[KV]) hret;refine⟨g2,Sim.put' (s':=s) ?_ ?_⟩
        all_goals grind[aH,As.obs,fe,pR,AVRel,nS]
      grind
     grind
    grind
   grind
  grind
 ·rename_i al d hf hev hd;have hrunF:dw P f→(execOp a.eval o).run P w=.ok (.enter f (c.args.toList.map a.eval).toArray) w:=fun hb=>by
   have hrun:=Bl (P:=P) (o:=o) (a:=a) (w:=w) hb ho hc (caps:=#[]) rfl;rw[hrun];congr 2;grind
  split at he
  ·rename_i ms F hg;exact Sq hF h hg he hob (fun h' e=>lh hF h' (by rw[Sr e];omega)) hrunF
  ·split at he
   ·rename_i F hg;exact Ss hF h hg he hob (lh hF h hev) hrunF
   grind
 ·rename_i al hf hev hd;have hrunF:dw P f→(execOp a.eval o).run P w=.ok (.enter f (c.args.toList.map a.eval).toArray) w:=fun hb=>by
   have hrun:=Bl (P:=P) (o:=o) (a:=a) (w:=w) hb ho hc (caps:=#[]) rfl;rw[hrun];congr 2;grind
  split at he
  ·rename_i F hg;exact Ss hF h hg he hob (lh hF h hev) hrunF
  grind
 grind
def DH{E ob}{St:Nat→Nat→Prop}(hs:St=g.St){v}{d:D0 U}(h:D0Rel E St w v d):ARel P E g ob w v d.toA:=by
 cases d with
 |v x=>exact pP hs h
 |agg xs=>obtain⟨arr,e,h2⟩:=h;exact⟨arr,e,All2.map_right C.ofV (fun _ _ hh=>pP hs hh) h2⟩
def Su{E ob}{St:Nat→Nat→Prop}(hs:St=g.St){v}{ds:List (D0 U)}(h:RetRel (D0Rel E St w) v ds):RetRel (ARel P E g ob w) v (ds.map D0.toA):=by
 match ds,h with
 |[],h=>obtain⟨arr,e,h2⟩:=h;exact⟨arr,e,All2.map_right D0.toA (fun _ _ hh=>DH hs hh) h2⟩
 |[d],h=>exact DH hs h
 |d::d'::r,h=>obtain⟨arr,e,h2⟩:=h;exact⟨arr,e,All2.map_right D0.toA (fun _ _ hh=>DH hs hh) h2⟩
def Sim.more(h:Sim P M.E fr g s a w){w'}(hext:Ext w w'){St:Nat→Nat→Prop}(h2:∀b o,b<w.heap.size→St b o→g.St b o)(h3:∀b o,St b o→b<w'.heap.size):
 ∃g',Sim P M.E fr g' s a w'∧(∀b o,St b o→g'.St b o)∧GLe g s.ob w g' s.ob w':=by
 classical
 let g':G:={g with ω:=fun b i=>if b<w.heap.size then g.ω b i else if St b i then some .st else none};have hωo:∀b i,b<w.heap.size→g'.ω b i=g.ω b i:=fun b i hb=>by grind
 have hωn:∀b i,¬b<w.heap.size→g'.ω b i=if St b i then some .st else none:=fun b i hb=>by grind
 have hs:∀x,Same g w g' w' x:=fun x b i hx=>⟨by rw[hωo b i (h.own b i x hx).1];omega,hext.cell (p:=⟨b,i,none⟩) (h.own b i x hx).1,hext.stuck (p:=⟨b,i,none⟩) (h.own b i x hx).1⟩;have hg:GLe g s.ob w g' s.ob w':=⟨(hs .st).keeps,fun k hl=>⟨hl,rfl⟩,fun q o hq=>⟨o,hq,y7 _,fun _=>⟨rfl,rfl,rfl⟩⟩⟩;refine⟨g',?_,?_,hg⟩
 ·refine{ext:=h.ext.later hext,tms:=h.tms.imp fun _ _=>AVRel.mono hg,bxs:=fun k fz cells hk=>?_,lbs:=h.lbs,obs:=fun q o hq=>(h.obs q o hq).keep hg.st (hs _) rfl,own:=?_,dfr:=h.dfr,fix:=h.fix,bas:=h.bas}
  ·obtain⟨hl,hb⟩:=h.bxs k fz cells hk;exact⟨hl,hb.keep hl hg<|hs _⟩
  ·intro b i x hx;by_cases hb:b<w.heap.size
   ·rw[hωo b i hb]at hx;exact⟨yu hb hext.le,(h.own b i x hx).2⟩
   ·rw[hωn b i hb]at hx;split at hx
    ·rename_i hst;exact⟨h3 b i hst,.inl (by have:=h.ext.size;omega)⟩
    grind
 ·intro b i hst;show g'.ω b i=_;by_cases hb:b<w.heap.size
  ·rw[hωo b i hb];exact h2 b i hb hst
  grind
def ahd{E St St' w' v}{ds:List (D0 U)}(hs:ds.all D0.scal=true)(h:RetRel (D0Rel E St w) v ds):RetRel (D0Rel E St' w') v ds:=by
 have hv:∀{u:Value}{x:V U},(match x with| .s _=>true| .dat _ _=>false)=true→VRel E St w u x→VRel E St' w' u x:=by
  intro u x hh hu;cases x with
  |s y=>cases hu;rename_i hone;exact .s _ hone
  |dat τ xs=>grind
 have hd:∀{u:Value}{d:D0 U},d.scal=true→D0Rel E St w u d→D0Rel E St' w' u d:=by
  intro u d hh hu;cases d with
  |v x=>
   cases x with
   |s y=>exact hv rfl hu
   |dat τ xs=>grind[D0.scal]
  |agg xs=>
   obtain⟨arr,e,h2⟩:=hu;refine⟨arr,e,?_⟩;simp only[D0.scal]at hh;generalize arr.toList=us at h2
   induction xs generalizing us with
   |nil=>cases us with|nil=>trivial|cons _ _=>exact h2.elim
   |cons x xs ih=>
    simp only[fb,yp]at hh;cases us with
    |nil=>exact h2.elim
    |cons u us=>exact⟨hv (by grind) h2.1,ih hh.2 us h2.2⟩
 have hds:∀{us:List Value}{ds:List (D0 U)},ds.all D0.scal=true→All2 (D0Rel E St w) us ds→All2 (D0Rel E St' w') us ds:=by
  intro us ds
  induction ds generalizing us with
  |nil=>intro _ hu;cases us with|nil=>trivial|cons _ _=>exact hu.elim
  |cons c cs ih=>
   intro hh hu;simp only[fb,yp]at hh;cases us with
   |nil=>exact hu.elim
   |cons u us=>exact⟨hd hh.1 hu.1,ih hh.2 hu.2⟩
 match ds,hs,h with
 |[],hs,h=>obtain⟨arr,e,h2⟩:=h;exact⟨arr,e,hds hs h2⟩
 |[x],hs,h=>simp at hs;exact hd hs h
 |_::_::_,hs,h=>obtain⟨arr,e,h2⟩:=h;exact⟨arr,e,hds hs h2⟩
theorem ahe(hF:FnsOK P M)(h:Sim P M.E fr g s a w){c t r}(ho:o.op=.call c)(hc:c.callee=.value (.tmp t))(he:sH M s o c=some r)(hob:∀p∈r.ob,p):co P o a w (cu P M fr s o r):=by
 unfold sH at he;rw[hc]at he;dsimp only at he;split at he
 ·rename_i φ al htm hev;unfold Ko at he;split at he
  ·rename_i ds hds;split at he
   ·rename_i ob rs hφ;simp at he;subst he;obtain⟨f,caps,hfv,hbody,hgives⟩:FunRel P M.E g.St w (a.eval (.tmp t)) φ:=h.slot htm;have hargs:=lh hF h hev;obtain⟨g1,hs1,hg1,hf1,hfz⟩:=Sim.frzs (As.obs al) (s0:=s) rfl h (FrzLe.refl _);have hD:=hs1.frozenD0s (s0:=s) hf1 (fun q hq=>hfz q (.inl hq)) hds (hargs.imp fun _ _=>ARel.mono hg1);have hrun:=Bl (P:=P) (o:=o) (a:=a) (w:=w) hbody ho hc hfv;intro Q;unfold Oper.wp;rw[hrun];have hcall:=hgives g1.St w hg1.st (fun b i hi=>(hs1.own b i _ hi).1) hs1.ext.laid ds ob rs hφ hob ((c.args.map a.eval).toList) (by simp_all);refine Calls.mono hcall ?_;rintro e w' ⟨v,rfl,⟨hext,St',i2,i3,hrel⟩,-⟩;cases hsc:rs.all D0.scal with
    |true=>
     refine⟨g,Sim.put (h.later hext) ?_ rfl rfl⟩;rw[Kx];exact Su rfl (ahd hsc hrel)
    |false=>
     obtain⟨g2,hs2,hst2,hg2⟩:=hs1.more hext i2 i3;refine⟨g2,Sim.put' (s':=s) hs2 ?_⟩;rw[Kx];exact Su rfl (hrel.imp fun _ _ hh=>D0Rel.mono (fun b o hs=>⟨hst2 b o hs,rfl⟩) hh)
   grind
  grind
 ·rename_i f ks al htm hev;split at he
  ·rename_i ms F d hg hd;obtain⟨hfv,hlb⟩:CRel P M.E g s.ob w (a.eval (.tmp t)) (.fc f ks):=h.slot htm;refine Sq hF h hg he hob (vs:=c.args.toList.map a.eval++ks.map fun k=>Value.pointer (some ⟨g.β k,0,none⟩)) (fun{g'}{s'} h' e=>All2.append (lh hF h' (by rw[Sr e];omega)) ?_) (fun hb=>?_)
   ·have htm':s'.tm[t]?=some (.one (.c (.fc f ks))):=by grind
    obtain⟨hfv',hlb'⟩:CRel P M.E g' s'.ob w (a.eval (.tmp t)) (.fc f ks):=h'.slot htm';have hcp:gM g ks=gM g' ks:=by grind
    unfold gM at hcp;have hcp2:(ks.map fun k=>Value.pointer (some ⟨g.β k,0,none⟩))=ks.map fun k=>Value.pointer (some ⟨g'.β k,0,none⟩):=by grind
    rw[hcp2];clear hfv htm htm' he hfv' hcp hcp2
    induction ks with
    |nil=>trivial
    |cons k ks ih=>exact⟨⟨hlb' k (by simp),rfl⟩,ih (fun q hq=>hlb q (by grind)) (fun q hq=>hlb' q (by grind))⟩
   ·have hrun:=Bl (P:=P) (o:=o) (a:=a) (w:=w) hb ho hc hfv;simp_all[gM]
  grind
 grind
end B
namespace B
open Go Go.RowKit
variable {U:Uni} {P:Program} {M:Mc U} {fr:Fr} {w:World} {g:G} {s:S U} {a:Act} {o:Oper}
theorem Sv(s:S U):∀(x y:List Nat),s.frz (x++y)=s.frz x++s.frz y
 |[],_=>rfl
 |k::x,y=>by
  simp only[eT,S.frz,Sv s x y];split<;>rfl
def Sw(hF:FnsOK P M)(h:Sim P M.E fr g s a w):∀{xs:List Operand}{ks:List Nat},kh s M xs=some ks→xs.map a.eval=ks.map (fun k=>Value.pointer<|some ⟨g.β k,0,none⟩)∧∀k∈ks,g.lb k
 |[],ks,hk=>by simp[kh]at hk;subst hk;exact⟨rfl,by simp⟩
 |x::xs,ks,hk=>by
  simp only[kh]at hk;split at hk
  ·rename_i k ks' hx hks;obtain⟨hl,hv⟩:CRel P M.E g s.ob w (a.eval x) (.bx k 0):=h.ev hF hx;obtain⟨e1,e2⟩:=Sw hF h hks;grind
  grind
def Sx:∀{ks:List Nat}{dl:List (List<|DC U)}{bw:List (Nat×Option (Bool×List (C U)))}{ow:List (Nat×Option (Ob U))},s.caps ks=some (dl,bw,ow)→ow=s.frz (s.boxObs ks)
 |[],dl,bw,ow,h=>by obtain⟨rfl,rfl,rfl⟩:=h;rfl
 |k::ks,dl,bw,ow,h=>by
  simp only[S.caps]at h;split at h
  ·rename_i fz cells dl' bw' ow' hk hr;split at h
   ·obtain⟨rfl,rfl,rfl⟩:=h;simp only[S.boxObs,hk];rw[Sv,Sx hr]
   grind
  grind
def Sy(bx bx':List (Option<|Bool×List (C U))):Prop:=∀(k:Nat)(fz:Bool)(cells:List (C U)),bx[k]?=some (some (fz,cells))→∃fz',bx'[k]?=some (some (fz',cells))
def Sim.frzBoxes{s0:S U}:∀{ks:List Nat}{dl:List (List<|DC U)}{bw:List (Nat×Option (Bool×List (C U)))}{ow:List (Nat×Option (Ob U))}{g:G}{s:S U},s0.caps ks=some (dl,bw,ow)→Sim P M.E fr g s a w→Sy s0.bx s.bx→
 ∃g',Sim P M.E fr g' {s with bx:=aH s.bx bw} a w∧GLe g s.ob w g' s.ob w∧dl.length=ks.length∧
  (∀(i k:Nat) dcs,ks[i]?=some k→dl[i]?=some dcs→∃fz cells,s0.bx[k]?=some (some (fz,cells))∧s0.toDCs cells=some dcs∧(aH s.bx bw)[k]?=some (some (true,cells)))∧
  (∀(k:Nat)(cells:List (C U)),s.bx[k]?=some (some (true,cells))→(∃fz,s0.bx[k]?=some (some (fz,cells)))→(aH s.bx bw)[k]?=some (some (true,cells)))
 |[],dl,bw,ow,g,s,h,hs,_=>by
  obtain⟨rfl,rfl,rfl⟩:=h;exact⟨g,hs,GLe.refl _ _ _,rfl,fun i k dcs hk=>by simp,fun k cells hk _=>hk⟩
 |k::ks,dl,bw,ow,g,s,h,hs,hle=>by
  simp only[S.caps]at h;split at h
  ·rename_i fz cells dl' bw' ow' hk hr;split at h
   ·rename_i dcs hd;obtain⟨rfl,rfl,rfl⟩:=h;obtain⟨fz',hk'⟩:=hle k fz cells hk;obtain⟨g1,h1,hg1⟩:=hs.frzBox hk';have hklt:k<s.bx.length:=(ym.1 hk').1;have hle1:Sy s0.bx (s.bx.set k<|some (true,cells)):=by
     intro q fq cq hq;by_cases e:q=k
     ·grind
     ·rw[dP<|Ne.symm e];exact hle q fq cq hq
    obtain⟨g2,h2,hg2,hl2,hx2,hy2⟩:=Sim.frzBoxes hr h1 hle1;refine⟨g2,h2,hg1.trans hg2,by grind,fun i q dq hq hdq=>?_,fun q cq hq hq0=>?_⟩
    ·cases i with
     |zero=>
      simp at hq hdq;subst hq hdq;exact⟨fz,cells,hk,hd,hy2 k cells (eH hklt) ⟨fz,hk⟩⟩
     |succ i=>exact hx2 i q dq (by grind)<|by grind
    ·refine hy2 q cq ?_ hq0;grind
   grind
  grind
theorem DCRel.mono{E St St' w w'}(hs:Keeps St w St' w'){v}{d:DC U}(h:DCRel P E St w v d):DCRel P E St' w' v d:=by
 cases d with
 |v x=>exact VRel.mono h hs
 |fn φ=>exact FunRel.mono hs h
def Sz{s:S U}{k fz cells}(hk:s.bx[k]?=some (some (fz,cells))){q}(hq:q∈Cs.obs cells):∀{ks:List Nat},k∈ks→q∈s.boxObs ks
 |[],h=>by grind
 |k'::ks,h=>by
  simp only[S.boxObs,ye];rcases yh.1 h with rfl|h
  ·grind
  ·exact .inr<|Sz hk hq h
theorem ahf(hF:FnsOK P M)(h:Sim P M.E fr g s a w){f first captured r}(ho:o.op=.makeFunc (.func f) first captured)(he:aT M s o=some r):co P o a w (cu P M fr s o r):=by
 simp only[aT,ho]at he;split at he
 ·unfold Kp at he;split at he
  ·rename_i ks hks;obtain⟨hcv,hlb⟩:=Sw hF h hks;have hce:captured.map a.eval=gM g ks:=by
    grind[gM,Array.ext']
   have hrun:(execOp a.eval o).run P w=.ok (.value<|.func (.func f) #[]<|gM g ks) w:=by
    simp_all[execOp,Instr.makeFunc]
   split at he
   ·rw[cW he];exact bN h hrun ⟨rfl,hlb⟩
   ·rename_i F hclo;split at he
    ·rename_i dl bw ow hcaps;split at he
     ·rename_i φ hφ;simp at he;subst he;have how:=Sx hcaps;subst how;obtain⟨g1,hs1,hg1,hf1,hfz⟩:=Sim.frzs (s.boxObs ks) (s0:=s) rfl h<|FrzLe.refl _;obtain⟨g2,hs2,hg2,hl2,hx2,_⟩:=Sim.frzBoxes (s0:=s) hcaps hs1 fun k fz cells hk=>⟨fz,hk⟩;refine mi hrun ⟨g2,Sim.put' (s':=s) hs2 ?_⟩;refine⟨f,gM g ks,rfl,hF.clb f F hclo,fun St' w' hkeep hbd hld args ob rs hφa hob vs hvs=>?_⟩;have hcon:=hF.clo f F dl φ args ob rs hclo hφ hφa hob;have hbox:All2 (DRel P M.E St' w') (gM g ks).toList (dl.map D.box):=by
       refine All2.of_get (by grind[gM]) ?_;intro i v d hv hd;have hv':(ks.map fun k=>Value.pointer<|some ⟨g.β k,0,none⟩)[i]?=some v:=by grind
       rw[dn]at hv' hd;cases hki:ks[i]? with
       |none=>grind
       |some k=>
        rw[hki]at hv';simp at hv';subst hv';cases hdi:dl[i]? with
        |none=>grind
        |some dcs=>
         rw[hdi]at hd;simp at hd;subst hd;obtain⟨fz,cells,b1,b2,b3⟩:=hx2 i k dcs hki hdi;obtain⟨hl,us,j1,j2⟩:=hs2.bxs k true cells b3;have hβ:g2.β k=g.β k:=by
          have hk0:=hlb k<|y9 hki;rw[(hg2.lb k (hg1.lb k hk0).1).2,(hg1.lb k hk0).2]
         have hdc:=hs2.frozenDCs (s0:=s) (fun k'=>hf1 k') (fun q hq=>hfz q<|.inl<|Sz b1 hq<|y9 hki) b2 j1;refine⟨g.β k,rfl,fun j c hc=>?_⟩;obtain⟨u,hu,hur⟩:=hdc.get j hc;obtain⟨c1,_,c3⟩:=j2 j u hu;obtain⟨k1,k2⟩:=hkeep _ _<|c3 rfl;grind[DCRel.mono]
      have hall:All2 (DRel P M.E St' w') (vs++(gM g ks).toList) (args.map D.d++dl.map D.box):=All2.append (All2.map_right D.d (fun _ _ hh=>hh) hvs) hbox;have:=hcon w' St' _ hbd hall hld;grind[gM,Array.ext']
     grind
    grind
  grind
 grind
def ahg(hT:TabOK P M)(hF:FnsOK P M)(h:Sim P M.E fr g s a w){r}(he:aT M s o=some r)(hob:∀p∈r.ob,p):co P o a w (cu P M fr s o r):=by
 cases hop:o.op with
 |move x=>grind[RU,aT]
 |assign x=>exact RU hF h (.inr hop)<|by simp_all[aT]
 |pick c x y=>
  grind[aT,agB]
 |alloc t=>grind[agF]
 |box t x=>grind[agE]
 |build t ps=>grind[ag4]
 |buildSlice t len ps=>grind[ag6]
 |load t x=>grind[agC]
 |store t x y=>grind[agD]
 |nilCheck x=>grind[agO]
 |binOp op t x y t'=>grind[agL]
 |unOp op t x=>grind[agM]
 |convert src dst x=>grind[agN]
 |slice t x lo hi mx=>grind[agZ]
 |fieldAddr t x f=>grind[agR]
 |field t x f=>grind[agS]
 |indexAddr t x y=>grind[agT]
 |index t x y=>grind[agV]
 |extract x j=>grind[agP]
 |makeSlice t x y=>grind[ag8]
 |makeFunc fn first captured=>
  grind[ahf,aT]
 |call c=>
  simp only[aT,hop]at he;have he':=he;unfold sH at he;split at he
  ·rename_i b hb;cases b with
   |len=>grind[ag0]
   |append=>grind[ag2]
   |min=>grind[agX]
   |max=>grind[agY]
   |_=>simp[iJ]at he
  all_goals grind[ahc,ahe]
 |_=>simp[aT,hop]at he
end B
end Go.Proofs.YtjfpbchdcbhfgaaGreat
