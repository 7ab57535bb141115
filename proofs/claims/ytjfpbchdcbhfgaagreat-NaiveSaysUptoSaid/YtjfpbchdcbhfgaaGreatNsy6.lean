/- Part 6 of the proof: BLib BAwf LawBase BLaw0 Sspec Sterms Stermsz Lbulkt Svnum Snum Lstrings Slstr Svalue Sconjspec Swidths. -/
import Derived.JoinedCond
import Derived.OpenShut
import Derived.ChangeArms
import Derived.ChangeShapes
import Derived.Test.YtjfpbchdcbhfgaaGreatRows
import Derived.Lib.OthersKept
import Derived.Lib.TrimU
import Derived.Deep.LoopGhost
import Derived.Shelf.Abstract
import Derived.Test.YtjfpbchdcbhfgaaGreatNsy5
set_option linter.unusedVariables false
set_option linter.unusedSimpArgs false
set_option linter.defProp false
set_option maxHeartbeats 2000000
namespace Go.Proofs.YtjfpbchdcbhfgaaGreat.B
open Go Go.RowKit
def aj(f:FuncId)(F:au Un):Prop:=∀args ob rs os,F args=some (ob,rs,os)→(∀p∈ob,p)→Contract Tryz.prog En f args rs os∧dw Tryz.prog f
def eQ(f:FuncId)(φ:FV Un):Prop:=dw Tryz.prog f∧∀args ob rs,φ args=some (ob,rs)→(∀p∈ob,p)→sI Tryz.prog En f (args.map .d) ob rs
def kR(f:FuncId)(F:List (List<|DC Un)→Option (FV Un)):Prop:=dw Tryz.prog f∧∀dl φ args ob rs,F dl=some φ→φ args=some (ob,rs)→(∀p∈ob,p)→sI Tryz.prog En f (args.map .d++dl.map .box) ob rs
def iv(f:FuncId)(F:List Bool×fS Un):Prop:=∀args bxs obs ob rs bxs' obs',F.2 args bxs obs=some (ob,rs,bxs',obs')→(∀p∈ob,p)→GContract Tryz.prog En f args bxs obs rs bxs' obs'∧dw Tryz.prog f
def px(f:FuncId)(F:mh Un):Prop:=∀τ xs ds ob ys,F τ xs ds=some (ob,ys)→(∀p∈ob,p)→RG Tryz.prog En f τ xs ds ys∧dw Tryz.prog f
def AllL{α:Type}(R:Nat→α→Prop):List (Nat×α)→Prop
 |[]=>True
 |p::r=>R p.1 p.2∧AllL R r
def jw{α:Type}(l:List (Nat×α))(f:Nat):Option α:=look f l
theorem AllL.look{α R f x}:∀{l:List (Nat×α)},AllL R l→jw l f=some x→R f x
 |[],_,h=>by grind[jw,B.look]
 |(k,y)::r,hl,h=>by
  simp only[jw,B.look]at h;split at h
  ·rename_i hb;have:=PU hb;simp at h;subst this;subst h;exact hl.1
  ·exact AllL.look hl.2 h
def cM{l1:List (Nat×au Un)}{l2:List (Nat×FV Un)}{l3:List (Nat×(List (List<|DC Un)→Option (FV Un)))}{l4:List (Nat×(List Bool×fS Un))}{l5:List (Nat×mh Un)}
 (h1:AllL aj l1)(h2:AllL eQ l2)(h3:AllL kR l3)(h4:AllL iv l4)(h5:AllL px l5):FnsOK Tryz.prog (gG (jw l1) (jw l2) (jw l3) (jw l4)<|jw l5) where
 ups:=fun f F τ xs ds ob ys hf hF hob=>h5.look hf τ xs ds ob ys hF hob
 gns:=fun f ms F args bxs obs ob rs bxs' obs' hf hF hob=>h4.look hf args bxs obs ob rs bxs' obs' hF hob
 fns:=fun f F args ob rs os hf hF hob=>h1.look hf args ob rs os hF hob
 fvb:=fun f φ hf=>(h2.look hf).1
 fvs:=fun f φ args ob rs hf hF hob=>(h2.look hf).2 args ob rs hF hob
 clb:=fun f F hf=>(h3.look hf).1
 clo:=fun f F dl φ args ob rs hf hF hφ hob=>(h3.look hf).2 dl φ args ob rs hF hφ hob
def zl{f fn}(hf:Tryz.prog.funcs[f]?=some fn)(hb:fn.body=some (zh fn))(hn:(fn.name== "runtime.NumGoroutine")=false):dw Tryz.prog f:=⟨fn,_,hf,hb,hn⟩
structure Runs(p:Prop):Prop where
 out:p
def Bq{M fns fvs clo gns ups}(hM:M=gG fns fvs clo gns ups)(hF:FnsOK Tryz.prog (gG fns fvs clo gns ups)){f fn}(hf:Tryz.prog.funcs[f]?=some fn)(hb:fn.body=some (zh fn)) N x fm{args rs os}(h:(∀a∈args,mo En a)→Runs (aB M N (zh fn) (bG fn.ntmps x args)<|aK M fn.results.toList fm fun rs' os'=>rs'=rs∧os'=os)):Contract Tryz.prog En f args rs os:=by
 subst hM;exact ahJ (M:=gG fns fvs clo gns ups) (DR fns fvs clo gns ups) hF mixed hf hb N x fm fun ha=>(h ha).out
def dI(k:IntKind):D Un→Option Int
 | .d (.v<|.s<|.int k' n)=>match decEq k' k with| .isTrue _=>some n| .isFalse _=>none
 |_=>none
def dB:D Un→Option Bool
 | .d (.v<|.s<|.bool b)=>some b
 |_=>none
def cB:D Un→Option ByteArray
 | .d (.v<|.s<|.string b)=>some b
 |_=>none
def dL(τ:Ty):D Un→Option (List<|Den τ)
 | .d (.v<|.dat τ' xs)=>match instDecidableEqTy τ' τ with| .isTrue h=>some (h▸xs)| .isFalse _=>none
 |_=>none
def dS(τ:Ty):D Un→Option (Den τ)
 | .d (.agg vs)=>dec τ vs
 |_=>none
def dF:D Un→Option (FV Un)
 | .fn φ=>some φ
 |_=>none
def cX(o:Val→Prop)(p:Val→Bool):FV Un:=fun args=>match args with
 |[x0]=>(dS .val<|.d x0).bind fun a0=>some ([o a0],[.v<|cb<|p a0])
 |_=>none
def dy(φ:FV Un):Val→Prop:=fun a0=>match φ [.agg<|enc Ty.val a0]with
 |some ([q],_)=>q
 |_=>False
def eU(φ:FV Un):Val→Bool:=fun a0=>match φ [.agg<|enc Ty.val a0]with
 |some (_,[.v<|.s<|.bool b])=>b
 |_=>false
def kj(p:Val→Val→Int):FV Un:=fun args=>match args with
 |[x0,x1]=>(dS .val<|.d x0).bind fun a0=>(dS .val<|.d x1).bind fun a1=>some ([],[.v<|.s<|.int .i64<|p a0 a1])
 |_=>none
def zt(φ:FV Un):Val→Val→Int:=fun a0 a1=>match φ [.agg<|enc Ty.val a0,.agg<|enc Ty.val a1]with
 |some (_,[.v<|.s<|.int _ b])=>b
 |_=>0
def iM(o:(List Val)→(List Val)→Prop)(p:(List Val)→(List Val)→Int):FV Un:=fun args=>match args with
 |[x0,x1]=>(dL .val<|.d x0).bind fun a0=>(dL .val<|.d x1).bind fun a1=>some ([o a0 a1],[.v<|.s<|.int .i64<|p a0 a1])
 |_=>none
def pY(φ:FV Un):(List Val)→(List Val)→Prop:=fun a0 a1=>match φ [.v<|.dat (U:=Un) Ty.val a0,.v<|.dat (U:=Un) Ty.val a1]with
 |some ([q],_)=>q
 |_=>False
def mr(φ:FV Un):(List Val)→(List Val)→Int:=fun a0 a1=>match φ [.v<|.dat (U:=Un) Ty.val a0,.v<|.dat (U:=Un) Ty.val a1]with
 |some (_,[.v<|.s<|.int _ b])=>b
 |_=>0
def kl(p:Int→Int→Int):FV Un:=fun args=>match args with
 |[x0,x1]=>(dI .i64<|.d x0).bind fun a0=>(dI .i64<|.d x1).bind fun a1=>some ([],[.v<|.s<|.int .i64<|p a0 a1])
 |_=>none
def gP(φ:FV Un):Int→Int→Int:=fun a0 a1=>match φ [.v<|.s<|.int .i64 a0,.v<|.s<|.int .i64 a1]with
 |some (_,[.v<|.s<|.int _ b])=>b
 |_=>0
def gQ(o:(List Val)→Prop)(p:(List Val)→Bool):FV Un:=fun args=>match args with
 |[x0]=>(dL .val<|.d x0).bind fun a0=>some ([o a0],[.v<|cb<|p a0])
 |_=>none
def oc(φ:FV Un):(List Val)→Prop:=fun a0=>match φ [.v<|.dat (U:=Un) Ty.val a0]with
 |some ([q],_)=>q
 |_=>False
def sM(φ:FV Un):(List Val)→Bool:=fun a0=>match φ [.v<|.dat (U:=Un) Ty.val a0]with
 |some (_,[.v<|.s<|.bool b])=>b
 |_=>false
def zn{k a n}(h:dI k a=some n):a=.d (.v<|.s<|.int k n):=by
 unfold dI at h;split at h
 ·split at h
  all_goals grind
 grind
def mu{a n}(h:dB a=some n):a=.d (.v<|cb n):=by
 unfold dB at h;split at h
 ·simp at h;subst h;rfl
 grind
def cN{a n}(h:cB a=some n):a=.d (.v<|cs n):=by
 unfold cB at h;split at h
 ·simp at h;subst h;rfl
 grind
def zi{τ a l}(h:dL τ a=some l):a=.d (.v<|.dat (U:=Un) τ l):=by
 unfold dL at h;split at h
 ·split at h
  all_goals grind
 grind
def zo{τ a x}(h:dS τ a=some x):a=.d (.agg<|enc τ x):=by
 unfold dS at h;grind[zJ]
def mv{a φ}(h:dF a=some φ):a=.fn φ:=by
 unfold dF at h;grind
theorem DS k n:dI k (.d<|.v<|.s<|.int k n)=some n:=by
 unfold dI;dsimp only;split
 all_goals grind
theorem ain b:dB (.d<|.v<|cb b)=some b:=rfl
theorem aio b:cB (.d<|.v<|cs b)=some b:=rfl
theorem zK τ(l:List (Den τ)):dL τ (.d<|.v<|.dat (U:=Un) τ l)=some l:=by
 unfold dL;dsimp only;split
 all_goals grind
def aip:∀(τ:Ty)(x:Den τ),dec τ (enc τ x)=some x:=by
 intro τ x;cases τ<;>first|rfl|(cases x;rfl)
theorem ux τ x:dS τ (.d<|.agg<|enc τ x)=some x:=aip τ x
def zj9 p:zt (kj p)=p:=by
 rfl
def aAW p:gP (kl p)=p:=by
 rfl
theorem Qi o p:eU (cX o p)=p:=by
 rfl
theorem Qj o p:dy (cX o p)=o:=by
 rfl
theorem zyr o p:mr (iM o p)=p:=by
 rfl
theorem zys o p:pY (iM o p)=o:=by
 rfl
theorem aiq o p:sM (gQ o p)=p:=by
 rfl
theorem air o p:oc (gQ o p)=o:=by
 rfl
class WArg(a:D Un)(P:outParam Prop):Prop where
 of:mo En a→P
instance{k:IntKind}{n:Int}:WArg (.d<|.v<|.s<|.int k n) (WK k n):=⟨fun h=>by cases h with|s _ h=>exact of_decide_eq_true h⟩
instance{s:ByteArray}:WArg (.d<|.v<|cs s) (cm s):=⟨fun h=>(uw s).1 h⟩
instance{τ:Ty}{l:List (Den τ)}:WArg (.d<|.v<|.dat (U:=Un) τ l) (WL τ l):=⟨fun h=>h⟩
instance{τ:Ty}{x:Den τ}:WArg (.d<|.agg<|enc τ x) (WS τ x):=⟨fun h=>h⟩
def bj{args:List (D Un)}(h:∀a∈args,mo En a){a P}[w:WArg a P](ha:a∈args):P:=w.of<|h a ha
noncomputable instance:DecidableEq (FV Un):=fun _ _=>Classical.propDecidable _
def bI(k:IntKind):List (DC Un)→Option Int
 |[.v<|.s<|.int k' n]=>match decEq k' k with| .isTrue _=>some n| .isFalse _=>none
 |_=>none
def bL(τ:Ty):List (DC Un)→Option (List<|Den τ)
 |[.v<|.dat τ' xs]=>match instDecidableEqTy τ' τ with| .isTrue h=>some (h▸xs)| .isFalse _=>none
 |_=>none
def ais{k a n}(h:bI k a=some n):a=[.v<|.s<|.int k n]:=by
 unfold bI at h;split at h
 ·split at h
  all_goals grind
 grind
def LJ{τ a l}(h:bL τ a=some l):a=[.v<|.dat (U:=Un) τ l]:=by
 unfold bL at h;split at h
 ·split at h
  all_goals grind
 grind
instance{k:IntKind}{n:Int}:WArg (.box [.v<|.s<|.int k n]) (WK k n):=⟨fun h=>by cases h _ (by simp:DC.v (.s<|.int k n)∈_)with|s _ h=>exact of_decide_eq_true h⟩
instance{s:ByteArray}:WArg (.box [.v<|cs s]) (cm s):=⟨fun h=>(uw s).1<|h _ (by simp:DC.v (cs s)∈_)⟩
instance{τ:Ty}{l:List (Den τ)}:WArg (.box [.v<|.dat (U:=Un) τ l]) (WL τ l):=⟨fun h=>h _ (by simp:DC.v (V.dat (U:=Un) τ l)∈_)⟩
instance{τ:Ty}{x:Den τ}:WArg (.box<|(enc τ x).map .v) (WS τ x):=⟨fun h d hd=>h _ (y4n hd:DC.v d∈_)⟩
def aI(k:IntKind):A Un→Option Int
 | .c (.s<|.int k' n)=>match decEq k' k with| .isTrue _=>some n| .isFalse _=>none
 |_=>none
def aL(τ:Ty):A Un→Option (List<|Den τ)
 | .c (.sl τ' xs false)=>match instDecidableEqTy τ' τ with| .isTrue h=>some (h▸xs)| .isFalse _=>none
 |_=>none
def oL(τ:Ty)(o:Ob Un):Option (List<|Den τ):=
 match Nat.beq o.ver 0,o.live with
 |true,true=>match instDecidableEqTy o.τ τ with| .isTrue h=>some (h▸o.xs)| .isFalse _=>none
 |_,_=>none
def oM(τ:Ty)(o:Ob Un):Option (List<|Den τ):=
 match o.fr with
 |some 0=>oL τ o
 |_=>none
def zL{k a n}(h:aI k a=some n):a=.c (.s<|.int k n):=by
 unfold aI at h;split at h
 ·split at h
  all_goals grind
 grind
def TA{τ a l}(h:aL τ a=some l):a=.c (.sl (U:=Un) τ l false):=by
 unfold aL at h;split at h
 ·split at h
  all_goals grind
 grind
theorem ait{τ o l}(h:oL τ o=some l):o=⟨0,τ,l,o.fr,true⟩:=by
 obtain⟨ver,τ',xs,fr,live⟩:=o;cases hv:Nat.beq ver 0 with
 |false=>simp_all[oL]
 |true=>
  cases live with
  |false=>simp_all[oL]
  |true=>
   simp only[oL,hv]at h;have:=PU hv;split at h
   all_goals grind
def DT{τ o l}(h:oM τ o=some l):o=⟨0,τ,l,some 0,true⟩:=by
 grind[oM,ait]
class WArgA(a:A Un)(P:outParam Prop):Prop where
 of:Bp En a→P
instance{k:IntKind}{n:Int}:WArgA (.c<|.s<|.int k n) (WK k n):=⟨fun h=>of_decide_eq_true h⟩
instance{s:ByteArray}:WArgA (.c<|.s<|.string s) (cm s):=⟨fun h=>of_decide_eq_true h⟩
instance{τ:Ty}{l:List (Den τ)}{f:Bool}:WArgA (.c<|.sl (U:=Un) τ l f) (WL τ l):=⟨fun h=>h⟩
instance{τ:Ty}{x:Den τ}:WArgA (.agg (jk τ x)) (WS τ x):=⟨fun h d hd=>by
 have:=h (C.ofV d)<|y4n hd;cases d with
 |s y=>exact .s _ this
 |dat τ' xs=>exact this⟩
def aiu{args:List (A Un)}(h:∀a∈args,Bp En a){a P}[w:WArgA a P](ha:a∈args):P:=w.of<|h a ha
def frz(fr:Option Nat)(n:Nat):Nat:=match fr with|none=>n|some j=>j
def aiv{os:List (Ob Un)}(h:∀o∈os,VWf En (.dat o.τ o.xs)∧o.frozen≤o.xs.length){τ}{l:List (Den τ)}{fr}(ho:(⟨0,τ,l,fr,true⟩:Ob Un)∈os):WL τ l:=(h _ ho).1
def aiw{M fns fvs clo gns ups}(hM:M=gG fns fvs clo gns ups){nb bs}(hn:nb=bs.length)(hF:FnsOK Tryz.prog (gG fns fvs clo gns ups)){f fn}(hf:Tryz.prog.funcs[f]?=some fn)(hb:fn.body=some (zh fn)) N x fm{args rs bs' os os'}(h:(∀a∈args,Bp En a)→(∀b∈bs,∀c∈b.2,vF En c)→(∀o∈os,VWf En (.dat o.τ o.xs)∧o.frozen≤o.xs.length)→Runs (aB M N (zh fn) (Dt fn.ntmps x args bs os)<|b9 M nb fn.results.toList fm fun r b o=>r=rs∧b=bs'∧o=os')):GContract Tryz.prog En f args bs os rs bs' os':=by
 subst hM;subst hn;exact aim (M:=gG fns fvs clo gns ups) (DR fns fvs clo gns ups) hF mixed hf hb N x fm fun h1 h2 h3=>(h h1 h2 h3).out
def All2.weak{g ob w}:∀{vs:List Value}{cs:List (C Un)},All2 (CRel Tryz.prog En g ob w) vs cs→All2 (CRel Tryz.prog En g ob w) vs (cs.map C.weak)
 |[],[],_=>trivial
 |v::vs,c::cs,h=>⟨by
  have h0:=h.1;cases c with
  |sl τ xs f=>exact⟨h0.1,fun hf=>by grind⟩
  |_=>exact h0,All2.weak h.2⟩
def GContract.weak{f args rs bs bs' os os'}(h:GContract Tryz.prog En f args (bs.map fun b=>(b.1,b.2.map C.weak)) os rs bs' os'):GContract Tryz.prog En f args bs os rs bs' os':=by
 intro w g vs hp hvs;refine h w g vs ⟨fun k fz cells hk=>?_,fun k hk=>by simpa using hp.lbs k hk,hp.obs,hp.own,hp.laid,hp.nlb⟩ hvs;rw[dn]at hk;cases hb:bs[k]? with
 |none=>grind
 |some b=>
  rw[hb]at hk;obtain⟨rfl,rfl⟩:=hk;obtain⟨h1,us,h2,h3⟩:=hp.bxs k b.1 b.2 hb;exact⟨h1,us,h2.weak,h3⟩
def gS{U n body Q}{s:S U} k(h:br n body Q k s):zw n body Q s:=⟨k,h⟩
def DU{U n body Q}{s:S U}(h:zw n body Q s):∃k,br n body Q k s:=h
def dR{a b:Prop}(h:a=b)(x:b):a:=h▸x
def bJ{α:Type}{c}[Decidable c]{x y}{r:α}(h:(if c then x else y)=some r):(c∧x=some r)∨(¬c∧y=some r):=by
 grind
def jx{α:Type}{c}[Decidable c]{x}{r:α}(h:(if c then x else none)=some r):c∧x=some r:=by
 grind
def bind_some{α β:Type}{x}{f:α→Option β}{r}(h:(x>>=f)=some r):∃o,x=some o∧f o=some r:=by
 cases x with
 |none=>grind
 |some o=>grind
def zq{b}(h:¬b=true):b=false:=by grind
def aZ{b X Y}(h:b=true)(x:X):bv b X Y:=by subst h;exact x
def aP{b X Y}(h:b=false)(y:Y):bv b X Y:=by subst h;exact y
theorem zm{n}(h:-9223372036854775808≤n∧n≤9223372036854775807):IntKind.i64.wrap n=n:=IntWalk.i64_in n h
def DV{i n:Nat}(h:i<n)(hn:n≤9223372036854775807):IntKind.i64.wrap ((i:Int)+1)=((i+1:Nat):Int):=by
 grind[zm]
theorem drop_nil{α:Type}{l:List α}{i}(h:l.drop i=[]):l.length≤i:=y1o.1 h
def d9{α:Type}{l r:List α}{x i}(h:l.drop i=x::r):i<l.length∧(∀d,l.getD i d=x)∧l.drop (i+1)=r∧x∈l:=by
 have hi:i<l.length:=by
  grind[Nat.lt_or_ge,List.drop_of_length_le]
 rw[fR hi]at h;grind
def sN{α:Type}{l r:List α}{i}(h:l.drop i=r):r.length=l.length- i:=by grind
def fF{V R:Type}(step:V→Option (V ⊕R)):Nat→V→Option R
 |0,_=>none
 |n+1,v=>match step v with
  |none=>none
  |some (.inl v')=>fF step n v'
  |some (.inr r)=>some r
open Classical in
noncomputable def gU{V R:Type}(step:V→Option (V ⊕R))(v:V):Option R:=
 if h:∃n r,fF step n v=some r then some (Classical.choose<|Classical.choose_spec h)else none
theorem TB{V R step}:∀{n:Nat}{v:V}{r:R},fF step n v=some r→∀m,n≤m→fF step m v=some r
 |0,v,r,h,_,_=>by grind[fF]
 |n+1,v,r,h,m,hm=>by
  obtain⟨m',rfl⟩:∃m',m=m'+1:=⟨m- 1,by omega⟩;simp only[fF]at h ⊢;cases hs:step v with
  |none=>grind
  |some o=>
   rw[hs]at h;cases o with
   |inl v'=>exact TB (n:=n) h m'<|by omega
   |inr r'=>omega
def loopO_iff{V R step}{v:V}{r:R}:gU step v=some r↔∃n,fF step n v=some r:=by
 constructor
 ·intro h;unfold gU at h;split at h
  all_goals grind
 ·rintro⟨n,hn⟩;have hh:∃n r,fF step n v=some r:=⟨n,r,hn⟩;unfold gU;grind[Classical.choose_spec,TB,max,Classical.choose,Nat.le_max_left,Nat.le_max_right]
def mw{V R:Type}(f:V→Option R):Option (V ⊕R)→Option R
 |none=>none
 |some (.inl v)=>f v
 |some (.inr r)=>some r
@[simp] theorem aAX{V R} f:mw f (none:Option (V ⊕R))=none:=rfl
@[simp] theorem Br{V R} f v:mw f (some (.inl v):Option (V ⊕R))=f v:=rfl
@[simp] theorem DW{V R} f r:mw f (some (.inr r):Option (V ⊕R))=some r:=rfl
def zM{V R}(step:V→Option (V ⊕R)) v:gU step v=mw (gU step) (step v):=by
 have key:∀r,gU step v=some r↔mw (gU step) (step v)=some r:=by
  intro r;rw[loopO_iff];cases hs:step v with
  |none=>
   refine⟨fun⟨n,hn⟩=>?_,fun h=>by simp at h⟩;cases n with
   |zero=>grind[fF]
   |succ n=>simp_all[fF]
  |some o=>
   cases o with
   |inl v'=>
    rw[Br,loopO_iff];refine⟨fun⟨n,hn⟩=>?_,fun⟨n,hn⟩=>⟨n+1,by simp_all[fF]⟩⟩;cases n with
    |zero=>grind[fF]
    |succ n=>grind[fF]
   |inr r'=>
    refine⟨fun⟨n,hn⟩=>?_,fun h=>⟨1,by simp_all[fF]⟩⟩;cases n with
    |zero=>grind[fF]
    |succ n=>simp_all[fF]
 cases h:gU step v with
 |some r=>grind
 |none=>
  cases h2:mw (gU step) (step v)with
  |none=>rfl
  |some r=>grind
def zN{V R:Type}{step:V→Option (V ⊕R)}{I:V→Prop}{J:R→Prop}(hstep:∀v o,step v=some o→(match o with| .inl v'=>I v'| .inr r=>J r)→I v){v r}(h:gU step v=some r)(hJ:J r):I v:=by
 obtain⟨n,hn⟩:=loopO_iff.1 h;clear h
 induction n generalizing v with
 |zero=>grind[fF]
 |succ n ih=>
  grind[fF,step]
end Go.Proofs.YtjfpbchdcbhfgaaGreat.B
namespace Go.Proofs.YtjfpbchdcbhfgaaGreat.B
open Go Go.RowKit
section
variable {U:Uni} {M:Mc U} {N:Nat→NS}
noncomputable def ae{α:Type}(p:Prop)(x:Option α):Option α:=@ite _ p (Classical.propDecidable p) x none
noncomputable def uy{α:Type}:List Prop→Option α→Option α
 |[],x=>x
 |p::ps,x=>ae p<|uy ps x
theorem TC{α p}[Decidable p]{x:Option α}:ae p x=if p then x else none:=by
 simp[ae]
theorem z6{α p}(h:p){x:Option α}:ae p x=x:=if_pos h
def aix{α p x}{r:α}(h:ae p x=some r):p∧x=some r:=by
 simp_all[ae]
def TD{α}:∀{ps:List Prop}{x:Option α}{r:α},uy ps x=some r→(∀p∈ps,p)∧x=some r
 |[],_,_,h=>⟨by simp,h⟩
 |p::ps,x,r,h=>by
  obtain⟨h1,h2⟩:=aix h;obtain⟨h3,h4⟩:=TD h2;grind
theorem aiy{α β p x}{f:α→Option β}:(ae p x).bind f=ae p (x.bind f):=by
 grind[ae]
theorem TE{α β}{f:α→Option β}:∀{ps:List Prop}{x:Option α},(uy ps x).bind f=uy ps (x.bind f)
 |[],_=>rfl
 |p::ps,x=>by simp only[uy,aiy,TE]
def af{α:Type}(b:Bool)(x y:Option α):Option α:=match b with|true=>x|false=>y
theorem z8{α b}{x y:Option α}:af b x y=if b=true then x else y:=by cases b<;>rfl
noncomputable def TF{α:Type}(ops:List Oper)(i:Nat)(o:Oper)(s:S U)(r:Res U)(K:S U→Option α):Option α:=
 uy r.ob (match Ry ops i,r.v with
  |true,.one (.c<|.s<|.bool x)=>af x (K<|s.upd o.dst {r with v:=.one<|.c<|.s<|.bool true})<|K<|s.upd o.dst {r with v:=.one<|.c<|.s<|.bool false}
  |_,_=>K (s.upd o.dst r))
noncomputable def pZ{α:Type}(M:Mc U)(ops:List Oper):List Oper→Nat→S U→List Fp→(S U→List Fp→Option α)→Option α
 |[],_,s,fs,K=>K s fs
 |o::rest,i,s,fs,K=>
  match nU ops s o with
  |some true=>match aT M s o with
   |some r=>TF ops i o s r fun s'=>pZ M ops rest (i+1) s' (s.fp M ops o r::fs) K
   |none=>none
  |some false=>pZ M ops rest (i+1) (s.upd o.dst yU) (S.fp0 ops o::fs) K
  |none=>none
def Qk{α:Type}(b:Bool)(x:Option α):Option α:=match b with|true=>x|false=>none
noncomputable def zP{α:Type}(M:Mc U)(ops:Array Oper)(drawn:Bool)(s:S U)(K:S U→Option α):Option α:=
 pZ M ops.toList ops.toList 0 s [] fun s' fs=>match drawn with
  |false=>K s'
  |true=>Qk (uk 0 ops.toList&&yV (lg ops.toList []) 0 [] fs.reverse)<|K s'
abbrev EX(U:Uni):Type:=Exit×S U
def DX(e:Exit)(s:S U):Option (EX U):=some (e,s)
def nB{α:Type}(n:NS)(K:S U→Option α)(s:S U):Option α:=match s.norm n with|some s1=>K s1|none=>none
def LK(n:NS)(body:S U→(Exit→S U→Option (EX U))→Option (EX U))(s:S U):Option (S U ⊕EX U):=
 (body s DX).bind fun p=>match p.1 with
  | .normal=>(p.2.norm n).bind fun s1=>some<|.inl s1
  |e=>(p.2.norm n).bind fun s1=>some<|.inr (e,s1)
noncomputable def bA(n:NS)(body:S U→(Exit→S U→Option (EX U))→Option (EX U))(s:S U):Option (EX U):=gU (LK n body) s
def eV(n:NS)(I:S U→Option (EX U)):Exit→S U→Option (EX U)
 | .normal,s=>nB n I s
 |e,s=>nB n (fun s1=>some (e,s1)) s
def TG{α:Type}(next:S U→Option α)(Q:Exit→S U→Option α):Exit→S U→Option α
 | .normal,s=>next s
 |e,s=>Q e s
def DY{α:Type}(id:Nat)(Q:Exit→S U→Option α):Exit→S U→Option α
 | .exit id',s=>if id'=id then Q .normal s else Q (.exit id') s
 |e,s=>Q e s
def zd{α:Type}(Q:Exit→S U→Option α)(p:EX U):Option α:=Q p.1 p.2
noncomputable def aR(M:Mc U)(N:Nat→NS):Code→{α:Type}→S U→(Exit→S U→Option α)→Option α
 | .skip,_,s,Q=>Q .normal s
 | .region _ ops drawn,_,s,Q=>zP M ops drawn s<|Q .normal
 | .seq a b,_,s,Q=>aR M N a s<|TG (fun s'=>aR M N b s' Q) Q
 | .cond c a b,_,s,Q=>match s.ev M c with
  |some (.one<|.c<|.s<|.bool x)=>af x (aR M N a (s.onX (N 0).cs c true) Q)<|aR M N b (s.onX (N 0).cs c false) Q
  |_=>none
 | .block id c,_,s,Q=>aR M N c s<|DY id Q
 | .loop c,_,s,Q=>nB (N<|eJ c) (fun s1=>(bA (N<|eJ c) (fun s' Q'=>aR M N c s' Q') s1).bind<|zd Q) s
 | .exit id,_,s,Q=>Q (.exit id) s
 | .ret,_,s,Q=>Q .ret s
 |_,_,_,_=>none
noncomputable def bu{α:Type}(M:Mc U)(N:Nat→NS):Code→List Nat→(Exit→S U→Option α)→Exit→S U→Option α
 | .seq a b,k::p,Q=>match k with|0=>bu M N a p (TG (fun s'=>aR M N b s' Q) Q)|_=>bu M N b p Q
 | .block id c,_::p,Q=>bu M N c p<|DY id Q
 | .cond _ a b,k::p,Q=>match k with|3=>bu M N a p Q|_=>bu M N b p Q
 |_,_,Q=>Q
def Bs{α β ops}{f:α→Option β}:∀(l:List Oper)(i:Nat)(s:S U)(fs:List Fp)(K:S U→List Fp→Option α),
 (pZ M ops l i s fs K).bind f=pZ M ops l i s fs fun s' fs'=>(K s' fs').bind f
 |[],_,_,_,_=>rfl
 |o::rest,i,s,fs,K=>by
  simp only[pZ];split
  ·split
   ·unfold TF;rw[TE];congr 1;split
    ·rename_i b _ _;cases b
     ·exact Bs rest _ _ _ K
     ·exact Bs rest _ _ _ K
    ·exact Bs rest _ _ _ K
   rfl
  ·exact Bs rest _ _ _ K
  rfl
def aiz{α β ops drawn s K}{f:α→Option β}:(zP M ops drawn s K).bind f=zP M ops drawn s fun s'=>(K s').bind f:=by
 unfold zP;rw[Bs];cases drawn with
 |false=>rfl
 |true=>unfold Qk;grind
def aiA{α β n K}{s:S U}{f:α→Option β}:(nB n K s).bind f=nB n (fun s1=>(K s1).bind f) s:=by
 grind[nB]
def vG{α β}{f:α→Option β}:∀(c:Code)(s:S U)(Q:Exit→S U→Option α),(aR M N c s Q).bind f=aR M N c s fun e s'=>(Q e s').bind f
 | .skip,_,_=>rfl
 | .region _ _ _,_,_=>aiz
 | .seq a b,s,Q=>by
  simp only[aR];rw[vG a];congr 1;funext e s';cases e<;>first|rfl|exact vG b s' Q
 | .cond c a b,s,Q=>by
  simp only[aR];split
  ·rename_i x _;cases x
   ·exact vG b _ Q
   ·exact vG a _ Q
  rfl
 | .block id c,s,Q=>by
  simp only[aR];rw[vG c];congr 1;funext e s';cases e<;>first|rfl|grind[DY]
 | .loop c,s,Q=>by
  simp only[aR];rw[aiA];congr 1;funext s1;rw[Option.bind_assoc];rfl
 | .exit _,_,_=>rfl
 | .ret,_,_=>rfl
 | .scope _,_,_=>rfl
 | .label _,_,_=>rfl
 | .goto _,_,_=>rfl
 | .refuse _,_,_=>rfl
 | .rangeFunc _ _ _ _,_,_=>rfl
def aiB{α} c s(Q:Exit→S U→Option α):aR M N c s Q=(aR M N c s DX).bind (zd Q):=by
 rw[vG];rfl
def fU n c s:bA n (fun s' Q'=>aR M N c s' Q') s=aR M N c s (eV n<|bA n fun s' Q'=>aR M N c s' Q'):=by
 rw[aiB c s<|eV n _];unfold bA;rw[zM]
 conv=>lhs;arg 2;unfold LK;dsimp only
 cases h:aR M N c s DX with
 |none=>rfl
 |some p=>
  obtain⟨e,s'⟩:=p;simp only[yj,zd];cases e<;>simp only[eV,nB]<;>cases s'.norm n<;>rfl
def Bt{α ops r}:∀(l:List Oper)(i:Nat)(s:S U)(fs:List Fp){K:S U→List Fp→Option α}{K':S U→List Fp→Prop},(∀s' fs',K s' fs'=some r→K' s' fs')→
 pZ M ops l i s fs K=some r→pN M ops l i s fs K'
 |[],_,s,fs,_,_,hK,h=>hK s fs h
 |o::rest,i,s,fs,K,K',hK,h=>by
  simp only[pZ]at h;simp only[pN];split at h
  ·rename_i hw;rw[hw];split at h
   ·rename_i x hx;rw[hx];obtain⟨h1,h2⟩:=TD h;refine obs_iff.2 ⟨h1,?_⟩;split at h2
    ·rename_i b hg hv;rw[hg,hv];cases b
     ·exact Bt rest _ _ _ hK h2
     ·exact Bt rest _ _ _ hK h2
    ·split
     ·grind
     ·exact Bt rest _ _ _ hK h2
   grind
  ·rename_i hw;rw[hw];exact Bt rest _ _ _ hK h
  grind
def aiC{α ops drawn s K K'}{r:α}(hK:∀s',K s'=some r→K' s')(h:zP M ops drawn s K=some r):Ks M ops drawn s K':=by
 refine Bt _ _ _ _ (fun s' fs h'=>?_) h;cases drawn with
 |false=>grind
 |true=>
  unfold Qk at h';grind[Kr]
def aiD{α n s K}{K':S U→Prop}{r:α}(hK:∀s',K s'=some r→K' s')(h:nB n K s=some r):nV n K' s:=by
 grind[nB,nV]
def p3:∀(c:Code){α:Type}{s:S U}{Q:Exit→S U→Option α}{Q':Exit→S U→Prop}{r:α},(∀e s',Q e s'=some r→Q' e s')→aR M N c s Q=some r→aB M N c s Q'
 | .skip,_,_,_,_,_,hQ,h=>hQ _ _ h
 | .region _ _ _,_,_,_,_,_,hQ,h=>aiC (hQ _) h
 | .seq a b,_,s,Q,Q',r,hQ,h=>by
  refine p3 a (fun e s' h'=>?_) h;cases e<;>first|exact p3 b hQ h'|exact hQ _ _ h'
 | .cond c a b,_,s,Q,Q',r,hQ,h=>by
  simp only[aR]at h;simp only[aB];split at h
  ·rename_i x hx;rw[hx];cases x
   ·exact p3 b hQ h
   ·exact p3 a hQ h
  grind
 | .block id c,_,s,Q,Q',r,hQ,h=>by
  refine p3 c (fun e s' h'=>?_) h;cases e<;>first|exact hQ _ _ h'|(simp only[DY]at h';simp only[yW];grind)
 | .loop c,α,s,Q,Q',r,hQ,h=>by
  refine aiD (n:=N<|eJ c) (K':=zw (N<|eJ c) (aB M N c) Q') (fun s1 h1=>?_) h;obtain⟨p,hp,hq⟩:=y6.1 h1;refine zN (step:=LK (N<|eJ c) fun s' Q'=>aR M N c s' Q') (I:=zw (N<|eJ c) (aB M N c) Q') (J:=fun p=>Q' p.1 p.2) ?_ hp (hQ _ _ hq);intro s2 o ho hI;obtain⟨⟨e,s3⟩,h3,h4⟩:=y6.1 ho;have key:∀k,(∀s4,s3.norm (N<|eJ c)=some s4→(e=.normal→br (N<|eJ c) (aB M N c) Q' k s4)∧(e≠.normal→Q' e s4))→(∃s4,s3.norm (N<|eJ c)=some s4)→zw (N<|eJ c) (aB M N c) Q' s2:=by
   intro k hk hs;refine⟨k+1,?_⟩;refine p3 c (fun e' s' h'=>?_) h3;simp only[DX,y8,yi]at h';obtain⟨s4,hs4⟩:=hs;cases e'<;>simp only[Ku,nV,hs4]<;>first|grind|grind
  cases e with
  |normal=>
   obtain⟨s4,h5,h6⟩:=y6.1 h4;cases h6;obtain⟨k,hk⟩:=hI;exact key k (fun s4' h'=>by grind) ⟨s4,h5⟩
  |_=>
   obtain⟨s4,h5,h6⟩:=y6.1 h4;cases h6;simp_all
 | .exit _,_,_,_,_,_,hQ,h=>hQ _ _ h
 | .ret,_,_,_,_,_,hQ,h=>hQ _ _ h
 | .scope _,_,_,_,_,_,_,h=>by grind[aR]
 | .label _,_,_,_,_,_,_,h=>by grind[aR]
 | .goto _,_,_,_,_,_,_,h=>by grind[aR]
 | .refuse _,_,_,_,_,_,_,h=>by grind[aR]
 | .rangeFunc _ _ _ _,_,_,_,_,_,_,h=>by grind[aR]
abbrev RF(U:Uni):Type:=List (A U)×List (Ob U)
abbrev GD(U:Uni):Type:=List (A U)×List (Bool×List (C U))×List (Ob U)
def DZ(M:Mc U)(rv:List ResultVar)(fm:List Kind)(s:S U):Option (RF U):=
 match s.ress M rv with
 |some al=>match s.out fm al with
  |some (rs,os)=>some (rs,os)
  |none=>none
 |none=>none
def rN(M:Mc U)(rv:List ResultVar)(fm:List Kind):Exit→S U→Option (RF U)
 | .ret,s=>DZ M rv fm s
 | .normal,s=>DZ M rv fm s
 |_,_=>none
def D1(M:Mc U)(nb:Nat)(rv:List ResultVar)(fm:List Kind)(s:S U):Option (GD U):=
 match s.ress M rv,s.boxesAt (List.range nb)with
 |some al,some bs=>match s.out fm (yZ bs++al)with
  |some (rs,os)=>match yY bs rs with
   |some (bs',rs')=>some (rs',bs',os)
   |none=>none
  |none=>none
 |_,_=>none
def D2(M:Mc U)(nb:Nat)(rv:List ResultVar)(fm:List Kind):Exit→S U→Option (GD U)
 | .ret,s=>D1 M nb rv fm s
 | .normal,s=>D1 M nb rv fm s
 |_,_=>none
def aiE{rv fm r}:∀e s,rN M rv fm e s=some r→aK M rv fm (fun rs os=>rs=r.1∧os=r.2) e s:=by
 have key:∀s,DZ M rv fm s=some r→ul M rv fm (fun rs os=>rs=r.1∧os=r.2) s:=by
  intro s h;unfold DZ at h;unfold ul;grind
 intro e s h;cases e<;>first|exact key s h|grind[rN]
def aiF{nb rv fm r}:∀e s,D2 M nb rv fm e s=some r→b9 M nb rv fm (fun rs bs os=>rs=r.1∧bs=r.2.1∧os=r.2.2) e s:=by
 have key:∀s,D1 M nb rv fm s=some r→um M nb rv fm (fun rs bs os=>rs=r.1∧bs=r.2.1∧os=r.2.2) s:=by
  intro s h;unfold D1 at h;unfold um;grind
 intro e s h;cases e<;>first|exact key s h|grind[D2]
def TH{c s rv fm r}(h:aR M N c s (rN M rv fm)=some r):Runs (aB M N c s<|aK M rv fm fun rs os=>rs=r.1∧os=r.2):=
 ⟨p3 c aiE h⟩
def aiG{c s nb rv fm r}(h:aR M N c s (D2 M nb rv fm)=some r):Runs (aB M N c s<|b9 M nb rv fm fun rs bs os=>rs=r.1∧bs=r.2.1∧os=r.2.2):=
 ⟨p3 c aiF h⟩
end
def dz{M fns fvs clo gns ups}(hM:M=gG fns fvs clo gns ups)(hF:FnsOK Tryz.prog (gG fns fvs clo gns ups)){f fn}(hf:Tryz.prog.funcs[f]?=some fn)(hb:fn.body=some (zh fn)) N x fm{args rs os}(h:(∀a∈args,mo En a)→aR M N (zh fn) (bG fn.ntmps x args) (rN M fn.results.toList fm)=some (rs,os)):Contract Tryz.prog En f args rs os:=
 Bq hM hF hf hb N x fm fun ha=>TH (r:=(rs,os))<|h ha
theorem eW{n i:Nat}(hi:i<n)(hn:n≤9223372036854775807):IntKind.i64.wrap ((i:Int)+1)=((i+1:Nat):Int):=by
 rw[IntKind.wrap_i64];omega
def zy{σ α:Type}{L:S Un→Option (EX Un)}{st:σ→Int→S Un}{l:List α}{d g}(Inv:Nat→σ→Prop)(hl:l.length≤9223372036854775807)(step:∀(a:σ)(i:Nat)(x:α),(i:Int)<(l.length:Int)→l.getD i d=x→Inv i a→Inv (i+1) (g a x)∧L (st a i)=L (st (g a x)<|IntKind.i64.wrap<|(i:Int)+1)){e}(stop:∀a,Inv l.length a→L (st a (l.length:Int))=some (e,st a (l.length:Int))) a(h0:Inv 0 a):
 L (st a (0:Int))=some (e,st (l.foldl g a) (l.length:Int))∧Inv l.length (l.foldl g a):=by
 have key:∀(r:List α)(i:Nat)(a:σ),l.drop i=r→i≤l.length→Inv i a→L (st a i)=some (e,st (r.foldl g a) (l.length:Int))∧Inv l.length (r.foldl g a):=by
  intro r
  induction r with
  |nil=>
   intro i a hr hi hI;have:l.length≤i:=by simp_all
   grind
  |cons x r ih=>
   intro i a hr hi hI;have hlt:i<l.length:=by
    grind
   have hx:l.getD i d=x:=by
    rw[fR hlt]at hr;rw[yf,ya hlt];exact(Gj hr).1
   have hr':l.drop (i+1)=r:=by
    rw[fR hlt]at hr;exact(Gj hr).2
   obtain⟨h1,h2⟩:=step a i x (by omega) hx hI;rw[h2,eW hlt hl];exact ih (i+1) (g a x) hr' hlt h1
 grind
theorem zf{α}{X:Option (EX Un)}{e s}{C:Exit→S Un→Option α}(h:X=some (e,s)):X.bind (zd C)=C e s:=by rw[h];rfl
def bl:Nat→Nat→List Bool
 |0,_=>[]
 |k+1,m=>Nat.beq (m % 2) 1::bl k (m/2)
def ai(n:Int):AV Un:=.one<|.c<|.s<|.int .i64 n
def ab(b:Bool):AV Un:=.one<|.c<|.s<|.bool b
def at_(b:ByteArray):AV Un:=.one<|.c<|.s<|.string b
def ax(k:Nat):AV Un:=.one<|.c<|.bx k 0
def al(τ:Ty)(l:List (Den τ)):AV Un:=.one<|.c<|.sl (U:=Un) τ l false
def ag(τ:Ty)(x:Den τ):AV Un:=.one<|.agg<|jk τ x
def ao(k:Nat):AV Un:=.one<|.c<|.ob k 0
def bb(n:Bool):Option (Bool×List (C Un)):=some (false,[.s<|.bool n])
def bg(τ:Ty)(x:Den τ):Option (Bool×List (C Un)):=some (false,jk τ x)
def bo(k:Nat):Option (Bool×List (C Un)):=some (false,[.ob k 0])
def Term.ids(x:Term):Term:=.mk (Term.op x) (Term.v x) (Term.depth x) (Term.at_ x) (Term.name x) (Term.kids x) (Term.sub x)<|Term.type x
theorem Term.ids_eq x:Term.ids x=x:=by cases x;rfl
def Agg.ids(x:Agg):Agg:=.mk (Agg.name x) (Agg.distinct x)<|Agg.t x
theorem Agg.ids_eq x:Agg.ids x=x:=by cases x;rfl
def Rel.ids(x:Rel):Rel:=.mk (Rel.op x) (Rel.table x) (Rel.cols x) (Rel.kids x) (Rel.terms x) (Rel.aggs x) (Rel.keys x) (Rel.limit x) (Rel.skip x) (Rel.all x)<|Rel.rows x
theorem Rel.ids_eq x:Rel.ids x=x:=by cases x;rfl
def az(l1:List (Nat×au Un))(l2:List (Nat×FV Un))(l3:List (Nat×(List (List<|DC Un)→Option (FV Un))))(l4:List (Nat×(List Bool×fS Un)))(l5:List (Nat×mh Un)):Mc Un:=gG (jw l1) (jw l2) (jw l3) (jw l4)<|jw l5
abbrev KeyF:Type:=List Prop×RF Un
def LL(k:KeyF):au Un:=fun args=>match args with
 |[]=>some k
 |_=>none
def aQ{α:Type}(d:D Un→Option α)(k:α→KeyF):au Un:=fun args=>match args with
 |[x]=>(d x).bind fun a=>some<|k a
 |_=>none
def aD{α β:Type}(d:D Un→Option α)(d2:D Un→Option β)(k:α→β→KeyF):au Un:=fun args=>match args with
 |[x,y]=>(d x).bind fun a=>(d2 y).bind fun b=>some<|k a b
 |_=>none
def dW{α β γ:Type}(d:D Un→Option α)(d2:D Un→Option β)(d3:D Un→Option γ)(k:α→β→γ→KeyF):au Un:=fun args=>match args with
 |[x,y,z]=>(d x).bind fun a=>(d2 y).bind fun b=>(d3 z).bind fun c=>some<|k a b c
 |_=>none
def LM{α β γ δ:Type}(d:D Un→Option α)(d2:D Un→Option β)(d3:D Un→Option γ)(d4:D Un→Option δ)(k:α→β→γ→δ→KeyF):au Un:=fun args=>match args with
 |[x,y,z,u]=>(d x).bind fun a=>(d2 y).bind fun b=>(d3 z).bind fun c=>(d4 u).bind fun e=>some<|k a b c e
 |_=>none
def am{args:List (D Un)}(h:∀a∈args,mo En a)(i:Nat){a:D Un}{P:Prop}(hi:args[i]?=some a:=by rfl)[w:WArg a P]:P:=w.of<|h a<|y9 hi
def aA{ps:List Prop}(h:∀p∈ps,p)(i:Nat){p:Prop}(hi:ps[i]?=some p:=by rfl):p:=h p<|y9 hi
/-- A function's machine, names and body: enough for its contract. -/
def zQ{M:Mc Un}{l1:List (Nat×au Un)}{l2:List (Nat×FV Un)}{l3:List (Nat×(List (List<|DC Un)→Option (FV Un)))}{l4:List (Nat×(List Bool×fS Un))}{l5:List (Nat×mh Un)}(hM:M=az l1 l2 l3 l4 l5)
 (h1:AllL aj l1)(h2:AllL eQ l2)(h3:AllL kR l3)(h4:AllL iv l4)(h5:AllL px l5){f:FuncId}{fn:Func}(hf:Tryz.prog.funcs[f]?=some fn)(hb:fn.body=some (zh fn))(hn:(fn.name== "runtime.NumGoroutine")=false){N:Nat→NS}{x:Nat}{fm:List Kind}{args:List (D Un)}{r:RF Un}
 (h:(∀a∈args,mo En a)→Runs (aB M N (zh fn) (bG fn.ntmps x args)<|aK M fn.results.toList fm fun rs os=>rs=r.1∧os=r.2)):Contract Tryz.prog En f args r.1 r.2∧dw Tryz.prog f:=
 ⟨Bq hM (cM h1 h2 h3 h4 h5) hf hb N x fm h,zl hf hb hn⟩
section
variable {M:Mc Un} {l1:List (Nat×au Un)} {l2:List (Nat×FV Un)} {l3:List (Nat×(List (List (DC Un))→Option (FV Un)))} {l4:List (Nat×(List Bool×fS Un))} {l5:List (Nat×mh Un)} {f:FuncId} {fn:Func} {N:Nat→NS} {x:Nat} {fm:List Kind} {α β γ δ:Type}
 {d:D Un→Option α} {d2:D Un→Option β} {d3:D Un→Option γ} {d4:D Un→Option δ} {e:α→D Un} {e2:β→D Un} {e3:γ→D Un} {e4:δ→D Un}
/-- What is asked of a function's plain form, told in both ways. -/
def GiF(M:Mc Un)(N:Nat→NS)(fn:Func)(x:Nat)(fm:List Kind)(args:List (D Un))(k:KeyF):Prop:=(∀a∈args,mo En a)→(∀p∈k.1,p)→aR M N (zh fn) (bG fn.ntmps x args) (rN M fn.results.toList fm)=some k.2
def vH(M:Mc Un)(N:Nat→NS)(fn:Func)(x:Nat)(fm:List Kind)(args:List (D Un))(k:KeyF):Prop:=(∀a∈args,mo En a)→(∀p∈k.1,p)→Runs (aB M N (zh fn) (bG fn.ntmps x args)<|aK M fn.results.toList fm fun rs os=>rs=k.2.1∧os=k.2.2)
theorem GiF.r{args:List (D Un)}{k:KeyF}(h:GiF M N fn x fm args k):vH M N fn x fm args k:=fun a b=>TH<|h a b
def aiH{k:KeyF}(hM:M=az l1 l2 l3 l4 l5)(h1:AllL aj l1)(hf:Tryz.prog.funcs[f]?=some fn)
 (h:vH M N fn x fm [] k)(hb:fn.body=some (zh fn):=by kernel_rfl)(hn:(fn.name== "runtime.NumGoroutine")=false:=by kernel_rfl)(h2:AllL eQ l2:=by exact trivial)(h3:AllL kR l3:=by exact trivial)(h4:AllL iv l4:=by exact trivial)(h5:AllL px l5:=by exact trivial):aj f (LL k):=by
 intro args ob rs os hh hob;unfold LL at hh;split at hh
 ·obtain rfl:=yg hh;exact zQ hM h1 h2 h3 h4 h5 hf hb hn (r:=(rs,os)) fun hw=>h hw hob
 ·simp at hh
def aU{k:α→KeyF}(q1:∀{a x},d a=some x→a=e x)(hM:M=az l1 l2 l3 l4 l5)(h1:AllL aj l1)(hf:Tryz.prog.funcs[f]?=some fn)
 (h:∀a,vH M N fn x fm [e a]<|k a)(hb:fn.body=some (zh fn):=by kernel_rfl)(hn:(fn.name== "runtime.NumGoroutine")=false:=by kernel_rfl)(h2:AllL eQ l2:=by exact trivial)(h3:AllL kR l3:=by exact trivial)(h4:AllL iv l4:=by exact trivial)(h5:AllL px l5:=by exact trivial):aj f (aQ d k):=by
 intro args ob rs os hh hob;unfold aQ at hh;split at hh
 ·simp only[y6]at hh;obtain⟨a,g1,hk⟩:=hh;obtain rfl:=q1 g1;have hk:=yg hk;have:=h a;rw[hk]at this;exact zQ hM h1 h2 h3 h4 h5 hf hb hn (r:=(rs,os)) fun hw=>this hw hob
 ·simp at hh
def aJ{k:α→β→KeyF}(q1:∀{a x},d a=some x→a=e x)(q2:∀{a x},d2 a=some x→a=e2 x)(hM:M=az l1 l2 l3 l4 l5)(h1:AllL aj l1)(hf:Tryz.prog.funcs[f]?=some fn)
 (h:∀a b,vH M N fn x fm [e a,e2 b]<|k a b)(hb:fn.body=some (zh fn):=by kernel_rfl)(hn:(fn.name== "runtime.NumGoroutine")=false:=by kernel_rfl)(h2:AllL eQ l2:=by exact trivial)(h3:AllL kR l3:=by exact trivial)(h4:AllL iv l4:=by exact trivial)(h5:AllL px l5:=by exact trivial):aj f (aD d d2 k):=by
 intro args ob rs os hh hob;unfold aD at hh;split at hh
 ·simp only[y6]at hh;obtain⟨a,g1,b,g2,hk⟩:=hh;obtain rfl:=q1 g1;obtain rfl:=q2 g2;have hk:=yg hk;have:=h a b;rw[hk]at this;exact zQ hM h1 h2 h3 h4 h5 hf hb hn (r:=(rs,os)) fun hw=>this hw hob
 ·simp at hh
def jl{k:α→β→γ→KeyF}(q1:∀{a x},d a=some x→a=e x)(q2:∀{a x},d2 a=some x→a=e2 x)(q3:∀{a x},d3 a=some x→a=e3 x)(hM:M=az l1 l2 l3 l4 l5)(h1:AllL aj l1)(hf:Tryz.prog.funcs[f]?=some fn)
 (h:∀a b c,vH M N fn x fm [e a,e2 b,e3 c]<|k a b c)(hb:fn.body=some (zh fn):=by kernel_rfl)(hn:(fn.name== "runtime.NumGoroutine")=false:=by kernel_rfl)(h2:AllL eQ l2:=by exact trivial)(h3:AllL kR l3:=by exact trivial)(h4:AllL iv l4:=by exact trivial)(h5:AllL px l5:=by exact trivial):aj f (dW d d2 d3 k):=by
 intro args ob rs os hh hob;unfold dW at hh;split at hh
 ·simp only[y6]at hh;obtain⟨a,g1,b,g2,c,g3,hk⟩:=hh;obtain rfl:=q1 g1;obtain rfl:=q2 g2;obtain rfl:=q3 g3;have hk:=yg hk;have:=h a b c;rw[hk]at this;exact zQ hM h1 h2 h3 h4 h5 hf hb hn (r:=(rs,os)) fun hw=>this hw hob
 ·simp at hh
def aiI{k:α→β→γ→δ→KeyF}(q1:∀{a x},d a=some x→a=e x)(q2:∀{a x},d2 a=some x→a=e2 x)(q3:∀{a x},d3 a=some x→a=e3 x)(q4:∀{a x},d4 a=some x→a=e4 x)(hM:M=az l1 l2 l3 l4 l5)(h1:AllL aj l1)(hf:Tryz.prog.funcs[f]?=some fn)
 (h:∀a b c u,vH M N fn x fm [e a,e2 b,e3 c,e4 u]<|k a b c u)(hb:fn.body=some (zh fn):=by kernel_rfl)(hn:(fn.name== "runtime.NumGoroutine")=false:=by kernel_rfl)(h2:AllL eQ l2:=by exact trivial)(h3:AllL kR l3:=by exact trivial)(h4:AllL iv l4:=by exact trivial)(h5:AllL px l5:=by exact trivial):aj f (LM d d2 d3 d4 k):=by
 intro args ob rs os hh hob;unfold LM at hh;split at hh
 ·simp only[y6]at hh;obtain⟨a,g1,b,g2,c,g3,u,g4,hk⟩:=hh;obtain rfl:=q1 g1;obtain rfl:=q2 g2;obtain rfl:=q3 g3;obtain rfl:=q4 g4;have hk:=yg hk;have:=h a b c u;rw[hk]at this;exact zQ hM h1 h2 h3 h4 h5 hf hb hn (r:=(rs,os)) fun hw=>this hw hob
 ·simp at hh
/-- The same with a bound on a measure ahead of what is asked. -/
def bB(n m:Nat)(k:KeyF):KeyF:=((n<m)::k.1,k.2)
def LN{n:Nat}{k:KeyF}(h:∀p∈(bB n 0 k).1,p):False:=cQ _<|h _ cP
def rO{k:α→KeyF}{s:α→Nat}:aj f (aQ d fun a=>bB (s a) 0<|k a):=by
 intro args ob rs os hh hob;unfold aQ at hh;split at hh
 ·simp only[y6]at hh;obtain⟨a,_,hk⟩:=hh;have hk:=yg hk;exact(LN (k:=k a) (n:=s a) (by rw[hk];exact hob)).elim
 ·simp at hh
def ew{k:α→β→KeyF}{s:α→β→Nat}:aj f (aD d d2 fun a b=>bB (s a b) 0<|k a b):=by
 intro args ob rs os hh hob;unfold aD at hh;split at hh
 ·simp only[y6]at hh;obtain⟨a,_,b,_,hk⟩:=hh;have hk:=yg hk;exact(LN (k:=k a b) (n:=s a b) (by rw[hk];exact hob)).elim
 ·simp at hh
def zR{k:α→β→γ→KeyF}{s:α→β→γ→Nat}:aj f (dW d d2 d3 fun a b c=>bB (s a b c) 0<|k a b c):=by
 intro args ob rs os hh hob;unfold dW at hh;split at hh
 ·simp only[y6]at hh;obtain⟨a,_,b,_,c,_,hk⟩:=hh;have hk:=yg hk;exact(LN (k:=k a b c) (n:=s a b c) (by rw[hk];exact hob)).elim
 ·simp at hh
def LO{n:Nat}{k:KeyF}(h:∀p∈k.1,p):∀p∈(bB n (n+1) k).1,p:=fun p hp=>by
 rcases yh.1 hp with rfl|hp
 ·exact pI _
 ·exact h p hp
def D3{k:α→KeyF}{s:α→Nat}(h:∀m,aj f (aQ d fun a=>bB (s a) m (k a))):aj f (aQ d k):=by
 intro args ob rs os hh hob;unfold aQ at hh;split at hh
 ·rename_i x;simp only[y6]at hh;obtain⟨a,hd,hk⟩:=hh;have hk:=yg hk;have:=h (s a+1) [x] (bB (s a) (s a+1) (k a)).1 rs os (by simp only[aQ,hd,yj,bB,hk]);exact this (LO (by rw[hk];exact hob))
 ·simp at hh
def rP{k:α→β→KeyF}{s:α→β→Nat}(h:∀m,aj f (aD d d2 fun a b=>bB (s a b) m (k a b))):aj f (aD d d2 k):=by
 intro args ob rs os hh hob;unfold aD at hh;split at hh
 ·rename_i x y;simp only[y6]at hh;obtain⟨a,hd,b,hd2,hk⟩:=hh;have hk:=yg hk;have:=h (s a b+1) [x,y] (bB (s a b) (s a b+1) (k a b)).1 rs os (by simp only[aD,hd,hd2,yj,bB,hk]);exact this (LO (by rw[hk];exact hob))
 ·simp at hh
def aiJ{k:α→β→γ→KeyF}{s:α→β→γ→Nat}(h:∀m,aj f (dW d d2 d3 fun a b c=>bB (s a b c) m (k a b c))):aj f (dW d d2 d3 k):=by
 intro args ob rs os hh hob;unfold dW at hh;split at hh
 ·rename_i x y z;simp only[y6]at hh;obtain⟨a,hd,b,hd2,c,hd3,hk⟩:=hh;have hk:=yg hk;have:=h (s a b c+1) [x,y,z] (bB (s a b c) (s a b c+1) (k a b c)).1 rs os (by simp only[dW,hd,hd2,hd3,yj,bB,hk]);exact this (LO (by rw[hk];exact hob))
 ·simp at hh
end
/-- Loops and what comes behind, told by their place. -/
noncomputable def aC(M:Mc Un)(N:Nat→NS)(f:Func)(p:List Nat)(n:Nat):S Un→Option (EX Un):=bA (N n) fun s Q=>aR M N (sub (zh f) p) s Q
noncomputable def aE(M:Mc Un)(N:Nat→NS)(f:Func)(p:List Nat)(ks:List Kind):Exit→S Un→Option (RF Un):=bu M N (zh f) p<|rN M f.results.toList ks
noncomputable def aw(M:Mc Un)(N:Nat→NS)(f:Func)(x:Nat)(ks:List Kind)(args:List (D Un)):Option (RF Un):=aR M N (zh f) (bG f.ntmps x args)<|rN M f.results.toList ks
def aF{M:Mc Un}{N:Nat→NS}{f:Func}{p:List Nat}{n:Nat}{s:S Un}{r:Option (EX Un)}(h:aR M N (sub (zh f) p) s (eV (N n)<|aC M N f p n)=r:=by kernel_rfl):aC M N f p n s=r:=(fU (N n) (sub (zh f) p) s).trans h
def aO(l:List (Nat×NS))(b:Bool):Nat→NS:=fun n=>(look n l).getD ⟨[],[],[],[],[],b⟩

def ah{α:Type}{a b:α}(h:a=b:=by kernel_rfl):a=b:=h
end Go.Proofs.YtjfpbchdcbhfgaaGreat.B
namespace Go.Proofs.YtjfpbchdcbhfgaaGreat
open Go.RowKit Go.ChangeShapes
def aiK{H}{enc:TypeId×Value→H}{P}(hl:laidOutB P=true){W W'}(hb:Ext W W'):
 ∀{ts:List TypeId}{vs:List Value}{ds:List (DataW H)}{ps:List MemPlace},(∀t∈ts,P.readableRec t=true∧t<P.types.size)→
  DataW.TrodAll enc P W 0 (fun _=>true) true ts vs ds ps→(∀x∈ps,x.block<W.heap.size)→
  DataW.TrodAll enc P W' 0 (fun b=>decide (b<W.heap.size)) true ts vs ds ps:=by
 intro ts
 induction ts with
 |nil=>
  intro vs ds ps _ h _;cases vs<;>cases ds<;>first|exact h|exact h.elim
 |cons t ts ih=>
  intro vs ds ps hr h hlt;cases vs with
  |nil=>cases ds<;>exact h.elim
  |cons v vs=>
   cases ds with
   |nil=>exact h.elim
   |cons d ds=>
    obtain⟨p,q,hd,hrest,rfl⟩:=h;have h0:=hr t (by simp);refine⟨p,q,Below.trod hl h0.1 h0.2 hd hb (fun x hx=>hlt x (by grind)),ih (fun t ht=>hr t (by grind)) hrest (fun x hx=>hlt x (by grind)),rfl⟩
def aiL{H enc P W b sp hd}:
 ∀{ts:List TypeId}{vs:List Value}{ds:List (DataW H)}{ps:List MemPlace},DataW.TrodAll enc P W b sp hd ts vs ds ps→ds.length=ts.length∧vs.length=ts.length:=by
 intro ts
 induction ts with
 |nil=>intro vs ds ps h;cases vs<;>cases ds<;>first|exact h.elim|simp
 |cons t ts ih=>
  intro vs ds ps h;cases vs with
  |nil=>cases ds<;>exact h.elim
  |cons v vs=>
   cases ds with
   |nil=>exact h.elim
   |cons d ds=>obtain⟨p,q,_,hrest,_⟩:=h;grind
def aiM{H enc P f}{s:ChangeSpec}{tb W W' args}{ds gs:List (DataW H)}{before}(hl:laidOutB P=true)(hr:f.params.toList.all (fun t=>P.readableRec t&&decide (t<P.types.size))=true)(hres:f.resultTypes=#[tb])(hub:P.underlying tb=some .bool)(hvars:s.vars=[])(hspec:∀l:List (DataW H),l.length=f.params.toList.length→(s.fn H l).results=[.lit (.bool true)]∧(s.fn H l).args=l∧(s.fn H l).vars=[])(hW:DataW.Whole enc P f.params.toList s.vars false W args.toList ds gs before)(hb:Ext W W'):
 s.post enc P f false true false false W args (.bool true) W':=by
 have hW0:=hW;obtain⟨p,q,hA,hV,rfl,hfz,hnd⟩:=hW;rw[hvars]at hV;have hgs:gs=[]∧q=[]:=by
  cases gs with
  |nil=>exact⟨rfl,hV⟩
  |cons g gs=>exact hV.elim
 obtain⟨rfl,rfl⟩:=hgs;have hlen:=(aiL hA).1;obtain⟨e1,e2,e3⟩:=hspec (ds++[]) (by grind);have hr':∀t∈f.params.toList,P.readableRec t=true∧t<P.types.size:=by
  grind
 refine⟨ds,[],p++[],[],p,[],hW0,?_,?_,?_,Below.frame hb _,fun h=>by grind⟩
 ·rw[e1,hres];exact trodAll_cons_mk (shut_bool hub _) trodAll_mk0
 ·rw[e2,de];exact aiK hl hb hr' hA (fun x hx=>by simpa using hW0.lt x (by grind))
 ·rw[hvars,e3];rfl
end Go.Proofs.YtjfpbchdcbhfgaaGreat
namespace Go.Proofs.YtjfpbchdcbhfgaaGreat.B
open Go Go.RowKit
inductive Fl
 |int|bool|str
 |num (k:IntKind)
 |sl (τ:Ty)
 deriving DecidableEq
def aM:V Un→Option Fl
 | .s (.int .i64 _)=>some .int
 | .s (.int k _)=>some<|.num k
 | .s (.bool _)=>some .bool
 | .s (.string _)=>some .str
 | .dat τ _=>some<|.sl τ
 |_=>none
def ct(τ:Ty):List Fl:=(enc τ<|dflt τ).filterMap aM
def zS{vs f fs}(h:vs.map aM=(f::fs).map some):∃v r,vs=v::r∧aM v=some f∧r.map aM=fs.map some:=by
 cases vs with
 |nil=>grind
 |cons v r=>grind
def cY{vs}(h:vs.map aM=([]:List Fl).map some):vs=[]:=by simp_all
def bZ{vs fs}(h:vs.map aM=(Fl.int::fs).map some):∃n r,vs=ci n::r∧r.map aM=fs.map some:=by
 obtain⟨v,r,rfl,h1,h2⟩:=zS h;unfold aM at h1;split at h1<;>simp at h1;exact⟨_,r,rfl,h2⟩
def TJ{vs k fs}(h:vs.map aM=(Fl.num k::fs).map some):∃n r,vs=.s (.int k n)::r∧r.map aM=fs.map some:=by
 obtain⟨v,r,rfl,h1,h2⟩:=zS h;unfold aM at h1;grind
def gd{vs fs}(h:vs.map aM=(Fl.bool::fs).map some):∃n r,vs=cb n::r∧r.map aM=fs.map some:=by
 obtain⟨v,r,rfl,h1,h2⟩:=zS h;unfold aM at h1;split at h1<;>simp at h1;exact⟨_,r,rfl,h2⟩
def gV{vs fs}(h:vs.map aM=(Fl.str::fs).map some):∃n r,vs=cs n::r∧r.map aM=fs.map some:=by
 obtain⟨v,r,rfl,h1,h2⟩:=zS h;unfold aM at h1;split at h1<;>simp at h1;exact⟨_,r,rfl,h2⟩
def bP{vs τ fs}(h:vs.map aM=(Fl.sl τ::fs).map some):∃(l:List (Den τ))(r:List (V Un)),vs=.dat (U:=Un) τ l::r∧r.map aM=fs.map some:=by
 obtain⟨v,r,rfl,h1,h2⟩:=zS h;unfold aM at h1;split at h1<;>simp at h1;subst h1;grind
section
variable {H:Type} {enc':TypeId×Value→H} {P:Program} {w:World} {spare:Nat→Bool} {held:Bool}
def zT(P:Program)(lay:TypeId→Option (List Fl)):List Field→Nat→Option (List Fl)
 |[],_=>some []
 |f::r,off=>match lay f.type with
  |some l=>if f.offset=off∧l.length=P.cellsOf f.type then(zT P lay r<|off+l.length).map (l++·)else none
  |none=>none
def lay(P:Program)(tab:TypeId→TI Un):Nat→TypeId→Option (List Fl)
 |0,_=>none
 |k+1,t=>match P.underlying t with
  |some (.int .i64)=>some [.int]
  |some (.int k)=>some [.num k]
  |some (.array n e)=>match lay P tab k e with
   |some l=>if l.length=P.cellsOf e∧n*l.length=P.cellsOf t then some ((List.replicate n l).flatten)else none
   |none=>none
  |some .bool=>some [.bool]
  |some .string=>some [.str]
  |some (.slice e)=>match tab t with
   | .sl e' τ _=>if e'=e then some [.sl τ]else none
   |_=>none
  |some (.struct fs)=>match zT P (lay P tab k) fs.toList 0 with
   |some l=>if l.length=P.cellsOf t then some l else none
   |none=>none
  |_=>none
inductive VB(byt:Ty→Nat):V Un→Prop
 |s (x:Value):VB byt (.s x)
 |dat (τ:Ty) (xs:List (Den τ)) (h:xs.length*byt τ≤reachBytes) (h2:∀x∈xs,∀d∈enc τ x,VB byt d):VB byt (.dat (U:=Un) τ xs)
mutual
inductive BK:V Un→Nat→Prop
 |s (x:Value) (n:Nat) (h:∀b,x=.string b→b.size≤n):BK (.s x) n
 |dat (τ:Ty) (xs:List (Den τ)) (n:Nat) (h:BKL τ xs n):BK (.dat (U:=Un) τ xs) n
inductive BKL:(τ:Ty)→List (Den τ)→Nat→Prop
 |nil (τ:Ty) (n:Nat):BKL τ [] n
 |cons (τ:Ty) (x:Den τ) (xs:List (Den τ)) (a b n:Nat) (h1:BKS (enc τ x) a) (h2:BKL τ xs b) (hn:a+1+b≤n):BKL τ (x::xs) n
inductive BKS:List (V Un)→Nat→Prop
 |nil (n:Nat):BKS [] n
 |cons (v:V Un) (vs:List (V Un)) (a b n:Nat) (h1:BK v a) (h2:BKS vs b) (hn:a+b≤n):BKS (v::vs) n
end
theorem BKS.mono{vs n m}(h:BKS vs n)(hm:n≤m):BKS vs m:=by
 cases h with
 |nil _=>exact .nil _
 |cons v vs a b _ h1 h2 hn=>exact .cons v vs a b _ h1 h2<|by omega
theorem BKL.mono{τ xs n m}(h:BKL τ xs n)(hm:n≤m):BKL τ xs m:=by
 cases h with
 |nil _ _=>exact .nil _ _
 |cons _ x xs a b _ h1 h2 hn=>exact .cons _ x xs a b _ h1 h2<|by omega
def BKS.append{us n}(h:BKS us n){vs m}(h2:BKS vs m):BKS (us++vs) (n+m):=by
 induction us generalizing n with
 |nil=>exact h2.mono<|by omega
 |cons u us ih=>
  cases h with
  |cons _ _ a b _ g1 g2 hn=>exact .cons u _ a (b+m) _ g1 (ih g2)<|by omega
def BKS.one x n(h:∀b,x=.string b→b.size≤n):BKS [.s x] n:=.cons _ _ n 0 _ (.s _ _ h) (.nil _)<|by omega
def BKS.none(τ:Ty) n:BKS [.dat (U:=Un) τ []] n:=.cons _ _ 0 0 _ (.dat _ _ _<|.nil _ _) (.nil _)<|by omega
theorem aiN(d:DataW H):1≤Rows.uptoBulk d:=by
 cases d with
 |lit l=>cases l<;>simp[Rows.uptoBulk]
 |nil=>simp[Rows.uptoBulk]
 |ptr d=>simp[Rows.uptoBulk]
 |slice elems spare=>simp[Rows.uptoBulk]
 |agg parts=>simp[Rows.uptoBulk]
 |iface t d=>simp[Rows.uptoBulk]
 |map entries=>simp[Rows.uptoBulk]
 |held h=>simp[Rows.uptoBulk]
def TK{τ}:∀(xs:List (Den τ))(es:List (DataW H)),xs.length=es.length→(∀(i:Nat) x e,xs[i]?=some x→es[i]?=some e→BKS (enc τ x) (Rows.uptoBulk e- 1))→BKL τ xs (Rows.uptoBulkAll es)
 |[],[],_,_=>.nil _ _
 |x::xs,e::es,h,hh=>.cons _ _ _ _ _ _ (hh 0 x e rfl rfl) (TK xs es (by grind) fun i x e hx he=>hh (i+1) x e (by grind)<|by grind)<|by simp[aiN,Rows.uptoBulkAll]
 |[],_::_,h,_=>by grind
 |_::_,[],h,_=>by grind
def TL{d e k}:∀{l:List (DataW H)},d∈l→k∈d.weights P e→k∈DataW.weightsAll P e l
 |x::l,hd,hk=>by
  rw[DataW.weightsAll];rcases yh.1 hd with rfl|hd
  ·grind
  ·exact ye.2<|.inr<|TL hd hk
def TM{α β R}:∀{l:List α}{r:List β},l.length=r.length→(∀(i:Nat)(x:α)(y:β),l[i]?=some x→r[i]?=some y→R x y)→All2 R l r
 |[],[],_,_=>trivial
 |x::l,y::r,h,hh=>⟨hh 0 x y rfl rfl,TM (by grind) fun i a b ha hb=>hh (i+1) a b (by grind)<|by grind⟩
 |[],_::_,h,_=>by grind
 |_::_,[],h,_=>by grind
def iN(w:World)(b _o:Nat):Prop:=b<w.heap.size
def aiO(P:Program)(tab:TypeId→TI Un):Prop:=∀t e τ b,tab t=.sl e τ b→∃k,lay P tab k e=some (ct τ)
def TN:Prop:=∀(τ:Ty)(vs:List (V Un)),vs.map aM=(ct τ).map some→∃x,dec τ vs=some x
theorem All2.at{α β R}:∀{l:List α}{r:List β},All2 R l r→∀(i:Nat)(x:α)(y:β),l[i]?=some x→r[i]?=some y→R x y
 |[],[],_,i,x,y,hx,_=>by grind
 |a::l,b::r,h,i,x,y,hx,hy=>by
  cases i with
  |zero=>simp at hx hy;subst hx;subst hy;exact h.1
  |succ i=>exact All2.at h.2 i x y hx hy
def TO{tab:TypeId→TI Un}{byt:Ty→Nat}{k n}{cs:List Value}(IH:∀t cs(x:DataW H×List MemPlace) fl,DataW.trod enc' P w 0 spare held n t cs=some x→lay P tab k t=some fl→∃vs,All2 (VRel En (iN w) w) cs vs∧vs.map aM=fl.map some∧((∀q∈x.1.weights P t,q≤reachBytes)→∀v∈vs,VB byt v)∧BKS vs (Rows.uptoBulk x.1- 1)):
 ∀(fs:List Field)(ys:List (DataW H×List MemPlace))(off:Nat)(fl:List Fl),zT P (lay P tab k) fs off=some fl→All2 (fun f y=>DataW.trod enc' P w 0 spare held n f.type ((cs.drop f.offset).take (P.cellsOf f.type))=some y) fs ys→
  off+fl.length=cs.length→∃vs,All2 (VRel En (iN w) w) (cs.drop off) vs∧vs.map aM=fl.map some∧((∀q∈DataW.weightsEach P (fs.map (·.type)) (ys.map (·.1)),q≤reachBytes)→∀v∈vs,VB byt v)∧BKS vs (Rows.uptoBulkAll (ys.map (·.1)))
 |[],ys,off,fl,h,_,hl=>by
  simp[zT]at h;subst h;refine⟨[],?_,rfl,fun _ v hv=>by grind,.nil _⟩;rw[fA (by grind)];trivial
 |f::r,[],off,fl,h,hf,hl=>hf.elim
 |f::r,y::ys,off,fl,h,hf,hl=>by
  simp only[zT]at h;split at h
  ·rename_i l hlf;split at h
   ·rename_i hc;rw[Option.map_eq_some_iff]at h;obtain⟨fl',h1,rfl⟩:=h;obtain⟨hy,hf2⟩:=hf;rw[hc.1,←hc.2]at hy;obtain⟨vs1,a1,a2,a3,a4⟩:=IH _ _ _ _ hy hlf;obtain⟨vs2,b1,b2,b3,b4⟩:=TO IH r ys (off+l.length) fl' h1 hf2 (by grind);refine⟨vs1++vs2,?_,by grind,fun hq v hv=>?_,(a4.append b4).mono (by simp[cL,Rows.uptoBulkAll])⟩
    ·rw[←iB l.length (cs.drop off),Gh];exact a1.append b1
    ·rcases ye.1 hv with hv|hv
     ·exact a3 (fun q hh=>hq q (ye.2 (.inl hh))) v hv
     ·exact b3 (fun q hh=>hq q (ye.2 (.inr hh))) v hv
   grind
  grind
def TP{byt:Ty→Nat}{n}{cs:List Value}{e}{l:List Fl}(IH:∀cs(x:DataW H×List MemPlace),DataW.trod enc' P w 0 spare held n e cs=some x→∃vs,All2 (VRel En (iN w) w) cs vs∧vs.map aM=l.map some∧((∀q∈x.1.weights P e,q≤reachBytes)→∀v∈vs,VB byt v)∧BKS vs (Rows.uptoBulk x.1- 1))(hle:l.length=P.cellsOf e):
 ∀(m:Nat)(ys:List (DataW H×List MemPlace))(off:Nat),ys.length=m→(∀i,i<m→DataW.trod enc' P w 0 spare held n e ((cs.drop (off+i*P.cellsOf e)).take (P.cellsOf e))=ys[i]?)→
  off+m*l.length=cs.length→∃vs,All2 (VRel En (iN w) w) (cs.drop off) vs∧vs.map aM=((List.replicate m l).flatten).map some∧((∀q∈DataW.weightsAll P e (ys.map (·.1)),q≤reachBytes)→∀v∈vs,VB byt v)∧BKS vs (Rows.uptoBulkAll (ys.map (·.1)))
 |0,ys,off,_,_,hl=>by
  refine⟨[],?_,rfl,fun _ v hv=>by grind,.nil _⟩;rw[fA (by omega)];trivial
 |m+1,[],off,h,_,_=>by grind
 |m+1,y::ys,off,hlen,hf,hl=>by
  have h0:=hf 0 (by omega);obtain⟨vs1,a1,a2,a3,a4⟩:=IH _ _ h0
  obtain⟨vs2,b1,b2,b3,b4⟩:=TP IH hle m ys (off+l.length) (by grind) (fun i hi=>by
   have:=hf (i+1) (by omega);rw[y4o]at this
   rw[←this,hle];congr 3;grind) (by grind)
  refine⟨vs1++vs2,?_,by grind,fun hq v hv=>?_,(a4.append b4).mono (by simp[cL,Rows.uptoBulkAll])⟩
  ·have e1:=iB l.length (cs.drop off);rw[Gh]at e1;rw[←e1];have a1':All2 (VRel En (iN w) w) ((cs.drop off).take l.length) vs1:=by grind
   exact a1'.append b1
  ·rcases ye.1 hv with hv|hv
   ·exact a3 (fun q hh=>hq q (ye.2 (.inl hh))) v hv
   ·exact b3 (fun q hh=>hq q (ye.2 (.inr hh))) v hv
def aiP{a n cs}(h:w.cells? 0 a n=some cs):cs.length=n∧∀j,j<n→w.cell? (a.add j)=cs[j]?:=by
 refine⟨by simpa using mapM_some_length h,fun j hj=>?_⟩;exact mapM_some_get h j j<|by grind
def aiQ{tab:TypeId→TI Un}{byt}(hbyt:∀t e τ b,tab t=.sl e τ b→P.bytesOf e=byt τ)(hlay:aiO P tab)(hdec:TN)(hsz:∀τ,0<sz τ)(hcell:∀t e τ b,tab t=.sl e τ b→P.cellsOf e=sz τ):
 ∀(n:Nat)(t:TypeId)(cs:List Value)(x:DataW H×List MemPlace)(k:Nat)(fl:List Fl),DataW.trod enc' P w 0 spare held n t cs=some x→lay P tab k t=some fl→
  ∃vs,All2 (VRel En (iN w) w) cs vs∧vs.map aM=fl.map some∧((∀q∈x.1.weights P t,q≤reachBytes)→∀v∈vs,VB byt v)∧BKS vs (Rows.uptoBulk x.1- 1):=by
 intro n
 induction n with
 |zero=>simp[cs,DataW.trod]
 |succ n IH=>
  intro t cs x k fl h hl;cases k with
  |zero=>grind[lay]
  |succ k=>
   simp only[lay]at hl;split at hl
   ·rename_i hu;obtain⟨m,rfl,-,hw⟩:=DataW.trod_int hu h;simp at hl;subst hl;refine⟨[ci m],⟨.s _ ?_,trivial⟩,rfl,fun _ v hv=>by rw[yl]at hv;subst hv;exact .s _,.one _ _ (fun _ e=>by grind)⟩;simp_all[Lit.wf,bH]
   ·rename_i kd hne hu;obtain⟨m,rfl,-,hw⟩:=DataW.trod_int hu h;simp at hl;subst hl;refine⟨[.s (.int kd m)],⟨.s _ ?_,trivial⟩,?_,fun _ v hv=>by rw[yl]at hv;subst hv;exact .s _,.one _ _ (fun _ e=>by grind)⟩
    ·simp_all[Lit.wf,bH]
    ·cases kd<;>first|rfl|grind
   ·rename_i m e hu;split at hl
    ·rename_i l hle;split at hl
     ·rename_i hc;simp only[y8]at hl;subst hl;obtain⟨xs,n',hn',hx0,g1,g2,g3⟩:=DataW.trod_array hu h;obtain rfl:n'=n:=by omega
      obtain⟨vs,b1,b2,b3,b4⟩:=TP (byt:=byt) (cs:=cs) (e:=e) (l:=l) (fun cs x hx=>IH _ _ _ _ _ hx hle) hc.1 m xs 0 g2 (fun i hi=>by grind) (by omega);grind[Rows.uptoBulk,DataW.weights]
     grind
    grind
   ·rename_i hu;simp at hl;subst hl;obtain⟨b,rfl⟩:∃b,cs=[.bool b]:=by
     unfold DataW.trod at h;grind
    exact⟨[cb b],⟨.s _ rfl,trivial⟩,rfl,fun _ v hv=>by rw[yl]at hv;subst hv;exact .s _,.one _ _ (fun _ e=>by grind)⟩
   ·rename_i hu;simp at hl;subst hl;obtain⟨s,rfl,hs,hbk⟩:∃s:ByteArray,cs=[.string s]∧s.size≤maxLen∧s.size≤Rows.uptoBulk x.1- 1:=by
     unfold DataW.trod at h;rw[hu]at h;split at h<;>first|(rename_i s _;simp at h;exact⟨_,rfl,h.1,by rw[←h.2];simp[Rows.uptoBulk]⟩)|simp_all
    exact⟨[B.cs s],⟨.s _ (decide_eq_true hs),trivial⟩,rfl,fun _ v hv=>by rw[yl]at hv;subst hv;exact .s _,.one _ _ (fun b e=>by grind)⟩
   ·rename_i e hu;split at hl
    ·rename_i e' τ b ht;split at hl
     ·rename_i he;subst he;simp at hl;subst hl;rcases DataW.trod_slice hu h with⟨rfl,-⟩|⟨a,len,cap,elems,rest,m,hm,rfl,hx0,-,h1,h2,h3,h4,-,-⟩
      ·exact⟨[.dat (U:=Un) τ []],⟨.nil _ _ _,trivial⟩,rfl,fun _ v hv=>by rw[yl]at hv;subst hv;exact .dat τ [] (by simp) (by simp),.none _ _⟩
      ·obtain rfl:m=n:=by omega
       obtain⟨ke,hke⟩:=hlay t e' τ b ht;have hc:=hcell t e' τ b ht;have hz:=hsz τ;have key:∀i,i<len→∃(x':Den τ)(cs:List Value),All2 (VRel En (iN w) w) cs (enc τ x')∧cs.length=sz τ∧(∀j,j<sz τ→w.cell? ((a.add (i*sz τ)).add j)=cs[j]?)∧((∀q∈x.1.weights P t,q≤reachBytes)→∀d∈enc τ x',VB byt d)∧(∀e,elems[i]?=some e→BKS (enc τ x') (Rows.uptoBulk e.1- 1)):=by
        intro i hi;have:=h4 i hi;rw[hc]at this;have he:elems[i]?=some elems[i]:=ya (by omega);rw[he,y6]at this;obtain⟨ci,g1,g2⟩:=this;obtain⟨vs,g3,g4,g8,g9⟩:=IH _ _ _ _ _ g2 hke;obtain⟨x',hx⟩:=hdec τ vs g4;obtain⟨g5,g6⟩:=aiP g1;have hbk:=zJ τ vs x' hx;refine⟨x',ci,by grind,g5,g6,fun hq d hd=>?_,fun e' he'=>by grind⟩;rw[hbk]at hd;refine g8 (fun q hh=>hq q ?_) d hd;rw[hx0];simp only[DataW.weights,hu];refine cV _ (ye.2 (.inl (TL (y2a.2 ⟨_,mc (by omega:i<elems.length),rfl⟩) hh)))
       cases len with
       |zero=>exact⟨[.dat (U:=Un) τ []],⟨.nil _ _ _,trivial⟩,rfl,fun _ v hv=>by rw[yl]at hv;subst hv;exact .dat τ [] (by simp) (by simp),.none _ _⟩
       |succ len=>
        obtain⟨blk,off,spot⟩:=a;have hspot:spot=none:=by
         obtain⟨x',cs,-,g1,g2,-,-⟩:=key 0 (by omega);have:=g2 0 hz;rw[ya (by omega)]at this;simp[Addr.add,World.cell?]at this;split at this
         all_goals simp_all
        subst hspot;have hadd:∀p q:Nat,((⟨blk,off,none⟩:Addr).add p).add q=⟨blk,off+p+q,none⟩:=by
         grind[Addr.add]
        let f:Nat→Den τ:=fun i=>if hi:i<len+1 then Classical.choose (key i hi)else dflt τ;let xs:List (Den τ):=(List.range (len+1)).map f;have hxl:xs.length=len+1:=by grind
        have hVB:(∀q∈x.1.weights P t,q≤reachBytes)→VB byt (.dat (U:=Un) τ xs):=by
         intro hq;refine .dat τ xs ?_ ?_
         ·grind[DataW.weights,List.length_map,List.mem_cons_self,Nat.le_trans,Nat.mul_le_mul_right]
         ·intro y hy d hd;obtain⟨i,hi,rfl⟩:=y4m hy;have hi':i<len+1:=by omega
          have hxi:xs[i]=Classical.choose (key i hi'):=by
           simp only[xs,Ba,List.getElem_range,f];grind
          obtain⟨cs,-,-,-,g3,-⟩:=Classical.choose_spec (key i hi');grind
        have hBK:BKL τ xs (Rows.uptoBulkAll (elems.map (·.1))):=by
         refine TK xs _ (by grind) fun i x' e hx' he=>?_;grind
        refine⟨[.dat (U:=Un) τ xs],⟨?_,trivial⟩,rfl,fun hq v hv=>by grind,.cons _ _ (Rows.uptoBulkAll (elems.map (·.1))) 0 _ (.dat _ _ _ hBK) (.nil _) (by simp_all[Rows.uptoBulk])⟩;have hrel:VRel En (iN w) w (.slice (some ⟨blk,off,none⟩) xs.length cap) (.dat (U:=Un) τ xs):=by
         refine .dat (U:=Un) τ xs blk off cap (fun i j=>(w.cell? ⟨blk,off+i*sz τ+j,none⟩).getD .nilIface) ⟨by omega,by rw[hxl];exact gK h1 h2⟩ ?_ ?_
         ·intro i j hi hj;obtain⟨cs,-,g1,g2,-,-⟩:=Classical.choose_spec (key i (by omega));obtain⟨v,hv⟩:∃v,cs[j]?=some v:=⟨_,ya (by grind)⟩;have:=g2 j hj;rw[hadd,hv]at this;have this':w.cell? ⟨blk,off+i*sz τ+j,none⟩=some v:=this;refine⟨?_,?_⟩
          ·exact vz this'
          grind
         ·intro i hi j d hd;have hi':i<len+1:=by omega
          have hxi:xs[i]=Classical.choose (key i hi'):=by
           simp only[xs,Ba,List.getElem_range,f];rw[dif_pos hi']
          obtain⟨cs,g0,g1,g2,-,-⟩:=Classical.choose_spec (key i hi');rw[hxi]at hd;have hj:j<sz τ:=by
           have:=(ym.1 hd).1;have hh:=pX τ (Classical.choose (key i hi'));exact hh▸this
          obtain⟨v,hv⟩:∃v,cs[j]?=some v:=⟨_,ya (by rw[g1];exact hj)⟩;have:=g2 j hj;rw[hadd,hv]at this;have this':w.cell? ⟨blk,off+i*sz τ+j,none⟩=some v:=this;show VRel En (iN w) w ((w.cell? ⟨blk,off+i*sz τ+j,none⟩).getD .nilIface) d;rw[this'];exact All2.at g0 j _ _ hv hd
        grind
     grind
    grind
   ·rename_i fs hu;split at hl
    ·rename_i l hfs;split at hl
     ·rename_i hlen;simp at hl;subst hl;obtain⟨xs,m,hm,hx0,g1,g2,g3⟩:=DataW.trod_struct hu h;obtain rfl:m=n:=by omega
      have:=TO (tab:=tab) (byt:=byt) (k:=k) (n:=m) (cs:=cs) (fun t cs x fl hx hy=>IH t cs x k fl hx hy) fs.toList xs 0 l hfs (TM (by simpa using g2.symm) (fun i f y hi hy=>by
       have:=g3 i f (by simpa using hi)
       rw[hy]at this;exact this)) (by omega)
      obtain⟨vs,b1,b2,b3,b4⟩:=this;refine⟨vs,by simpa using b1,b2,fun hq=>b3 (fun q hh=>hq q ?_),b4.mono (by rw[hx0];simp only[Rows.uptoBulk];omega)⟩;rw[hx0];simp only[DataW.weights,hu];exact hh
     ·simp at hl
    ·simp at hl
   grind
end
end Go.Proofs.YtjfpbchdcbhfgaaGreat.B
namespace Go.Proofs.YtjfpbchdcbhfgaaGreat.B
open Go Go.RowKit
set_option maxRecDepth 100000
noncomputable section
attribute [local irreducible] aB bk zw br aK b9
def cR(n:Int):Bool:=decide<|-1000000000000000≤n∧n≤1000000000000000
def uz(s:ByteArray):Bool:=s.toList.all (fun b=>decide<|32≤b.toNat∧b.toNat≤126)&&decide (s.size≤100)
def fV(v:Val):Bool:=
 if v.kind=0 then decide (v.n=0)&&decide (v.s.size=0)
 else if v.kind=1 then decide (v.n=0∨v.n=1)&&decide (v.s.size=0)
 else if v.kind=2 then cR v.n&&decide (v.s.size=0)
 else if v.kind=3 then decide (v.n=0)&&uz v.s
 else false
def cK(a b:Int):Int:=if a<b then-1 else if a>b then 1 else 0
def bF:List UInt8→List UInt8→Int
 |[],[]=>0
 |[],_::_=>-1
 |_::_,[]=>1
 |a::l,b::r=>if a=b then bF l r else cK a.toNat b.toNat
def gH(a b:ByteArray):Int:=bF a.toList b.toList
def ordV(a b:Val):Int:=if a.kind=b.kind then(if a.n=b.n then gH a.s b.s else cK a.n b.n)else cK a.kind b.kind
def cC:List Val→List Val→Int
 |[],[]=>0
 |[],_::_=>-1
 |_::_,[]=>1
 |a::l,b::r=>if ordV a b=0 then cC l r else ordV a b
theorem eK(s:ByteArray):s.toList.length=s.size:=by rw[ByteArray.toList_eq,iz];rfl
theorem aiR(s:ByteArray):s.toList=[]↔s.size=0:=by grind[eK]
theorem TQ(s:ByteArray):(s.toList==(⟨#[]⟩:ByteArray).toList)=decide (s.size=0):=by
 have h:(⟨#[]⟩:ByteArray).toList=[]:=by simp
 grind[aiR,decide_eq_true,decide_eq_false]
theorem TR{a b:ByteArray}(h:a.toList=b.toList):a=b:=by
 rw[ByteArray.toList_eq,ByteArray.toList_eq]at h;cases a;simp_all
def aiS s i(h:i<s.size):(Utf8.decode s i).1=(s.toList.getD i 0).toNat∧(Utf8.decode s i).2=1∨128≤(s.toList.getD i 0).toNat∧128≤(Utf8.decode s i).1:=by
 have hg:s.get! i=s.toList.getD i 0:=by
  have hb:=R5 s i h;rw[getElem?_pos s i h]at hb;simp only[y8]at hb;rw[←hb];show s.data[i]! =s.data[i];simp_all
 unfold Utf8.decode;simp only[iC,hg];generalize(s.toList.getD i 0).toNat=b;by_cases hb:b<0x80
 ·grind
 ·grind[Utf8.runeError]
theorem LP{a b}:cK a b=0↔a=b:=by
 unfold cK;omega
theorem TS:∀{a b:List UInt8},bF a b=0↔a=b
 |[],[]=>by simp[bF]
 |[],_::_=>by simp[bF]
 |_::_,[]=>by simp[bF]
 |a::l,b::r=>by
  simp only[bF];split
  ·rename_i h;subst h;rw[TS];simp
  simp_all[LP,absurd,UInt8.toNat_inj,Int.ofNat_inj]
theorem aiT{a b}:gH a b=0↔a=b:=by
 grind[gH,TS,TR]
theorem ordV_zero{a b}:ordV a b=0↔a=b:=by
 cases a;cases b;grind[ordV,aiT,LP]
theorem ordR_zero:∀{a b:List Val},cC a b=0↔a=b
 |[],[]=>by simp[cC]
 |[],_::_=>by simp[cC]
 |_::_,[]=>by simp[cC]
 |a::l,b::r=>by
  simp only[cC];split
  ·rename_i h;rw[ordV_zero]at h;subst h;rw[ordR_zero];simp
  ·rename_i h;constructor
   ·intro e;exact absurd e h
   ·intro e;simp at e;rw[e.1]at h;exact absurd (ordV_zero.2 rfl) h
end
end Go.Proofs.YtjfpbchdcbhfgaaGreat.B
namespace Go.Proofs.YtjfpbchdcbhfgaaGreat.B
open Go Go.RowKit
set_option maxRecDepth 100000
noncomputable section
attribute [local irreducible] aB bk zw br aK b9
mutual
def Term.ht:Term→Nat
 | .mk _ _ _ _ _ kids sub _=>max (aY kids) (rQ sub)+1
def aY:List Term→Nat
 |[]=>0
 |t::r=>max t.ht<|aY r
def Agg.ht:Agg→Nat
 | .mk _ _ t=>aY t+1
def fx:List Agg→Nat
 |[]=>0
 |t::r=>max t.ht<|fx r
def Rel.ht:Rel→Nat
 | .mk _ _ _ kids terms aggs _ _ _ _ _=>max (rQ kids) (max (aY terms)<|fx aggs)+1
def rQ:List Rel→Nat
 |[]=>0
 |t::r=>max t.ht<|rQ r
end
def jy{t}:∀{l:List Term},t∈l→t.ht≤aY l
 |x::l,h=>by
  simp only[aY];rcases yh.1 h with rfl|h
  ·omega
  ·have:=jy h;omega
def LQ{t}:∀{l:List Rel},t∈l→t.ht≤rQ l
 |x::l,h=>by
  simp only[rQ];rcases yh.1 h with rfl|h
  ·omega
  ·have:=LQ h;omega
def D4{t}:∀{l:List Agg},t∈l→t.ht≤fx l
 |x::l,h=>by
  simp only[fx];rcases yh.1 h with rfl|h
  ·omega
  ·have:=D4 h;omega
def Term.ht_kid{t k:Term}(h:k∈t.kids):k.ht<t.ht:=by
 cases t;simp at h;simp only[Term.ht];have:=jy h;omega
def Term.ht_sub{t:Term}{k}(h:k∈t.sub):k.ht<t.ht:=by
 cases t;simp at h;simp only[Term.ht];have:=LQ h;omega
def Rel.ht_kid{r k:Rel}(h:k∈r.kids):k.ht<r.ht:=by
 cases r;simp at h;simp only[Rel.ht];have:=LQ h;omega
def Rel.ht_agg{r:Rel}{k}(h:k∈r.aggs):k.ht<r.ht:=by
 cases r;simp at h;simp only[Rel.ht];have:=D4 h;omega
def cG{α:Type}{l:List α}{i d}(h:i<l.length):l.getD i d∈l:=by
 grind
def Term.ht_kidD{t:Term}{i}(h:i<t.kids.length):(t.kids.getD i zb).ht<t.ht:=Term.ht_kid<|cG h
end
end Go.Proofs.YtjfpbchdcbhfgaaGreat.B
namespace Go.Proofs.YtjfpbchdcbhfgaaGreat.B
open Go Go.RowKit
set_option maxRecDepth 100000
noncomputable section
attribute [local irreducible] aB bk zw br aK b9 aR bu bA
mutual
def Term.sz:Term→Nat
 | .mk _ _ _ _ _ kids sub _=>ez kids+jm sub+1
def ez:List Term→Nat
 |[]=>0
 |t::r=>t.sz+ez r
def Agg.sz:Agg→Nat
 | .mk _ _ t=>ez t+1
def gI:List Agg→Nat
 |[]=>0
 |t::r=>t.sz+gI r
def Rel.sz:Rel→Nat
 | .mk _ _ _ kids terms aggs _ _ _ _ rows=>jm kids+ez terms+gI aggs+rows.length+1
def jm:List Rel→Nat
 |[]=>0
 |t::r=>t.sz+jm r
end
def Term.sz_eq(t:Term):t.sz=ez t.kids+jm t.sub+1:=by cases t;rfl
def Agg.sz_eq(a:Agg):a.sz=ez a.t+1:=by cases a;rfl
def Rel.sz_eq(r:Rel):r.sz=jm r.kids+ez r.terms+gI r.aggs+r.rows.length+1:=by cases r;rfl
def p4{t}:∀{l:List Term},t∈l→t.sz≤ez l
 |x::l,h=>by
  simp only[ez];rcases yh.1 h with rfl|h
  ·omega
  ·have:=p4 h;omega
def LR{t}:∀{l:List Rel},t∈l→t.sz≤jm l
 |x::l,h=>by
  simp only[jm];rcases yh.1 h with rfl|h
  ·omega
  ·have:=LR h;omega
def vI{t}:∀{l:List Agg},t∈l→t.sz≤gI l
 |x::l,h=>by
  simp only[gI];rcases yh.1 h with rfl|h
  ·omega
  ·have:=vI h;omega
def fG:∀l:List Term,l.length≤ez l
 |[]=>yc _
 |x::l=>by have:=fG l;have h:=x.sz_eq;grind[ez,List.length_cons]
def D5:∀l:List Rel,l.length≤jm l
 |[]=>yc _
 |x::l=>by have:=D5 l;have h:=x.sz_eq;grind[jm,List.length_cons]
def D6:∀l:List Agg,l.length≤gI l
 |[]=>yc _
 |x::l=>by have:=D6 l;have h:=x.sz_eq;grind[gI,List.length_cons]
theorem LS:∀(a b:List Term),ez (a++b)=ez a+ez b
 |[],b=>by simp[ez]
 |x::a,b=>by simp only[eT,ez,LS a b];omega
end
end Go.Proofs.YtjfpbchdcbhfgaaGreat.B
namespace Go.Proofs.YtjfpbchdcbhfgaaGreat.B
open Go Go.RowKit
set_option linter.unusedVariables false
def BKS.cons_inv{v vs n}(h:BKS (v::vs) n):∃a b,BK v a∧BKS vs b∧a+b≤n:=by
 cases h with
 |cons _ _ a b _ h1 h2 hn=>exact⟨a,b,h1,h2,hn⟩
def BKL.cons_inv{τ x xs n}(h:BKL τ (x::xs) n):∃a b,BKS (enc τ x) a∧BKL τ xs b∧a+1+b≤n:=by
 cases h with
 |cons _ _ _ a b _ h1 h2 hn=>exact⟨a,b,h1,h2,hn⟩
def BK.dat_inv{τ}{xs:List (Den τ)}{n}(h:BK (.dat (U:=Un) τ xs) n):BKL τ xs n:=by
 cases h with
 |dat _ _ _ h=>exact h
theorem BKL.len{τ}:∀{xs:List (Den τ)}{n:Nat},BKL τ xs n→xs.length≤n
 |[],_,_=>yc _
 |x::xs,n,h=>by
  obtain⟨a,b,_,h2,hn⟩:=h.cons_inv;have:=BKL.len h2;rw[yz];omega
mutual
def bkT:∀(t:Term)(n:Nat),BKS (enc .term t) n→t.sz≤n+1
 | .mk op v depth at_ name kids sub type,n,h=>by
  obtain⟨_,_,_,h,_⟩:=h.cons_inv;obtain⟨_,_,_,h,_⟩:=h.cons_inv;obtain⟨_,_,_,h,_⟩:=h.cons_inv;obtain⟨_,_,_,h,_⟩:=h.cons_inv;obtain⟨_,_,_,h,_⟩:=h.cons_inv;obtain⟨_,_,_,h,_⟩:=h.cons_inv;obtain⟨_,_,_,h,_⟩:=h.cons_inv;obtain⟨_,_,k1,h,_⟩:=h.cons_inv;obtain⟨_,_,k2,_,_⟩:=h.cons_inv;have e1:=D7 kids _ k1.dat_inv;have e2:=LT sub _ k2.dat_inv;simp only[Term.sz];omega
def D7:∀(l:List Term)(n:Nat),BKL .term l n→ez l≤n
 |[],_,_=>yc _
 |t::r,n,h=>by
  obtain⟨_,_,h1,h2,_⟩:=h.cons_inv;have e1:=bkT t _ h1;have e2:=D7 r _ h2;simp only[ez];omega
def bkA:∀(a:Agg)(n:Nat),BKS (enc .agg a) n→a.sz≤n+1
 | .mk name distinct t,n,h=>by
  obtain⟨_,_,_,h,_⟩:=h.cons_inv;obtain⟨_,_,_,h,_⟩:=h.cons_inv;obtain⟨_,_,k1,_,_⟩:=h.cons_inv;have e1:=D7 t _ k1.dat_inv;simp only[Agg.sz];omega
def TT:∀(l:List Agg)(n:Nat),BKL .agg l n→gI l≤n
 |[],_,_=>yc _
 |t::r,n,h=>by
  obtain⟨_,_,h1,h2,_⟩:=h.cons_inv;have e1:=bkA t _ h1;have e2:=TT r _ h2;simp only[gI];omega
def bkR:∀(r:Rel)(n:Nat),BKS (enc .rel r) n→r.sz≤n+1
 | .mk op table cols kids terms aggs keys limit skip all rows,n,h=>by
  obtain⟨_,_,_,h,_⟩:=h.cons_inv;obtain⟨_,_,_,h,_⟩:=h.cons_inv;obtain⟨_,_,_,h,_⟩:=h.cons_inv;obtain⟨_,_,k1,h,_⟩:=h.cons_inv;obtain⟨_,_,k2,h,_⟩:=h.cons_inv;obtain⟨_,_,k3,h,_⟩:=h.cons_inv;obtain⟨_,_,_,h,_⟩:=h.cons_inv;obtain⟨_,_,_,h,_⟩:=h.cons_inv;obtain⟨_,_,_,h,_⟩:=h.cons_inv;obtain⟨_,_,_,h,_⟩:=h.cons_inv;obtain⟨_,_,k4,_,_⟩:=h.cons_inv;have e1:=LT kids _ k1.dat_inv;have e2:=D7 terms _ k2.dat_inv;have e3:=TT aggs _ k3.dat_inv;have e4:(rows:List (List Val)).length≤_:=(BK.dat_inv k4).len;simp only[Rel.sz];omega
def LT:∀(l:List Rel)(n:Nat),BKL .rel l n→jm l≤n
 |[],_,_=>yc _
 |t::r,n,h=>by
  obtain⟨_,_,h1,h2,_⟩:=h.cons_inv;have e1:=bkR t _ h1;have e2:=LT r _ h2;simp only[jm];omega
end
end Go.Proofs.YtjfpbchdcbhfgaaGreat.B
namespace Go.Proofs.YtjfpbchdcbhfgaaGreat.B
open Go Go.RowKit
set_option maxRecDepth 100000
noncomputable section
attribute [local irreducible] aB bk zw br aK b9 aR bu bA
def av:Mc Un:=az [] [] [] [] []
def aq(r:Val):RF Un:=([.agg<|jk Ty.val r],[])
def aN:Nat→NS:=aO [] false
def TU(n:Int):Option (RF Un):=aw av aN Tryz.f32 0 [.d] [.d<|.v<|.s<|.int .i64 n]
theorem aiU(n):TU n=some (aq<|{kind:=(2:Int),n:=n,s:=⟨#[]⟩}):=ah
def zk(n:Int):Val:=
 ({kind:=(2:Int),n:=n,s:=⟨#[]⟩})
def aiV n:TU n=some (aq<|zk n):=by simp[aiU,zk,z8]
def vJ:au Un:=aQ (dI .i64) fun n=>([],aq<|zk n)
def Bu:aj 32 vJ:=aU zn (M:=av) rfl trivial Tryz.func32 fun n=>GiF.r fun _ _=>aiV n
end
end Go.Proofs.YtjfpbchdcbhfgaaGreat.B
namespace Go.Proofs.YtjfpbchdcbhfgaaGreat.B
open Go Go.RowKit
set_option maxRecDepth 100000
noncomputable section
attribute [local irreducible] aB bk zw br aK b9
def bm(r:Bool):List (A Un):=[.c<|.s<|.bool r]
def bp(_r:Bool):List (Ob Un):=[]
def aiW n K:
 aB av aN (zh Tryz.f211) (bG Tryz.f211.ntmps 0 [.d<|.v<|.s<|.int .i64 n]) (aK av Tryz.f211.results.toList [.d] K)=
(bv (decide (n≥(-1000000000000000:Int)))
 (K (bm<|decide<|n≤(1000000000000000:Int))<|bp<|decide<|n≤(1000000000000000:Int))
 (K (bm (false)) (bp (false)))):=by kernel_rfl
def D8(n:Int):Option Bool:=
 if(decide<|n≥(-1000000000000000:Int))=true then
  some (decide<|n≤(1000000000000000:Int))
 else
  some false
def aiX{n r}(h:D8 n=some r):Runs (aB av aN (zh Tryz.f211) (bG Tryz.f211.ntmps 0 [.d<|.v<|.s<|.int .i64 n])<|aK av Tryz.f211.results.toList [.d] fun rs os=>rs=bm r∧os=bp r):=by
 constructor;rw[aiW n fun rs os=>rs=bm r∧os=bp r];rcases bJ h with⟨c1,h2⟩|⟨c1,h2⟩
 ·cases h2;exact(aZ c1 ⟨rfl,rfl⟩)
 ·cases h2;exact(aP (zq c1) ⟨rfl,rfl⟩)
def bf(n:Int):Bool:=
 if(decide<|n≥(-1000000000000000:Int))=true then
  (decide<|n≤(1000000000000000:Int))
 else
  (false)
def TV n:D8 n=some (bf n):=by grind[D8,bf]
def lj:au Un:=aQ (dI .i64) fun n=>([],bm<|bf n,bp<|bf n)
def od:aj 211 lj:=aU zn (M:=av) rfl trivial Tryz.func211 fun n=>fun _ _=>aiX<|TV n
@[simp] theorem fH n:bf n=cR n:=by
 unfold bf cR;by_cases h:n≥-1000000000000000
 ·rw[if_pos<|decide_eq_true h];simp;omega
 ·rw[if_neg<|by simpa using h];simp;omega
end
end Go.Proofs.YtjfpbchdcbhfgaaGreat.B
namespace Go.Proofs.YtjfpbchdcbhfgaaGreat.B
open Go Go.RowKit
set_option maxRecDepth 1000000
def TW:Option (List Prop×List (D0 Un))→Bool
 |some ([],[.v<|.s<|.bool _])=>true
 |_=>false
noncomputable def TX(p:Prop):Bool:=@decide p<|Classical.propDecidable p
def boolOf_iff{p}:TX p=true↔p:=@decide_eq_true_iff p<|Classical.propDecidable p
noncomputable def mz(φ:FV Un):Bool:=TX (∀c:Nat,c≤1114111→TW (φ [.v<|.s<|.int .i32 c])=true)
def jz(φ:FV Un)(c:Nat):Bool:=
 match φ [.v<|.s<|.int .i32 c]with
 |some (_,[.v<|.s<|.bool b])=>b
 |_=>false
def TY φ:mz φ=true↔∀c,c≤1114111→φ [.v<|.s<|.int .i32 (c:Nat)]=some ([],[.v<|.s<|.bool<|jz φ c]):=by
 unfold mz;refine boolOf_iff.trans ?_;refine forall_congr' fun c=>forall_congr' fun _=>?_;unfold TW jz;split
 ·rename_i b e;rw[e];simp
 ·rename_i hn;refine⟨fun h=>by simp at h,fun h=>absurd h ?_⟩;intro h;exact hn _ h
def iP(p:Nat→Bool)(t:Bool)(s:ByteArray):Nat→Nat→Int
 |0,_=>-1
 |f+1,pos=>if pos<s.size then(if p (Utf8.decode s pos).1=t then(pos:Int)else iP p t s f (pos+(Utf8.decode s pos).2))else-1
@[irreducible] def kS(p:Nat→Bool)(t:Bool)(s:ByteArray):Int:=iP p t s s.size 0
def TZ p t s f pos(h:¬pos<s.size):iP p t s f pos=-1:=by cases f<;>simp[iP,h]
set_option maxRecDepth 1000000 in
def aiY(g:Nat)(lb:Array Value)(hg:dw Tryz.prog g)(p:Nat→Bool)(truth:Bool)(s:ByteArray)(w:World)
 (hp:∀(W:World)(x:Nat),x≤1114111→Below w.heap.size w W→Calls Tryz.prog g (#[.int .i32 (x:Int)]++lb) W fun e W'=>e=.returned (.bool<|p x)∧Below W.heap.size W W'):
 Calls Tryz.prog 252 #[.string s,.func (.func g) #[] lb,.bool truth] w fun e w'=>e=.returned (.int .i64<|kS p truth s)∧Below w.heap.size w w':=by
 have eg:∀args w,(callFunc g args).run Tryz.prog w=.ok (.enter g args) w:=by
  obtain⟨fn,c,h1,h2,h3⟩:=hg;exact enters_of h1 h3 h2
 unfold kS
 go_enter Tryz.func252,Tryz.ntmps252
 go_wp2
 go_loopg [] s.size (fun gf wx=>∃pos:Nat,wx.heap[w.heap.size]?=some (.stringIter s pos)∧Below w.heap.size w wx∧iP p truth s gf pos=iP p truth s s.size 0∧s.size≤pos+gf)
 case atStart=>exact⟨0,World.iter_heap w s 0,(Below.refl _ w).alloc (y7 _) _,rfl,by omega⟩
 case round=>
  obtain⟨pos,hit,hbw,hleft,hfu⟩:=hrel;by_cases hps:pos<s.size
  ·obtain⟨g',rfl⟩:∃g',gk=g'+1:=⟨gk- 1,by omega⟩;have hnx:∀ty,(Instr.next (.pointer<|some ⟨w.heap.size,0,none⟩) true ty).run Tryz.prog wr=_:=fun ty=>Lib.run_next_any_at wr w.heap.size s pos ty hit hps;have hwd:=Lib.width_pos s pos;obtain⟨R,hR⟩:∃R,(Utf8.decode s pos).1=R:=⟨_,rfl⟩;obtain⟨K,hK⟩:∃K,(Utf8.decode s pos).2=K:=⟨_,rfl⟩;simp only[iP,hps,if_true,hR,hK]at hleft;rw[hR,hK]at hnx;rw[hK]at hwd;have hit2:=Lib.iterAt_heap wr w.heap.size s pos (pos+K) hit;have hbw2:=Lib.below_iterAt hbw (k:=w.heap.size) (y7 _) s<|pos+K;obtain⟨W,hWd⟩:∃W,wr.iterAt w.heap.size s (pos+K)=W:=⟨_,rfl⟩;rw[hWd]at hnx hit2 hbw2;have hlt:w.heap.size<W.heap.size:=(y33.1 hit2).1;have cS:Calls Tryz.prog g (#[.int .i32 (R:Int)]++lb) W _:=hp W R (by rw[←hR];exact Lib.rune_le s pos) hbw2;clear hp;cases hsp:p R<;>cases truth<;>rw[hsp]at cS<;>simp only[hsp,if_true,mf,Bool.true_eq_false,if_false]at hleft
   ·go_wp2_with (go_at_fn g;refine cS.mono ?_;rintro e W' ⟨rfl,hb⟩)
    go_ret;exact⟨by rw[←hleft]<;>rfl,hbw2.trans<|hb.mono hbw2.size⟩
   ·go_wp2_with (go_at_fn g;refine cS.mono ?_;rintro e W' ⟨rfl,hb⟩)
    go_roundg g'
    case measure=>omega
    case rel=>exact⟨pos+K,(hb.block _ hlt).trans hit2,hbw2.trans<|hb.mono hbw2.size,hleft,by omega⟩
   ·go_wp2_with (go_at_fn g;refine cS.mono ?_;rintro e W' ⟨rfl,hb⟩)
    go_roundg g'
    case measure=>omega
    case rel=>exact⟨pos+K,(hb.block _ hlt).trans hit2,hbw2.trans<|hb.mono hbw2.size,hleft,by omega⟩
   ·go_wp2_with (go_at_fn g;refine cS.mono ?_;rintro e W' ⟨rfl,hb⟩)
    go_ret;exact⟨by rw[←hleft]<;>rfl,hbw2.trans<|hb.mono hbw2.size⟩
  ·have hnx:∀ty,(Instr.next (.pointer<|some ⟨w.heap.size,0,none⟩) true ty).run Tryz.prog wr=_:=fun ty=>Lib.run_next_end_at wr w.heap.size s pos ty hit hps;rw[TZ p truth s gk pos hps]at hleft
   go_wp2
   go_ret;exact⟨by rw[←hleft]<;>rfl,hbw⟩
noncomputable def Ql:au Un:=fun args=>match args with
 |[x0,x1,x2]=>(cB x0).bind fun s=>(dF x1).bind fun φ=>(dB x2).bind fun t=>some ([mz φ=true],[.c<|.s<|.int .i64<|kS (jz φ) t s],[])
 |_=>none
def T0 p t s:∀(f pos:Nat),iP p t s f pos=-1∨((pos:Int)≤iP p t s f pos∧iP p t s f pos<s.size)
 |0,_=>.inl rfl
 |f+1,pos=>by
  simp only[iP];split
  ·split
   ·right;omega
   ·rcases T0 p t s f (pos+(Utf8.decode s pos).2)with h|h
    ·exact .inl h
    ·right;omega
  ·exact .inl rfl
def aiZ p t s: -1≤kS p t s∧kS p t s≤s.size:=by
 unfold kS;rcases T0 p t s s.size 0 with h|h<;>omega
def ai0:aj 252 Ql:=by
 intro args ob rs os h hob;unfold Ql at h;split at h
 ·rename_i x0 x1 x2;simp only[y6,y8,yi]at h;obtain⟨s,e0,φ,e1,t,e2,rfl,rfl,rfl⟩:=h;obtain rfl:=cN e0;obtain rfl:=mv e1;obtain rfl:=mu e2;have hr:=(TY φ).1 (hob _ (by simp));refine⟨?_,zl Tryz.func252 (by kernel_rfl) (by kernel_rfl)⟩;intro w St vs hbd hvs hld
  match vs,hvs with
  |[v0,v1,v2],⟨h0,⟨g,caps,e1,hg,hgv⟩,h2,_⟩=>
   have e0:v0=.string s∧bH (.string s)=true:=by
    have h0':VRel En St w v0 (.s (.string s)):=h0;cases h0' with|s _ h=>exact⟨rfl,h⟩
   have e2:v2=.bool t:=by
    have h2':VRel En St w v2 (.s (.bool t)):=h2;cases h2' with|s _ _=>rfl
   obtain⟨e0,hsz⟩:=e0;subst e0;subst e1;subst e2;have hsz':=oneC_str.1 hsz
   have:=aiY g caps hg (jz φ) t s w (fun W x hx hb=>by
    have hk:Keeps St w St W:=fun b o hs=>⟨hs,Below.cell hb (hbd b o hs)⟩
    have:=hgv St W hk (fun b o hs=>yu (hbd b o hs) hb.size) (hld.ext hb) [.v (.s (.int .i32 (x:Nat)))] [] _ (hr x hx) (by simp) [.int .i32 (x:Int)] ⟨.s _ (by
     refine oneC_int.2 ⟨?_,?_⟩
     ·have:IntKind.i32.min=-2147483648:=rfl;omega
     ·have:IntKind.i32.max=2147483647:=rfl
      omega),trivial⟩
    refine Calls.mono this ?_;rintro e W' ⟨v,rfl,⟨hext,St',_,_,hrr⟩,_⟩;have hv:VRel En St' W' v (.s (.bool (jz φ x))):=hrr
    cases hv with|s _ _=>exact⟨rfl,hext⟩)
   refine Calls.mono this ?_;rintro e w' ⟨rfl,hb⟩;let gg:G:={β:=fun _=>0,lb:=fun _=>False,ω:=fun _ _=>none,tk:=fun _=>(none,0)};have hin:=aiZ (jz φ) t s;refine⟨_,rfl,hb,gg,fun _ h=>h,fun b o x _ h=>by simp[gg]at h,fun b o x h=>by simp[gg]at h,⟨rfl,oneC_i64.2 (by omega)⟩,fun k o h=>by simp at h⟩
 ·simp at h
end Go.Proofs.YtjfpbchdcbhfgaaGreat.B
namespace Go.Proofs.YtjfpbchdcbhfgaaGreat.B
open Go Go.RowKit
set_option maxRecDepth 100000
noncomputable section
attribute [local irreducible] aB bk zw br aK b9
def Bv:Mc Un:=az [(252,Ql)] [] [] [] []
def bh(r:Int):List (A Un):=[.c<|.s<|.int .i64 r]
def bi(_r:Int):List (Ob Un):=[]
def ai1 s φ K:
 aB Bv aN (zh Tryz.f247) (bG Tryz.f247.ntmps 0 [.d<|.v<|cs s,.fn φ]) (aK Bv Tryz.f247.results.toList [.d] K)=
((mz φ=true)∧
(K (bh (kS (jz φ) true s)) (bi (kS (jz φ) true s)))):=by kernel_rfl
def GE(s:ByteArray)(φ:FV Un):Option Int:=
 if mz φ=true then
  some (kS (jz φ) true s)
 else none
def ai2{s φ r}(h:GE s φ=some r):Runs (aB Bv aN (zh Tryz.f247) (bG Tryz.f247.ntmps 0 [.d<|.v<|cs s,.fn φ])<|aK Bv Tryz.f247.results.toList [.d] fun rs os=>rs=bh r∧os=bi r):=by
 constructor;rw[ai1 s φ fun rs os=>rs=bh r∧os=bi r];unfold GE at h;obtain⟨c1,h2⟩:=jx h;cases h2;exact(And.intro c1 ⟨rfl,rfl⟩)
def mA(s:ByteArray)(φ:FV Un):Int:=kS (jz φ) true s
def ai3 s φ(_hs:cm s)(h:mz φ=true):GE s φ=some (mA s φ):=by
 simp[GE,mA,h]
def ztl:au Un:=aD cB dF fun s φ=>([mz φ=true],bh<|mA s φ,bi<|mA s φ)
def ai4:aj 247 ztl:=aJ cN mv (M:=Bv) rfl ⟨ai0,trivial⟩ Tryz.func247 fun s φ=>fun w o=>ai2<|ai3 s φ (am w 0)<|aA o 0
end
end Go.Proofs.YtjfpbchdcbhfgaaGreat.B
namespace Go.Proofs.YtjfpbchdcbhfgaaGreat.B
open Go Go.RowKit
set_option maxRecDepth 100000
noncomputable section
attribute [local irreducible] aB bk zw br aK b9
def T1{p}(hp:∀c,p c=(decide (c<32)||decide (126<c))) s:∀(f pos:Nat),s.size≤pos+f→(iP p true s f pos<0↔∀b∈s.toList.drop pos,32≤b.toNat∧b.toNat≤126)
 |0,pos,h=>by
  have:s.toList.drop pos=[]:=fA (by rw[eK];omega);simp[iP,this]
 |f+1,pos,h=>by
  by_cases hps:pos<s.size
  ·have hl:pos<s.toList.length:=by rw[eK];exact hps
   have hd:s.toList.drop pos=s.toList.getD pos 0::s.toList.drop (pos+1):=by
    rw[fR hl,yf,ya hl];rfl
   simp only[iP,hps,if_true];rw[hd,A9];have hdec:=aiS s pos hps;generalize s.toList.getD pos 0=b at hdec ⊢;rcases hdec with⟨h1,h2⟩|⟨h1,h2⟩
   ·rw[h1,h2,←T1 hp s f (pos+1)<|by omega,hp];by_cases hb:32≤b.toNat∧b.toNat≤126
    ·have e:(decide (b.toNat<32)||decide (126<b.toNat))=false:=by simp;omega
     rw[e];simp[hb]
    ·have e:(decide (b.toNat<32)||decide (126<b.toNat))=true:=by simp;omega
     rw[e];simp only[if_true];constructor
     ·intro hh;omega
     ·intro hh;exact absurd hh.1 hb
   ·have e:p (Utf8.decode s pos).1=true:=by rw[hp];simp;omega
    rw[e];simp only[if_true];constructor
    ·intro hh;omega
    ·intro hh;omega
  ·have:s.toList.drop pos=[]:=fA (by rw[eK];omega);rw[TZ _ _ _ _ _ hps];simp[this]
def ai5 c K:
 aB av aN (zh Tryz.f248) (bG Tryz.f248.ntmps 0 [.d<|.v<|.s<|.int .i32 c]) (aK av Tryz.f248.results.toList [.d] K)=
(bv (decide (c<(32:Int)))
 (K (bm true)<|bp true)
 (K (bm (decide (c>(126:Int)))) (bp (decide (c>(126:Int)))))):=by kernel_rfl
def GF(c:Int):Option Bool:=
 if(decide<|c<(32:Int))=true then
  some true
 else
  some (decide<|c>(126:Int))
def ai6{c r}(h:GF c=some r):Runs (aB av aN (zh Tryz.f248) (bG Tryz.f248.ntmps 0 [.d<|.v<|.s<|.int .i32 c])<|aK av Tryz.f248.results.toList [.d] fun rs os=>rs=bm r∧os=bp r):=by
 constructor;rw[ai5 c fun rs os=>rs=bm r∧os=bp r];unfold GF at h;rcases bJ h with⟨c1,h2⟩|⟨c1,h2⟩
 ·cases h2;exact(aZ c1 ⟨rfl,rfl⟩)
 ·cases h2;exact(aP (zq c1) ⟨rfl,rfl⟩)
def sO(c:Int):Bool:=
 if(decide<|c<(32:Int))=true then
  (true)
 else
  (decide<|c>(126:Int))
def ai7 c:GF c=some (sO c):=by unfold GF sO;repeat(first|rfl|split)
def GG:au Un:=fun args=>match args with
 |[x0]=>(dI .i32 x0).bind fun c=>some ([],bm<|sO c,bp<|sO c)
 |_=>none
def ai8:aj 248 GG:=by
 intro args ob rs os h hob;unfold GG at h;split at h
 ·simp only[y6,y8,yi]at h;obtain⟨c,e0,rfl,rfl,rfl⟩:=h;obtain rfl:=zn e0;exact⟨Bq (M:=av) rfl (cM (l1:=[]) (l2:=[]) (l3:=[]) (l4:=[]) (l5:=[]) trivial trivial trivial trivial trivial) Tryz.func248 (by kernel_rfl) aN 0 [.d] fun hwf=>ai6<|ai7 c,zl Tryz.func248 (by kernel_rfl)<|by kernel_rfl⟩
 ·simp at h
def iQ:FV Un:=fun args=>match args with
 |[x0]=>(dI .i32<|.d x0).bind fun c=>some ([],[.v<|cb<|sO c])
 |_=>none
def ai9:eQ 248 iQ:=by
 refine⟨zl Tryz.func248 (by kernel_rfl)<|by kernel_rfl,fun args ob rs h hob=>?_⟩;unfold iQ at h;split at h
 ·simp only[y6,y8,yi]at h;obtain⟨c,e0,rfl,rfl⟩:=h;simp only[cL,jr];rw[zn e0];refine Contract.data (ai8 _ ([]) _ _ (?_:GG _=some _)<|by simp).1;unfold GG;simp only[DS];rfl
 ·simp at h
def Bw:Mc Un:=az [(247,ztl),(211,lj)] [(248,iQ)] [] [] []
def aja(v:Val) K:
 aB Bw aN (zh Tryz.f240) (bG Tryz.f240.ntmps 0 [.d<|.agg<|enc Ty.val v]) (aK Bw Tryz.f240.results.toList [.d] K)=
(bv (v.kind==(3:Int))
 (bv (v.n==(0:Int))
  (bv (decide ((↑v.s.size:Int)≤(100:Int)))
   ((mz iQ=true)∧
   (K (bm (decide (mA v.s iQ<(0:Int)))) (bp (decide (mA v.s iQ<(0:Int))))))
   (K (bm (false)) (bp (false))))
  (K (bm (false)) (bp (false))))
 (bv (!v.s.toList==(ByteArray.mk #[]).toList)
  (K (bm false)<|bp false)
  (bv (v.kind==(0:Int))
   (K (bm<|v.n==(0:Int))<|bp<|v.n==(0:Int))
   (bv (v.kind==(1:Int))
    (K (bm<|IntKind.i64.wrap (↑(BitVec.ofInt IntKind.i64.bits v.n&&& ~~~BitVec.ofInt IntKind.i64.bits (1:Int)).toNat:Int)==(0:Int))<|bp<|IntKind.i64.wrap (↑(BitVec.ofInt IntKind.i64.bits v.n&&& ~~~BitVec.ofInt IntKind.i64.bits (1:Int)).toNat:Int)==(0:Int))
    (bv (v.kind==(2:Int))
     (K (bm<|bf v.n)<|bp<|bf v.n)
     (K (bm (false)) (bp (false)))))))):=by kernel_rfl
def GH(v:Val):Option Bool:=
 if(v.kind==(3:Int))=true then
  if(v.n==(0:Int))=true then
   if(decide<|(↑v.s.size:Int)≤(100:Int))=true then
    if mz iQ=true then
     some (decide<|mA v.s iQ<(0:Int))
    else none
   else
    some false
  else
   some false
 else
  if(!v.s.toList==(ByteArray.mk #[]).toList)=true then
   some false
  else
   if(v.kind==(0:Int))=true then
    some (v.n==(0:Int))
   else
    if(v.kind==(1:Int))=true then
     some (IntKind.i64.wrap (↑(BitVec.ofInt IntKind.i64.bits v.n&&& ~~~BitVec.ofInt IntKind.i64.bits (1:Int)).toNat:Int)==(0:Int))
    else
     if(v.kind==(2:Int))=true then
      some (bf v.n)
     else
      some false
def ajb{v r}(h:GH v=some r):Runs (aB Bw aN (zh Tryz.f240) (bG Tryz.f240.ntmps 0 [.d<|.agg<|enc Ty.val v])<|aK Bw Tryz.f240.results.toList [.d] fun rs os=>rs=bm r∧os=bp r):=by
 constructor;rw[aja v fun rs os=>rs=bm r∧os=bp r];unfold GH at h;rcases bJ h with⟨c1,h2⟩|⟨c1,h2⟩
 ·rcases bJ h2 with⟨c3,h4⟩|⟨c3,h4⟩
  ·rcases bJ h4 with⟨c5,h6⟩|⟨c5,h6⟩
   ·obtain⟨c7,h8⟩:=jx h6;cases h8;exact(aZ c1<|aZ c3<|aZ c5<|And.intro c7 ⟨rfl,rfl⟩)
   ·cases h6;exact(aZ c1<|aZ c3<|aP (zq c5) ⟨rfl,rfl⟩)
  ·cases h4;exact(aZ c1<|aP (zq c3) ⟨rfl,rfl⟩)
 ·rcases bJ h2 with⟨c9,h10⟩|⟨c9,h10⟩
  ·cases h10;exact(aP (zq c1)<|aZ c9 ⟨rfl,rfl⟩)
  ·rcases bJ h10 with⟨c11,h12⟩|⟨c11,h12⟩
   ·cases h12;exact(aP (zq c1)<|aP (zq c9)<|aZ c11 ⟨rfl,rfl⟩)
   ·rcases bJ h12 with⟨c13,h14⟩|⟨c13,h14⟩
    ·cases h14;exact(aP (zq c1)<|aP (zq c9)<|aP (zq c11)<|aZ c13 ⟨rfl,rfl⟩)
    ·rcases bJ h14 with⟨c15,h16⟩|⟨c15,h16⟩
     ·cases h16;exact(aP (zq c1)<|aP (zq c9)<|aP (zq c11)<|aP (zq c13)<|aZ c15 ⟨rfl,rfl⟩)
     ·cases h16;exact(aP (zq c1)<|aP (zq c9)<|aP (zq c11)<|aP (zq c13)<|aP (zq c15) ⟨rfl,rfl⟩)
def jA(v:Val):Bool:=fV v
@[simp] theorem ajc v:jA v=fV v:=by unfold jA;rfl
theorem T2 c:iQ [.v (.s (.int .i32 (c:Nat)))]=some ([],[.v (cb (decide (c<32)||decide (126<c)))]):=by
 have:sO (c:Nat)=(decide (c<32)||decide (126<c)):=by
  unfold sO;split
  ·rename_i h;have:c<32:=by have:=of_decide_eq_true h;omega
   simp[this]
  ·rename_i h;have:¬c<32:=fun hc=>h (decide_eq_true (by omega));simp only[this,decide_false,Gk];congr 1;simp only[eq_iff_iff];omega
 simp only[iQ,DS,yj,this]
theorem ajd:mz iQ=true:=(TY _).2 fun c _=>by
 simp only[jz,T2];rfl
theorem aje{n}(hn:WI n):(IntKind.i64.wrap ↑(BitVec.ofInt IntKind.i64.bits n&&& ~~~BitVec.ofInt IntKind.i64.bits (1:Int)).toNat ==(0:Int))=decide (n=0∨n=1):=by
 have key:IntKind.i64.wrap ↑(BitVec.ofInt IntKind.i64.bits n&&& ~~~BitVec.ofInt IntKind.i64.bits (1:Int)).toNat=0↔n=0∨n=1:=by
  have hb:(BitVec.ofInt 64 n&&& ~~~BitVec.ofInt 64 (1:Int)).toNat<2 ^64:=BitVec.isLt _;have hw:IntKind.i64.wrap ↑(BitVec.ofInt 64 n&&& ~~~BitVec.ofInt 64 (1:Int)).toNat=0↔(BitVec.ofInt 64 n&&& ~~~BitVec.ofInt 64 (1:Int)).toNat=0:=by
   generalize(BitVec.ofInt 64 n&&& ~~~BitVec.ofInt 64 (1:Int)).toNat=m at hb;have e:IntKind.i64.wrap (m:Int)=if(m:Int) % 2 ^64≥2 ^63 then(m:Int) % 2 ^64- 2 ^64 else(m:Int) % 2 ^64:=by
    simp[IntKind.wrap,IntKind.signed,IntKind.bits]
   rw[e];split<;>omega
  refine hw.trans ?_;have hn2:(BitVec.ofInt 64 n).toNat=(n % 2 ^64).toNat:=by rw[BitVec.toNat_ofInt];rfl
  constructor
  ·intro h0;have hx:∀i,1≤i→(BitVec.ofInt 64 n).toNat.testBit i=false:=by
    intro i hi;have h1:(BitVec.ofInt 64 n&&& ~~~BitVec.ofInt 64 (1:Int)).getLsbD i=false:=by
     rw[BitVec.getLsbD,h0];simp
    rw[BitVec.getLsbD_and,BitVec.getLsbD_not]at h1;by_cases hi2:i<64
    ·have h2:(BitVec.ofInt 64 (1:Int)).getLsbD i=false:=by
      have:BitVec.ofInt 64 (1:Int)=1#64:=rfl;rw[this,BitVec.getLsbD_one];simp;omega
     rw[h2]at h1;simp only[hi2,decide_true,Bool.not_false,Bool.and_true]at h1;exact h1
    ·exact Nat.testBit_lt_two_pow<|yu (BitVec.isLt _)<|Nat.pow_le_pow_right (by decide)<|by omega
   have hlt:(BitVec.ofInt 64 n).toNat<2 ^1:=Nat.lt_pow_two_of_testBit _ hx;omega
  ·intro h;rcases h with rfl|rfl<;>decide
 rw[Bb,beq_iff_eq,decide_eq_true_eq];exact key
def ajf(v:Val)(hv:WS .val v):GH v=some (jA v):=by
 have hr:jz iQ=fun c=>decide (c<32)||decide (126<c):=by
  funext c;unfold jz;rw[T2];rfl
 have hI:(mA v.s iQ<0)↔∀b∈v.s.toList,32≤b.toNat∧b.toNat≤126:=by
  unfold mA kS;rw[T1 (by rw[hr];intro c;rfl) v.s v.s.size 0<|by omega];simp
 have hN:=hv.val_n;unfold GH jA fV;simp only[beq_iff_eq,ajd,if_true,TQ,fH,decide_eq_true_eq,aje hN];by_cases h3:v.kind=3
 ·by_cases h0:v.n=0
  ·by_cases hs:v.s.size≤100
   ·have hs':(v.s.size:Int)≤100:=by omega
    have:(v.s.toList.all fun b=>decide<|32≤b.toNat∧b.toNat≤126)=decide (mA v.s iQ<0):=by
     rw[Bb,decide_eq_true_eq,hI];simp
    simp only[h3,h0,hs,hs',uz,this];simp
   ·have hs':¬(v.s.size:Int)≤100:=by omega
    simp[h3,h0,hs,hs',uz]
  ·simp[h3,h0]
 ·by_cases hs:v.s.size=0
  ·by_cases k0:v.kind=0
   ·simp[k0,hs];rfl
   ·by_cases k1:v.kind=1
    ·simp[k1,hs]
    ·by_cases k2:v.kind=2
     ·simp[k2,hs]
     ·simp[h3,k0,k1,k2,hs]
  ·simp[h3,hs]
def zU:au Un:=aQ (dS .val) fun v=>([],bm<|jA v,bp<|jA v)
def ajg:aj 240 zU:=aU zo (M:=Bw) (h2:=⟨ai9,trivial⟩) rfl ⟨ai4,od,trivial⟩ Tryz.func240 fun v=>fun w _=>ajb<|ajf v<|am w 0
end
end Go.Proofs.YtjfpbchdcbhfgaaGreat.B
namespace Go.Proofs.YtjfpbchdcbhfgaaGreat.B
open Go Go.RowKit
set_option maxRecDepth 100000
noncomputable section
attribute [local irreducible] aB bk zw br aK b9 aR bu bA
theorem ajh r:Rel.mk r.op r.table r.cols r.kids r.terms r.aggs r.keys r.limit r.skip r.all r.rows=r:=by cases r;rfl
def vK{α:Type}{l:List α}{i d}(h:i<l.length):l.drop i=l.getD i d::l.drop (i+1):=by
 rw[yf,ya h];exact fR h
end
end Go.Proofs.YtjfpbchdcbhfgaaGreat.B
namespace Go.Proofs.YtjfpbchdcbhfgaaGreat.B
open Go Go.RowKit
set_option maxRecDepth 100000
noncomputable section
attribute [local irreducible] aB bk zw br aK b9 aR bu bA
def bD(op:Int):Int:=if op=1∨op=2 then 0 else if op=3∨op=4∨op=7∨op=8∨op=12∨op=13 then 1 else if op=5∨op=6∨op=9∨op=10∨op=11 then 2 else-1
mutual
def bQ:Rel→Int
 | .mk op _ cols kids terms aggs _ _ _ _ _=>
  if bD op<0∨(kids.length:Int)<bD op then 0
  else if op=1∨op=2 then cols.length
  else if op=4 then terms.length
  else if op=7 then IntKind.i64.wrap ((terms.length:Int)+aggs.length)
  else if op=5∨op=6 then IntKind.i64.wrap ((p5 kids).getD 0 0+(p5 kids).getD 1 0)
  else(p5 kids).getD 0 0
def p5:List Rel→List Int
 |[]=>[]
 |r::l=>bQ r::p5 l
end
def vL r:bQ r=if bD r.op<0∨(r.kids.length:Int)<bD r.op then 0 else if r.op=1∨r.op=2 then(r.cols.length:Int)else if r.op=4 then(r.terms.length:Int)else if r.op=7 then IntKind.i64.wrap ((r.terms.length:Int)+r.aggs.length)else if r.op=5∨r.op=6 then IntKind.i64.wrap ((p5 r.kids).getD 0 0+(p5 r.kids).getD 1 0)else(p5 r.kids).getD 0 0:=by cases r;rfl
def sP:∀(l:List Rel)(i:Nat),i<l.length→(p5 l).getD i 0=bQ (l.getD i za)
 |r::l,0,_=>rfl
 |r::l,i+1,h=>by
  exact sP l i<|by grind
def T3{op}(h:¬bD op<0)(h1:¬(op=1∨op=2)):1≤bD op:=by
 unfold bD at h ⊢;omega
def Bx{op}(h:op=5∨op=6):bD op=2:=by
 rcases h with rfl|rfl<;>rfl
end
end Go.Proofs.YtjfpbchdcbhfgaaGreat.B
