/- Part 6 of the proof: BLib BAwf LawBase BLaw0 Sspec Sterms Stermsz Lbulkt Svnum Snum Lstrings Slstr Svalue Sconjspec Swidths. -/
import Derived.JoinedCond
import Derived.OpenShut
import Derived.ChangeArms
import Derived.ChangeShapes
import Derived.Test.YtjfpbchdcbhfgaaGreatRows
import Derived.Lib.OthersKept
import Derived.Lib.TrimU
import Derived.Deep.LoopGhost
import Derived.Shelf.Abstract
import Derived.Test.YtjfpbchdcbhfgaaGreatNjo5
set_option linter.unusedVariables false
set_option linter.unusedSimpArgs false
namespace Go.Proofs.YtjfpbchdcbhfgaaGreat.B
open Go Go.RowKit
def FnOK(f:FuncId)(F:FnC Un):Prop:=∀args ob rs os,F args=some (ob,rs,os)→(∀p∈ob,p)→Contract Tryz.prog En f args rs os∧z32 Tryz.prog f
def FvOK(f:FuncId)(φ:FV Un):Prop:=z32 Tryz.prog f∧∀args ob rs,φ args=some (ob,rs)→(∀p∈ob,p)→zfo Tryz.prog En f (args.map .d) ob rs
def ClOK(f:FuncId)(F:List (List (DC Un))→Option (FV Un)):Prop:=z32 Tryz.prog f∧∀dl φ args ob rs,F dl=some φ→φ args=some (ob,rs)→(∀p∈ob,p)→zfo Tryz.prog En f (args.map .d++dl.map .box) ob rs
def GnOK(f:FuncId)(F:List Bool×FnG Un):Prop:=∀args bxs obs ob rs bxs' obs',F.2 args bxs obs=some (ob,rs,bxs',obs')→(∀p∈ob,p)→GContract Tryz.prog En f args bxs obs rs bxs' obs'∧z32 Tryz.prog f
def UpOK(f:FuncId)(F:FnU Un):Prop:=∀τ xs ds ob ys,F τ xs ds=some (ob,ys)→(∀p∈ob,p)→z1w6 Tryz.prog En f τ xs ds ys∧z32 Tryz.prog f
def AllL{α:Type}(R:Nat→α→Prop):List (Nat×α)→Prop
 |[]=>True
 |p::r=>R p.1 p.2∧AllL R r
def tbl{α:Type}(l:List (Nat×α))(f:Nat):Option α:=look f l
theorem AllL.look{α:Type}{R:Nat→α→Prop}{f:Nat}{x:α}:∀{l:List (Nat×α)},AllL R l→tbl l f=some x→R f x
 |[],_,h=>by grind[tbl,B.look]
 |(k,y)::r,hl,h=>by
  simp only[tbl,B.look]at h;split at h
  ·rename_i hb;have:=y2h hb;simp at h;subst this;subst h;exact hl.1
  ·exact AllL.look hl.2 h
theorem z4o{l1:List (Nat×FnC Un)}{l2:List (Nat×FV Un)}{l3:List (Nat×(List (List (DC Un))→Option (FV Un)))}{l4:List (Nat×(List Bool×FnG Un))}{l5:List (Nat×FnU Un)}
  (h1:AllL FnOK l1)(h2:AllL FvOK l2)(h3:AllL ClOK l3)(h4:AllL GnOK l4)(h5:AllL UpOK l5):FnsOK Tryz.prog (mach (tbl l1) (tbl l2) (tbl l3) (tbl l4) (tbl l5)) where
 ups:=fun f F τ xs ds ob ys hf hF hob=>h5.look hf τ xs ds ob ys hF hob
 gns:=fun f ms F args bxs obs ob rs bxs' obs' hf hF hob=>h4.look hf args bxs obs ob rs bxs' obs' hF hob
 fns:=fun f F args ob rs os hf hF hob=>h1.look hf args ob rs os hF hob
 fvb:=fun f φ hf=>(h2.look hf).1
 fvs:=fun f φ args ob rs hf hF hob=>(h2.look hf).2 args ob rs hF hob
 clb:=fun f F hf=>(h3.look hf).1
 clo:=fun f F dl φ args ob rs hf hF hφ hob=>(h3.look hf).2 dl φ args ob rs hF hφ hob
theorem zk{f:FuncId}{fn:Func}(hf:Tryz.prog.funcs[f]?=some fn)(hb:fn.body=some (zf fn))(hn:(fn.name== "runtime.NumGoroutine")=false):z32 Tryz.prog f:=⟨fn,_,hf,hb,hn⟩
structure Runs(p:Prop):Prop where
 out:p
theorem zhy{M:Mc Un}{fns:FuncId→Option (FnC Un)}{fvs:FuncId→Option (FV Un)}{clo:FuncId→Option (List (List (DC Un))→Option (FV Un))}{gns:FuncId→Option (List Bool×FnG Un)}{ups:FuncId→Option (FnU Un)}(hM:M=mach fns fvs clo gns ups)(hF:FnsOK Tryz.prog (mach fns fvs clo gns ups))
  {f:FuncId}{fn:Func}(hf:Tryz.prog.funcs[f]?=some fn)(hb:fn.body=some (zf fn))(N:Nat→NS)(x:Nat)(fm:List Kind){args:List (D Un)}{rs:List (A Un)}{os:List (Ob Un)}
  (h:(∀a∈args,DWf En a)→Runs (awp M N (zf fn) (z2h fn.ntmps x args) (retQ M fn.results.toList fm fun rs' os'=>rs'=rs∧os'=os))):Contract Tryz.prog En f args rs os:=by
 subst hM;exact z280 (M:=mach fns fvs clo gns ups) (z21p fns fvs clo gns ups) hF mixed hf hb N x fm fun ha=>(h ha).out
def dI(k:IntKind):D Un→Option Int
 | .d (.v (.s (.int k' n)))=>match decEq k' k with| .isTrue _=>some n| .isFalse _=>none
 |_=>none
def dB:D Un→Option Bool
 | .d (.v (.s (.bool b)))=>some b
 |_=>none
def dStr:D Un→Option ByteArray
 | .d (.v (.s (.string b)))=>some b
 |_=>none
def dL(τ:Ty):D Un→Option (List (Den τ))
 | .d (.v (.dat τ' xs))=>match instDecidableEqTy τ' τ with| .isTrue h=>some (h▸xs)| .isFalse _=>none
 |_=>none
def dS(τ:Ty):D Un→Option (Den τ)
 | .d (.agg vs)=>dec τ vs
 |_=>none
def dF:D Un→Option (FV Un)
 | .fn φ=>some φ
 |_=>none
def zy(o:Val→Prop)(p:Val→Bool):FV Un:=fun args=>match args with
 |[x0]=>(dS .val (.d x0)).bind fun a0=>some ([o a0],[.v (cb (p a0))])
 |_=>none
def z18(φ:FV Un):Val→Prop:=fun a0=>match φ [.agg (enc Ty.val a0)]with
 |some ([q],_)=>q
 |_=>False
def z1n(φ:FV Un):Val→Bool:=fun a0=>match φ [.agg (enc Ty.val a0)]with
 |some (_,[.v (.s (.bool b))])=>b
 |_=>false
def z1h(p:Val→Val→Int):FV Un:=fun args=>match args with
 |[x0,x1]=>(dS .val (.d x0)).bind fun a0=>(dS .val (.d x1)).bind fun a1=>some ([],[.v (.s (.int .i64 (p a0 a1)))])
 |_=>none
def zm(φ:FV Un):Val→Val→Int:=fun a0 a1=>match φ [.agg (enc Ty.val a0),.agg (enc Ty.val a1)]with
 |some (_,[.v (.s (.int _ b))])=>b
 |_=>0
def z12(o:(List Val)→(List Val)→Prop)(p:(List Val)→(List Val)→Int):FV Un:=fun args=>match args with
 |[x0,x1]=>(dL .val (.d x0)).bind fun a0=>(dL .val (.d x1)).bind fun a1=>some ([o a0 a1],[.v (.s (.int .i64 (p a0 a1)))])
 |_=>none
def z2m(φ:FV Un):(List Val)→(List Val)→Prop:=fun a0 a1=>match φ [.v (.dat (U:=Un) Ty.val a0),.v (.dat (U:=Un) Ty.val a1)]with
 |some ([q],_)=>q
 |_=>False
def z1w(φ:FV Un):(List Val)→(List Val)→Int:=fun a0 a1=>match φ [.v (.dat (U:=Un) Ty.val a0),.v (.dat (U:=Un) Ty.val a1)]with
 |some (_,[.v (.s (.int _ b))])=>b
 |_=>0
def z1i(p:Int→Int→Int):FV Un:=fun args=>match args with
 |[x0,x1]=>(dI .i64 (.d x0)).bind fun a0=>(dI .i64 (.d x1)).bind fun a1=>some ([],[.v (.s (.int .i64 (p a0 a1)))])
 |_=>none
def z11(φ:FV Un):Int→Int→Int:=fun a0 a1=>match φ [.v (.s (.int .i64 a0)),.v (.s (.int .i64 a1))]with
 |some (_,[.v (.s (.int _ b))])=>b
 |_=>0
def z2f(o:(List Val)→Prop)(p:(List Val)→Bool):FV Un:=fun args=>match args with
 |[x0]=>(dL .val (.d x0)).bind fun a0=>some ([o a0],[.v (cb (p a0))])
 |_=>none
def z5p(φ:FV Un):(List Val)→Prop:=fun a0=>match φ [.v (.dat (U:=Un) Ty.val a0)]with
 |some ([q],_)=>q
 |_=>False
def z8q(φ:FV Un):(List Val)→Bool:=fun a0=>match φ [.v (.dat (U:=Un) Ty.val a0)]with
 |some (_,[.v (.s (.bool b))])=>b
 |_=>false
theorem z17{k:IntKind}{a:D Un}{n:Int}(h:dI k a=some n):a=.d (.v (.s (.int k n))):=by
 unfold dI at h;split at h
 ·split at h
  all_goals grind
 grind
theorem z1d7{a:D Un}{n:Bool}(h:dB a=some n):a=.d (.v (cb n)):=by
 unfold dB at h;split at h
 ·simp at h;subst h;rfl
 grind
theorem z3y{a:D Un}{n:ByteArray}(h:dStr a=some n):a=.d (.v (cs n)):=by
 unfold dStr at h;split at h
 ·simp at h;subst h;rfl
 grind
theorem zr{τ:Ty}{a:D Un}{l:List (Den τ)}(h:dL τ a=some l):a=.d (.v (.dat (U:=Un) τ l)):=by
 unfold dL at h;split at h
 ·split at h
  all_goals grind
 grind
theorem zt{τ:Ty}{a:D Un}{x:Den τ}(h:dS τ a=some x):a=.d (.agg (enc τ x)):=by
 unfold dS at h;grind[zdx]
theorem zpb{a:D Un}{φ:FV Un}(h:dF a=some φ):a=.fn φ:=by
 unfold dF at h;grind
theorem z21q(k:IntKind)(n:Int):dI k (.d (.v (.s (.int k n))))=some n:=by
 unfold dI;dsimp only;split
 all_goals grind
theorem z2pi(b:Bool):dB (.d (.v (cb b)))=some b:=rfl
theorem z1ml(τ:Ty)(l:List (Den τ)):dL τ (.d (.v (.dat (U:=Un) τ l)))=some l:=by
 unfold dL;dsimp only;split
 all_goals grind
theorem z2ms:∀(τ:Ty)(x:Den τ),dec τ (enc τ x)=some x:=by
 intro τ x;cases τ<;>first|rfl|(cases x;rfl)
theorem z114(τ:Ty)(x:Den τ):dS τ (.d (.agg (enc τ x)))=some x:=z2ms τ x
theorem zfr(p:Val→Val→Int):zm (z1h p)=p:=by
 rfl
theorem z230(p:Int→Int→Int):z11 (z1i p)=p:=by
 rfl
theorem zk8(o:Val→Prop)(p:Val→Bool):z1n (zy o p)=p:=by
 rfl
theorem zk9(o:Val→Prop)(p:Val→Bool):z18 (zy o p)=o:=by
 rfl
theorem zsd(o:(List Val)→(List Val)→Prop)(p:(List Val)→(List Val)→Int):z1w (z12 o p)=p:=by
 rfl
theorem zse(o:(List Val)→(List Val)→Prop)(p:(List Val)→(List Val)→Int):z2m (z12 o p)=o:=by
 rfl
theorem z1is(o:(List Val)→Prop)(p:(List Val)→Bool):z8q (z2f o p)=p:=by
 rfl
theorem z1it(o:(List Val)→Prop)(p:(List Val)→Bool):z5p (z2f o p)=o:=by
 rfl
class WArg(a:D Un)(P:outParam Prop):Prop where
 of:DWf En a→P
instance{k:IntKind}{n:Int}:WArg (.d (.v (.s (.int k n)))) (WK k n):=⟨fun h=>by cases h with|s _ h=>exact of_decide_eq_true h⟩
instance{s:ByteArray}:WArg (.d (.v (cs s))) (WStr s):=⟨fun h=>(z113 s).1 h⟩
instance{τ:Ty}{l:List (Den τ)}:WArg (.d (.v (.dat (U:=Un) τ l))) (WL τ l):=⟨fun h=>h⟩
instance{τ:Ty}{x:Den τ}:WArg (.d (.agg (enc τ x))) (WS τ x):=⟨fun h=>h⟩
theorem z57{args:List (D Un)}(h:∀a∈args,DWf En a){a:D Un}{P:Prop}[w:WArg a P](ha:a∈args):P:=w.of (h a ha)
noncomputable instance:DecidableEq (FV Un):=fun _ _=>Classical.propDecidable _
def bI(k:IntKind):List (DC Un)→Option Int
 |[.v (.s (.int k' n))]=>match decEq k' k with| .isTrue _=>some n| .isFalse _=>none
 |_=>none
def bL(τ:Ty):List (DC Un)→Option (List (Den τ))
 |[.v (.dat τ' xs)]=>match instDecidableEqTy τ' τ with| .isTrue h=>some (h▸xs)| .isFalse _=>none
 |_=>none
theorem z2pj{k:IntKind}{a:List (DC Un)}{n:Int}(h:bI k a=some n):a=[.v (.s (.int k n))]:=by
 unfold bI at h;split at h
 ·split at h
  all_goals grind
 grind
theorem z2ci{τ:Ty}{a:List (DC Un)}{l:List (Den τ)}(h:bL τ a=some l):a=[.v (.dat (U:=Un) τ l)]:=by
 unfold bL at h;split at h
 ·split at h
  all_goals grind
 grind
instance{k:IntKind}{n:Int}:WArg (.box [.v (.s (.int k n))]) (WK k n):=⟨fun h=>by cases h _ (by simp:DC.v (.s (.int k n))∈_)with|s _ h=>exact of_decide_eq_true h⟩
instance{s:ByteArray}:WArg (.box [.v (cs s)]) (WStr s):=⟨fun h=>(z113 s).1 (h _ (by simp:DC.v (cs s)∈_))⟩
instance{τ:Ty}{l:List (Den τ)}:WArg (.box [.v (.dat (U:=Un) τ l)]) (WL τ l):=⟨fun h=>h _ (by simp:DC.v (V.dat (U:=Un) τ l)∈_)⟩
instance{τ:Ty}{x:Den τ}:WArg (.box ((enc τ x).map .v)) (WS τ x):=⟨fun h d hd=>h _ (y4t hd:DC.v d∈_)⟩
def aI(k:IntKind):A Un→Option Int
 | .c (.s (.int k' n))=>match decEq k' k with| .isTrue _=>some n| .isFalse _=>none
 |_=>none
def aL(τ:Ty):A Un→Option (List (Den τ))
 | .c (.sl τ' xs false)=>match instDecidableEqTy τ' τ with| .isTrue h=>some (h▸xs)| .isFalse _=>none
 |_=>none
def oL(τ:Ty)(o:Ob Un):Option (List (Den τ)):=
 match Nat.beq o.ver 0,o.live with
 |true,true=>match instDecidableEqTy o.τ τ with| .isTrue h=>some (h▸o.xs)| .isFalse _=>none
 |_,_=>none
def oM(τ:Ty)(o:Ob Un):Option (List (Den τ)):=
 match o.fr with
 |some 0=>oL τ o
 |_=>none
theorem z1mm{k:IntKind}{a:A Un}{n:Int}(h:aI k a=some n):a=.c (.s (.int k n)):=by
 unfold aI at h;split at h
 ·split at h
  all_goals grind
 grind
theorem z2mb{τ:Ty}{a:A Un}{l:List (Den τ)}(h:aL τ a=some l):a=.c (.sl (U:=Un) τ l false):=by
 unfold aL at h;split at h
 ·split at h
  all_goals grind
 grind
theorem z2pk{τ:Ty}{o:Ob Un}{l:List (Den τ)}(h:oL τ o=some l):o=⟨0,τ,l,o.fr,true⟩:=by
 obtain⟨ver,τ',xs,fr,live⟩:=o;cases hv:Nat.beq ver 0 with
 |false=>simp_all[oL]
 |true=>
  cases live with
  |false=>simp_all[oL]
  |true=>
   simp only[oL,hv]at h;have:=y2h hv;split at h
   all_goals grind
theorem z21r{τ:Ty}{o:Ob Un}{l:List (Den τ)}(h:oM τ o=some l):o=⟨0,τ,l,some 0,true⟩:=by
 grind[oM,z2pk]
class WArgA(a:A Un)(P:outParam Prop):Prop where
 of:AWf En a→P
instance{k:IntKind}{n:Int}:WArgA (.c (.s (.int k n))) (WK k n):=⟨fun h=>of_decide_eq_true h⟩
instance{s:ByteArray}:WArgA (.c (.s (.string s))) (WStr s):=⟨fun h=>of_decide_eq_true h⟩
instance{τ:Ty}{l:List (Den τ)}{f:Bool}:WArgA (.c (.sl (U:=Un) τ l f)) (WL τ l):=⟨fun h=>h⟩
instance{τ:Ty}{x:Den τ}:WArgA (.agg (encC τ x)) (WS τ x):=⟨fun h d hd=>by
 have:=h (C.ofV d) (y4t hd);cases d with
 |s y=>exact .s _ this
 |dat τ' xs=>exact this⟩
theorem z2om{args:List (A Un)}(h:∀a∈args,AWf En a){a:A Un}{P:Prop}[w:WArgA a P](ha:a∈args):P:=w.of (h a ha)
def frz(fr:Option Nat)(n:Nat):Nat:=match fr with|none=>n|some j=>j
theorem z2pl{os:List (Ob Un)}(h:∀o∈os,VWf En (.dat o.τ o.xs)∧o.frozen≤o.xs.length){τ:Ty}{l:List (Den τ)}{fr:Option Nat}(ho:(⟨0,τ,l,fr,true⟩:Ob Un)∈os):WL τ l:=(h _ ho).1
theorem z282{M:Mc Un}{fns:FuncId→Option (FnC Un)}{fvs:FuncId→Option (FV Un)}{clo:FuncId→Option (List (List (DC Un))→Option (FV Un))}{gns:FuncId→Option (List Bool×FnG Un)}{ups:FuncId→Option (FnU Un)}(hM:M=mach fns fvs clo gns ups){nb:Nat}{bs:List (Bool×List (C Un))}(hn:nb=bs.length)(hF:FnsOK Tryz.prog (mach fns fvs clo gns ups))
  {f:FuncId}{fn:Func}(hf:Tryz.prog.funcs[f]?=some fn)(hb:fn.body=some (zf fn))(N:Nat→NS)(x:Nat)(fm:List Kind){args rs:List (A Un)}{bs':List (Bool×List (C Un))}{os os':List (Ob Un)}
  (h:(∀a∈args,AWf En a)→(∀b∈bs,∀c∈b.2,CWf En c)→(∀o∈os,VWf En (.dat o.τ o.xs)∧o.frozen≤o.xs.length)→Runs (awp M N (zf fn) (z1lp fn.ntmps x args bs os) (z1m M nb fn.results.toList fm fun r b o=>r=rs∧b=bs'∧o=os'))):GContract Tryz.prog En f args bs os rs bs' os':=by
 subst hM;subst hn;exact z22z (M:=mach fns fvs clo gns ups) (z21p fns fvs clo gns ups) hF mixed hf hb N x fm fun h1 h2 h3=>(h h1 h2 h3).out
theorem All2.weak{g:G}{ob:List (Option (Ob Un))}{w:World}:∀{vs:List Value}{cs:List (C Un)},All2 (CRel Tryz.prog En g ob w) vs cs→All2 (CRel Tryz.prog En g ob w) vs (cs.map C.weak)
 |[],[],_=>trivial
 |v::vs,c::cs,h=>⟨by
   have h0:=h.1;cases c with
   |sl τ xs f=>exact⟨h0.1,fun hf=>by grind⟩
   |_=>exact h0,All2.weak h.2⟩
theorem GContract.weak{f:FuncId}{args rs:List (A Un)}{bs bs':List (Bool×List (C Un))}{os os':List (Ob Un)}(h:GContract Tryz.prog En f args (bs.map fun b=>(b.1,b.2.map C.weak)) os rs bs' os'):GContract Tryz.prog En f args bs os rs bs' os':=by
 intro w g vs hp hvs;refine h w g vs ⟨fun k fz cells hk=>?_,fun k hk=>by simpa using hp.lbs k hk,hp.obs,hp.own,hp.laid,hp.nlb⟩ hvs;rw[y14]at hk;cases hb:bs[k]? with
 |none=>grind
 |some b=>
  rw[hb]at hk;obtain⟨rfl,rfl⟩:=hk;obtain⟨h1,us,h2,h3⟩:=hp.bxs k b.1 b.2 hb;exact⟨h1,us,h2.weak,h3⟩
theorem z4p{U:Uni}{n:NS}{body:S U→(Exit→S U→Prop)→Prop}{Q:Exit→S U→Prop}{s:S U}(k:Nat)(h:z1a n body Q k s):zw n body Q s:=⟨k,h⟩
theorem ztk{U:Uni}{n:NS}{body:S U→(Exit→S U→Prop)→Prop}{Q:Exit→S U→Prop}{s:S U}(h:zw n body Q s):∃k,z1a n body Q k s:=h
theorem mpr{a b:Prop}(h:a=b)(x:b):a:=h▸x
theorem z13{α:Type}{c:Prop}[Decidable c]{x y:Option α}{r:α}(h:(if c then x else y)=some r):(c∧x=some r)∨(¬c∧y=some r):=by
 grind
theorem z9u{α:Type}{c:Prop}[Decidable c]{x:Option α}{r:α}(h:(if c then x else none)=some r):c∧x=some r:=by
 grind
theorem bind_some{α β:Type}{x:Option α}{f:α→Option β}{r:β}(h:(x>>=f)=some r):∃o,x=some o∧f o=some r:=by
 cases x with
 |none=>grind
 |some o=>grind
theorem zl{b:Bool}(h:¬b=true):b=false:=by grind
theorem z1d{b:Bool}{X Y:Prop}(h:b=true)(x:X):cnd b X Y:=by subst h;exact x
theorem zx{b:Bool}{X Y:Prop}(h:b=false)(y:Y):cnd b X Y:=by subst h;exact y
theorem z1f{n:Int}(h:-9223372036854775808≤n∧n≤9223372036854775807):IntKind.i64.wrap n=n:=IntWalk.i64_in n h
theorem zxf{i n:Nat}(h:i<n)(hn:n≤9223372036854775807):IntKind.i64.wrap ((i:Int)+1)=((i+1:Nat):Int):=by
 grind[z1f]
theorem drop_nil{α:Type}{l:List α}{i:Nat}(h:l.drop i=[]):l.length≤i:=y1q.1 h
theorem z3f{α:Type}{l r:List α}{x:α}{i:Nat}(h:l.drop i=x::r):i<l.length∧(∀d,l.getD i d=x)∧l.drop (i+1)=r∧x∈l:=by
 have hi:i<l.length:=by
  grind[Nat.lt_or_ge,List.drop_of_length_le]
 rw[y1l hi]at h;grind
theorem zka{α:Type}{l r:List α}{i:Nat}(h:l.drop i=r):r.length=l.length- i:=by grind
def zar{V R:Type}(step:V→Option (V ⊕R)):Nat→V→Option R
 |0,_=>none
 |n+1,v=>match step v with
  |none=>none
  |some (.inl v')=>zar step n v'
  |some (.inr r)=>some r
open Classical in
noncomputable def zdy{V R:Type}(step:V→Option (V ⊕R))(v:V):Option R:=
 if h:∃n r,zar step n v=some r then some (Classical.choose (Classical.choose_spec h))else none
theorem z1mn{V R:Type}{step:V→Option (V ⊕R)}:∀{n:Nat}{v:V}{r:R},zar step n v=some r→∀m,n≤m→zar step m v=some r
 |0,v,r,h,_,_=>by grind[zar]
 |n+1,v,r,h,m,hm=>by
  obtain⟨m',rfl⟩:∃m',m=m'+1:=⟨m- 1,by omega⟩;simp only[zar]at h ⊢;cases hs:step v with
  |none=>grind
  |some o=>
   rw[hs]at h;cases o with
   |inl v'=>exact z1mn (n:=n) h m' (by omega)
   |inr r'=>omega
theorem loopO_iff{V R:Type}{step:V→Option (V ⊕R)}{v:V}{r:R}:zdy step v=some r↔∃n,zar step n v=some r:=by
 constructor
 ·intro h;unfold zdy at h;split at h
  all_goals grind
 ·rintro⟨n,hn⟩;have hh:∃n r,zar step n v=some r:=⟨n,r,hn⟩;unfold zdy;grind[Classical.choose_spec,z1mn,max,Classical.choose,Nat.le_max_left,Nat.le_max_right]
def zpc{V R:Type}(f:V→Option R):Option (V ⊕R)→Option R
 |none=>none
 |some (.inl v)=>f v
 |some (.inr r)=>some r
@[simp] theorem z2pm{V R:Type}(f:V→Option R):zpc f (none:Option (V ⊕R))=none:=rfl
@[simp] theorem zrf{V R:Type}(f:V→Option R)(v:V):zpc f (some (.inl v):Option (V ⊕R))=f v:=rfl
@[simp] theorem zxg{V R:Type}(f:V→Option R)(r:R):zpc f (some (.inr r):Option (V ⊕R))=some r:=rfl
theorem zv5{V R:Type}(step:V→Option (V ⊕R))(v:V):zdy step v=zpc (zdy step) (step v):=by
 have key:∀r,zdy step v=some r↔zpc (zdy step) (step v)=some r:=by
  intro r;rw[loopO_iff];cases hs:step v with
  |none=>
   refine⟨fun⟨n,hn⟩=>?_,fun h=>by simp at h⟩;cases n with
   |zero=>grind[zar]
   |succ n=>simp_all[zar]
  |some o=>
   cases o with
   |inl v'=>
    rw[zrf,loopO_iff];refine⟨fun⟨n,hn⟩=>?_,fun⟨n,hn⟩=>⟨n+1,by simp_all[zar]⟩⟩;cases n with
    |zero=>grind[zar]
    |succ n=>grind[zar]
   |inr r'=>
    refine⟨fun⟨n,hn⟩=>?_,fun h=>⟨1,by simp_all[zar]⟩⟩;cases n with
    |zero=>grind[zar]
    |succ n=>simp_all[zar]
 cases h:zdy step v with
 |some r=>grind
 |none=>
  cases h2:zpc (zdy step) (step v)with
  |none=>rfl
  |some r=>grind
theorem zv6{V R:Type}{step:V→Option (V ⊕R)}{I:V→Prop}{J:R→Prop}(hstep:∀v o,step v=some o→(match o with| .inl v'=>I v'| .inr r=>J r)→I v){v:V}{r:R}(h:zdy step v=some r)(hJ:J r):I v:=by
 obtain⟨n,hn⟩:=loopO_iff.1 h;clear h
 induction n generalizing v with
 |zero=>grind[zar]
 |succ n ih=>
  grind[zar,step]
end Go.Proofs.YtjfpbchdcbhfgaaGreat.B
namespace Go.Proofs.YtjfpbchdcbhfgaaGreat.B
open Go Go.RowKit
section
variable {U:Uni} {M:Mc U} {N:Nat→NS}
noncomputable def obO{α:Type}(p:Prop)(x:Option α):Option α:=@ite _ p (Classical.propDecidable p) x none
noncomputable def obsO{α:Type}:List Prop→Option α→Option α
 |[],x=>x
 |p::ps,x=>obO p (obsO ps x)
theorem z2g4{α:Type}{p:Prop}[Decidable p]{x:Option α}:obO p x=if p then x else none:=by
 simp[obO]
theorem z6{α:Type}{p:Prop}(h:p){x:Option α}:obO p x=x:=if_pos h
theorem z2kb{α:Type}{p:Prop}{x:Option α}{r:α}(h:obO p x=some r):p∧x=some r:=by
 simp_all[obO]
theorem z1x2{α:Type}:∀{ps:List Prop}{x:Option α}{r:α},obsO ps x=some r→(∀p∈ps,p)∧x=some r
 |[],_,_,h=>⟨by simp,h⟩
 |p::ps,x,r,h=>by
  obtain⟨h1,h2⟩:=z2kb h;obtain⟨h3,h4⟩:=z1x2 h2;grind
theorem z2kc{α β:Type}{p:Prop}{x:Option α}{f:α→Option β}:(obO p x).bind f=obO p (x.bind f):=by
 grind[obO]
theorem z1x3{α β:Type}{f:α→Option β}:∀{ps:List Prop}{x:Option α},(obsO ps x).bind f=obsO ps (x.bind f)
 |[],_=>rfl
 |p::ps,x=>by simp only[obsO,z2kc,z1x3]
def cndO{α:Type}(b:Bool)(x y:Option α):Option α:=match b with|true=>x|false=>y
theorem z8{α:Type}{b:Bool}{x y:Option α}:cndO b x y=if b=true then x else y:=by cases b<;>rfl
noncomputable def z2mc{α:Type}(ops:List Oper)(i:Nat)(o:Oper)(s:S U)(r:Res U)(K:S U→Option α):Option α:=
 obsO r.ob (match z2av ops i,r.v with
  |true,.one (.c (.s (.bool x)))=>cndO x (K (s.upd o.dst {r with v:=.one (.c (.s (.bool true)))})) (K (s.upd o.dst {r with v:=.one (.c (.s (.bool false)))}))
  |_,_=>K (s.upd o.dst r))
noncomputable def zrg{α:Type}(M:Mc U)(ops:List Oper):List Oper→Nat→S U→List Fp→(S U→List Fp→Option α)→Option α
 |[],_,s,fs,K=>K s fs
 |o::rest,i,s,fs,K=>
  match zth ops s o with
  |some true=>match eff M s o with
   |some r=>z2mc ops i o s r fun s'=>zrg M ops rest (i+1) s' (s.fp M ops o r::fs) K
   |none=>none
  |some false=>zrg M ops rest (i+1) (s.upd o.dst z17x) (S.fp0 ops o::fs) K
  |none=>none
def ifO{α:Type}(b:Bool)(x:Option α):Option α:=match b with|true=>x|false=>none
noncomputable def z18m{α:Type}(M:Mc U)(ops:Array Oper)(drawn:Bool)(s:S U)(K:S U→Option α):Option α:=
 zrg M ops.toList ops.toList 0 s [] fun s' fs=>match drawn with
  |false=>K s'
  |true=>ifO (zuo 0 ops.toList&&zuz (zcn ops.toList []) 0 [] fs.reverse) (K s')
abbrev EX(U:Uni):Type:=Exit×S U
def z21s(e:Exit)(s:S U):Option (EX U):=some (e,s)
def ztl{α:Type}(n:NS)(K:S U→Option α)(s:S U):Option α:=match s.norm n with|some s1=>K s1|none=>none
def z2cj(n:NS)(body:S U→(Exit→S U→Option (EX U))→Option (EX U))(s:S U):Option (S U ⊕EX U):=
 (body s z21s).bind fun p=>match p.1 with
  | .normal=>(p.2.norm n).bind fun s1=>some (.inl s1)
  |e=>(p.2.norm n).bind fun s1=>some (.inr (e,s1))
noncomputable def z1l(n:NS)(body:S U→(Exit→S U→Option (EX U))→Option (EX U))(s:S U):Option (EX U):=zdy (z2cj n body) s
def zco(n:NS)(I:S U→Option (EX U)):Exit→S U→Option (EX U)
 | .normal,s=>ztl n I s
 |e,s=>ztl n (fun s1=>some (e,s1)) s
def z2md{α:Type}(next:S U→Option α)(Q:Exit→S U→Option α):Exit→S U→Option α
 | .normal,s=>next s
 |e,s=>Q e s
def z1mo{α:Type}(id:Nat)(Q:Exit→S U→Option α):Exit→S U→Option α
 | .exit id',s=>if id'=id then Q .normal s else Q (.exit id') s
 |e,s=>Q e s
def zd{α:Type}(Q:Exit→S U→Option α)(p:EX U):Option α:=Q p.1 p.2
noncomputable def awf(M:Mc U)(N:Nat→NS):Code→{α:Type}→S U→(Exit→S U→Option α)→Option α
 | .skip,_,s,Q=>Q .normal s
 | .region _ ops drawn,_,s,Q=>z18m M ops drawn s (Q .normal)
 | .seq a b,_,s,Q=>awf M N a s (z2md (fun s'=>awf M N b s' Q) Q)
 | .cond c a b,_,s,Q=>match s.ev M c with
  |some (.one (.c (.s (.bool x))))=>cndO x (awf M N a (s.onX (N 0).cs c true) Q) (awf M N b (s.onX (N 0).cs c false) Q)
  |_=>none
 | .block id c,_,s,Q=>awf M N c s (z1mo id Q)
 | .loop c,_,s,Q=>ztl (N (lid c)) (fun s1=>(z1l (N (lid c)) (fun s' Q'=>awf M N c s' Q') s1).bind (zd Q)) s
 | .exit id,_,s,Q=>Q (.exit id) s
 | .ret,_,s,Q=>Q .ret s
 |_,_,_,_=>none
noncomputable def ctxF{α:Type}(M:Mc U)(N:Nat→NS):Code→List Nat→(Exit→S U→Option α)→Exit→S U→Option α
 | .seq a b,k::p,Q=>match k with|0=>ctxF M N a p (z2md (fun s'=>awf M N b s' Q) Q)|_=>ctxF M N b p Q
 | .block id c,_::p,Q=>ctxF M N c p (z1mo id Q)
 | .cond _ a b,k::p,Q=>match k with|3=>ctxF M N a p Q|_=>ctxF M N b p Q
 |_,_,Q=>Q
theorem zhz{α β:Type}{ops:List Oper}{f:α→Option β}:∀(l:List Oper)(i:Nat)(s:S U)(fs:List Fp)(K:S U→List Fp→Option α),
  (zrg M ops l i s fs K).bind f=zrg M ops l i s fs fun s' fs'=>(K s' fs').bind f
 |[],_,_,_,_=>rfl
 |o::rest,i,s,fs,K=>by
  simp only[zrg];split
  ·split
   ·unfold z2mc;rw[z1x3];congr 1;split
    ·rename_i b _ _;cases b
     ·exact zhz rest _ _ _ K
     ·exact zhz rest _ _ _ K
    ·exact zhz rest _ _ _ K
   rfl
  ·exact zhz rest _ _ _ K
  rfl
theorem z283{α β:Type}{ops:Array Oper}{drawn:Bool}{s:S U}{K:S U→Option α}{f:α→Option β}:(z18m M ops drawn s K).bind f=z18m M ops drawn s fun s'=>(K s').bind f:=by
 unfold z18m;rw[zhz];cases drawn with
 |false=>rfl
 |true=>unfold ifO;grind
theorem z2ck{α β:Type}{n:NS}{K:S U→Option α}{s:S U}{f:α→Option β}:(ztl n K s).bind f=ztl n (fun s1=>(K s1).bind f) s:=by
 grind[ztl]
theorem zob{α β:Type}{f:α→Option β}:∀(c:Code)(s:S U)(Q:Exit→S U→Option α),(awf M N c s Q).bind f=awf M N c s fun e s'=>(Q e s').bind f
 | .skip,_,_=>rfl
 | .region _ _ _,_,_=>z283
 | .seq a b,s,Q=>by
  simp only[awf];rw[zob a];congr 1;funext e s';cases e<;>first|rfl|exact zob b s' Q
 | .cond c a b,s,Q=>by
  simp only[awf];split
  ·rename_i x _;cases x
   ·exact zob b _ Q
   ·exact zob a _ Q
  rfl
 | .block id c,s,Q=>by
  simp only[awf];rw[zob c];congr 1;funext e s';cases e<;>first|rfl|grind[z1mo]
 | .loop c,s,Q=>by
  simp only[awf];rw[z2ck];congr 1;funext s1;rw[Option.bind_assoc];rfl
 | .exit _,_,_=>rfl
 | .ret,_,_=>rfl
 | .scope _,_,_=>rfl
 | .label _,_,_=>rfl
 | .goto _,_,_=>rfl
 | .refuse _,_,_=>rfl
 | .rangeFunc _ _ _ _,_,_=>rfl
theorem z2kd{α:Type}(c:Code)(s:S U)(Q:Exit→S U→Option α):awf M N c s Q=(awf M N c s z21s).bind (zd Q):=by
 rw[zob];rfl
theorem zc0(n:NS)(c:Code)(s:S U):z1l n (fun s' Q'=>awf M N c s' Q') s=awf M N c s (zco n (z1l n (fun s' Q'=>awf M N c s' Q'))):=by
 rw[z2kd c s (zco n _)];unfold z1l;rw[zv5]
 conv=>lhs;arg 2;unfold z2cj;dsimp only
 cases h:awf M N c s z21s with
 |none=>rfl
 |some p=>
  obtain⟨e,s'⟩:=p;simp only[yh,zd];cases e<;>simp only[zco,ztl]<;>cases s'.norm n<;>rfl
theorem zlj{α:Type}{ops:List Oper}{r:α}:∀(l:List Oper)(i:Nat)(s:S U)(fs:List Fp){K:S U→List Fp→Option α}{K':S U→List Fp→Prop},(∀s' fs',K s' fs'=some r→K' s' fs')→
  zrg M ops l i s fs K=some r→zr7 M ops l i s fs K'
 |[],_,s,fs,_,_,hK,h=>hK s fs h
 |o::rest,i,s,fs,K,K',hK,h=>by
  simp only[zrg]at h;simp only[zr7];split at h
  ·rename_i hw;rw[hw];split at h
   ·rename_i x hx;rw[hx];obtain⟨h1,h2⟩:=z1x2 h;refine obs_iff.2 ⟨h1,?_⟩;split at h2
    ·rename_i b hg hv;rw[hg,hv];cases b
     ·exact zlj rest _ _ _ hK h2
     ·exact zlj rest _ _ _ hK h2
    ·split
     ·grind
     ·exact zlj rest _ _ _ hK h2
   grind
  ·rename_i hw;rw[hw];exact zlj rest _ _ _ hK h
  grind
theorem z2cl{α:Type}{ops:Array Oper}{drawn:Bool}{s:S U}{K:S U→Option α}{K':S U→Prop}{r:α}(hK:∀s',K s'=some r→K' s')(h:z18m M ops drawn s K=some r):z224 M ops drawn s K':=by
 refine zlj _ _ _ _ (fun s' fs h'=>?_) h;cases drawn with
 |false=>grind
 |true=>
  unfold ifO at h';grind[iff']
theorem z2g5{α:Type}{n:NS}{s:S U}{K:S U→Option α}{K':S U→Prop}{r:α}(hK:∀s',K s'=some r→K' s')(h:ztl n K s=some r):zti n K' s:=by
 grind[ztl,zti]
theorem zkv:∀(c:Code){α:Type}{s:S U}{Q:Exit→S U→Option α}{Q':Exit→S U→Prop}{r:α},(∀e s',Q e s'=some r→Q' e s')→awf M N c s Q=some r→awp M N c s Q'
 | .skip,_,_,_,_,_,hQ,h=>hQ _ _ h
 | .region _ _ _,_,_,_,_,_,hQ,h=>z2cl (hQ _) h
 | .seq a b,_,s,Q,Q',r,hQ,h=>by
  refine zkv a (fun e s' h'=>?_) h;cases e<;>first|exact zkv b hQ h'|exact hQ _ _ h'
 | .cond c a b,_,s,Q,Q',r,hQ,h=>by
  simp only[awf]at h;simp only[awp];split at h
  ·rename_i x hx;rw[hx];cases x
   ·exact zkv b hQ h
   ·exact zkv a hQ h
  grind
 | .block id c,_,s,Q,Q',r,hQ,h=>by
  refine zkv c (fun e s' h'=>?_) h;cases e<;>first|exact hQ _ _ h'|(simp only[z1mo]at h';simp only[z17y];grind)
 | .loop c,α,s,Q,Q',r,hQ,h=>by
  refine z2g5 (n:=N (lid c)) (K':=zw (N (lid c)) (awp M N c) Q') (fun s1 h1=>?_) h;obtain⟨p,hp,hq⟩:=y7.1 h1;refine zv6 (step:=z2cj (N (lid c)) (fun s' Q'=>awf M N c s' Q')) (I:=zw (N (lid c)) (awp M N c) Q') (J:=fun p=>Q' p.1 p.2) ?_ hp (hQ _ _ hq);intro s2 o ho hI;obtain⟨⟨e,s3⟩,h3,h4⟩:=y7.1 ho;have key:∀k,(∀s4,s3.norm (N (lid c))=some s4→(e=.normal→z1a (N (lid c)) (awp M N c) Q' k s4)∧(e≠.normal→Q' e s4))→(∃s4,s3.norm (N (lid c))=some s4)→zw (N (lid c)) (awp M N c) Q' s2:=by
   intro k hk hs;refine⟨k+1,?_⟩;refine zkv c (fun e' s' h'=>?_) h3;simp only[z21s,y8,ym]at h';obtain⟨s4,hs4⟩:=hs;cases e'<;>simp only[z225,zti,hs4]<;>first|grind|grind
  cases e with
  |normal=>
   obtain⟨s4,h5,h6⟩:=y7.1 h4;cases h6;obtain⟨k,hk⟩:=hI;exact key k (fun s4' h'=>by grind) ⟨s4,h5⟩
  |_=>
   obtain⟨s4,h5,h6⟩:=y7.1 h4;cases h6;simp_all
 | .exit _,_,_,_,_,_,hQ,h=>hQ _ _ h
 | .ret,_,_,_,_,_,hQ,h=>hQ _ _ h
 | .scope _,_,_,_,_,_,_,h=>by grind[awf]
 | .label _,_,_,_,_,_,_,h=>by grind[awf]
 | .goto _,_,_,_,_,_,_,h=>by grind[awf]
 | .refuse _,_,_,_,_,_,_,h=>by grind[awf]
 | .rangeFunc _ _ _ _,_,_,_,_,_,_,h=>by grind[awf]
abbrev RF(U:Uni):Type:=List (A U)×List (Ob U)
abbrev RGF(U:Uni):Type:=List (A U)×List (Bool×List (C U))×List (Ob U)
def z21t(M:Mc U)(rv:List ResultVar)(fm:List Kind)(s:S U):Option (RF U):=
 match s.ress M rv with
 |some al=>match s.out fm al with
  |some (rs,os)=>some (rs,os)
  |none=>none
 |none=>none
def retF(M:Mc U)(rv:List ResultVar)(fm:List Kind):Exit→S U→Option (RF U)
 | .ret,s=>z21t M rv fm s
 | .normal,s=>z21t M rv fm s
 |_,_=>none
def z1mp(M:Mc U)(nb:Nat)(rv:List ResultVar)(fm:List Kind)(s:S U):Option (RGF U):=
 match s.ress M rv,s.boxesAt (List.range nb)with
 |some al,some bs=>match s.out fm (z1lo bs++al)with
  |some (rs,os)=>match z180 bs rs with
   |some (bs',rs')=>some (rs',bs',os)
   |none=>none
  |none=>none
 |_,_=>none
def z21u(M:Mc U)(nb:Nat)(rv:List ResultVar)(fm:List Kind):Exit→S U→Option (RGF U)
 | .ret,s=>z1mp M nb rv fm s
 | .normal,s=>z1mp M nb rv fm s
 |_,_=>none
theorem z2ke{rv:List ResultVar}{fm:List Kind}{r:RF U}:∀e s,retF M rv fm e s=some r→retQ M rv fm (fun rs os=>rs=r.1∧os=r.2) e s:=by
 have key:∀s,z21t M rv fm s=some r→retK M rv fm (fun rs os=>rs=r.1∧os=r.2) s:=by
  intro s h;unfold z21t at h;unfold retK;grind
 intro e s h;cases e<;>first|exact key s h|grind[retF]
theorem z2g6{nb:Nat}{rv:List ResultVar}{fm:List Kind}{r:RGF U}:∀e s,z21u M nb rv fm e s=some r→z1m M nb rv fm (fun rs bs os=>rs=r.1∧bs=r.2.1∧os=r.2.2) e s:=by
 have key:∀s,z1mp M nb rv fm s=some r→z1d1 M nb rv fm (fun rs bs os=>rs=r.1∧bs=r.2.1∧os=r.2.2) s:=by
  intro s h;unfold z1mp at h;unfold z1d1;grind
 intro e s h;cases e<;>first|exact key s h|grind[z21u]
theorem z1mq{c:Code}{s:S U}{rv:List ResultVar}{fm:List Kind}{r:RF U}(h:awf M N c s (retF M rv fm)=some r):Runs (awp M N c s (retQ M rv fm fun rs os=>rs=r.1∧os=r.2)):=
 ⟨zkv c z2ke h⟩
theorem z284{c:Code}{s:S U}{nb:Nat}{rv:List ResultVar}{fm:List Kind}{r:RGF U}(h:awf M N c s (z21u M nb rv fm)=some r):Runs (awp M N c s (z1m M nb rv fm fun rs bs os=>rs=r.1∧bs=r.2.1∧os=r.2.2)):=
 ⟨zkv c z2g6 h⟩
end
theorem z2d{M:Mc Un}{fns:FuncId→Option (FnC Un)}{fvs:FuncId→Option (FV Un)}{clo:FuncId→Option (List (List (DC Un))→Option (FV Un))}{gns:FuncId→Option (List Bool×FnG Un)}{ups:FuncId→Option (FnU Un)}(hM:M=mach fns fvs clo gns ups)(hF:FnsOK Tryz.prog (mach fns fvs clo gns ups))
  {f:FuncId}{fn:Func}(hf:Tryz.prog.funcs[f]?=some fn)(hb:fn.body=some (zf fn))(N:Nat→NS)(x:Nat)(fm:List Kind){args:List (D Un)}{rs:List (A Un)}{os:List (Ob Un)}
  (h:(∀a∈args,DWf En a)→awf M N (zf fn) (z2h fn.ntmps x args) (retF M fn.results.toList fm)=some (rs,os)):Contract Tryz.prog En f args rs os:=
 zhy hM hF hf hb N x fm fun ha=>z1mq (r:=(rs,os)) (h ha)
theorem z3g{n i:Nat}(hi:i<n)(hn:n≤9223372036854775807):IntKind.i64.wrap ((i:Int)+1)=((i+1:Nat):Int):=by
 rw[IntKind.wrap_i64];omega
theorem z1j{σ α:Type}{L:S Un→Option (EX Un)}{st:σ→Int→S Un}{l:List α}{d:α}{g:σ→α→σ}(Inv:Nat→σ→Prop)(hl:l.length≤9223372036854775807)
  (step:∀(a:σ)(i:Nat)(x:α),(i:Int)<(l.length:Int)→l.getD i d=x→Inv i a→Inv (i+1) (g a x)∧L (st a i)=L (st (g a x) (IntKind.i64.wrap ((i:Int)+1))))
  {e:Exit}(stop:∀a,Inv l.length a→L (st a (l.length:Int))=some (e,st a (l.length:Int)))(a:σ)(h0:Inv 0 a):
  L (st a (0:Int))=some (e,st (l.foldl g a) (l.length:Int))∧Inv l.length (l.foldl g a):=by
 have key:∀(r:List α)(i:Nat)(a:σ),l.drop i=r→i≤l.length→Inv i a→L (st a i)=some (e,st (r.foldl g a) (l.length:Int))∧Inv l.length (r.foldl g a):=by
  intro r
  induction r with
  |nil=>
   intro i a hr hi hI;have:l.length≤i:=by simp_all
   grind
  |cons x r ih=>
   intro i a hr hi hI;have hlt:i<l.length:=by
    grind
   have hx:l.getD i d=x:=by
    rw[y1l hlt]at hr;rw[yd,ya hlt];exact(y3o hr).1
   have hr':l.drop (i+1)=r:=by
    rw[y1l hlt]at hr;exact(y3o hr).2
   obtain⟨h1,h2⟩:=step a i x (by omega) hx hI;rw[h2,z3g hlt hl];exact ih (i+1) (g a x) hr' hlt h1
 grind
theorem zj{α:Type}{X:Option (EX Un)}{e:Exit}{s:S Un}{C:Exit→S Un→Option α}(h:X=some (e,s)):X.bind (zd C)=C e s:=by rw[h];rfl
def bl:Nat→Nat→List Bool
 |0,_=>[]
 |k+1,m=>Nat.beq (m % 2) 1::bl k (m/2)
def ai(n:Int):AV Un:=.one (.c (.s (.int .i64 n)))
def ab(b:Bool):AV Un:=.one (.c (.s (.bool b)))
def at_(b:ByteArray):AV Un:=.one (.c (.s (.string b)))
def ax(k:Nat):AV Un:=.one (.c (.bx k 0))
def al(τ:Ty)(l:List (Den τ)):AV Un:=.one (.c (.sl (U:=Un) τ l false))
def ag(τ:Ty)(x:Den τ):AV Un:=.one (.agg (encC τ x))
def ao(k:Nat):AV Un:=.one (.c (.ob k 0))
def bb(n:Bool):Option (Bool×List (C Un)):=some (false,[.s (.bool n)])
def bg(τ:Ty)(x:Den τ):Option (Bool×List (C Un)):=some (false,encC τ x)
def bo(k:Nat):Option (Bool×List (C Un)):=some (false,[.ob k 0])
def Term.ids(x:Term):Term:=.mk (Term.op x) (Term.v x) (Term.depth x) (Term.at_ x) (Term.name x) (Term.kids x) (Term.sub x) (Term.type x)
theorem Term.ids_eq(x:Term):Term.ids x=x:=by cases x;rfl
def Agg.ids(x:Agg):Agg:=.mk (Agg.name x) (Agg.distinct x) (Agg.t x)
theorem Agg.ids_eq(x:Agg):Agg.ids x=x:=by cases x;rfl
def Rel.ids(x:Rel):Rel:=.mk (Rel.op x) (Rel.table x) (Rel.cols x) (Rel.kids x) (Rel.terms x) (Rel.aggs x) (Rel.keys x) (Rel.limit x) (Rel.skip x) (Rel.all x) (Rel.rows x)
theorem Rel.ids_eq(x:Rel):Rel.ids x=x:=by cases x;rfl
def Plan.ids(x:Plan):Plan:=.mk (Plan.op x) (Plan.table x) (Plan.index x) (Plan.cols x) (Plan.kids x) (Plan.terms x) (Plan.lkeys x) (Plan.rkeys x) (Plan.aggs x) (Plan.keys x) (Plan.out x) (Plan.lo x) (Plan.hi x) (Plan.limit x) (Plan.skip x) (Plan.all x) (Plan.rows x) (Plan.est x) (Plan.cost x)
theorem Plan.ids_eq(x:Plan):Plan.ids x=x:=by cases x;rfl
/-! ### functions told shortly -/
def mcF_(l1:List (Nat×FnC Un))(l2:List (Nat×FV Un))(l3:List (Nat×(List (List (DC Un))→Option (FV Un))))(l4:List (Nat×(List Bool×FnG Un)))(l5:List (Nat×FnU Un)):Mc Un:=mach (tbl l1) (tbl l2) (tbl l3) (tbl l4) (tbl l5)
abbrev KeyF:Type:=List Prop×RF Un
def fnF0(k:KeyF):FnC Un:=fun args=>match args with
 |[]=>some k
 |_=>none
def fnF1{α:Type}(d:D Un→Option α)(k:α→KeyF):FnC Un:=fun args=>match args with
 |[x]=>(d x).bind fun a=>some (k a)
 |_=>none
def fnF2{α β:Type}(d:D Un→Option α)(d2:D Un→Option β)(k:α→β→KeyF):FnC Un:=fun args=>match args with
 |[x,y]=>(d x).bind fun a=>(d2 y).bind fun b=>some (k a b)
 |_=>none
def fnF3{α β γ:Type}(d:D Un→Option α)(d2:D Un→Option β)(d3:D Un→Option γ)(k:α→β→γ→KeyF):FnC Un:=fun args=>match args with
 |[x,y,z]=>(d x).bind fun a=>(d2 y).bind fun b=>(d3 z).bind fun c=>some (k a b c)
 |_=>none
def fnF4{α β γ δ:Type}(d:D Un→Option α)(d2:D Un→Option β)(d3:D Un→Option γ)(d4:D Un→Option δ)(k:α→β→γ→δ→KeyF):FnC Un:=fun args=>match args with
 |[x,y,z,u]=>(d x).bind fun a=>(d2 y).bind fun b=>(d3 z).bind fun c=>(d4 u).bind fun e=>some (k a b c e)
 |_=>none
theorem wfA_{args:List (D Un)}(h:∀a∈args,DWf En a)(i:Nat){a:D Un}{P:Prop}(hi:args[i]?=some a:=by rfl)[w:WArg a P]:P:=w.of (h a (ye hi))
theorem obA_{ps:List Prop}(h:∀p∈ps,p)(i:Nat){p:Prop}(hi:ps[i]?=some p:=by rfl):p:=h p (ye hi)
/-- A function's machine, names and body: enough for its contract. -/
theorem z1mr{M:Mc Un}{l1:List (Nat×FnC Un)}{l2:List (Nat×FV Un)}{l3:List (Nat×(List (List (DC Un))→Option (FV Un)))}{l4:List (Nat×(List Bool×FnG Un))}{l5:List (Nat×FnU Un)}(hM:M=mcF_ l1 l2 l3 l4 l5)
    (h1:AllL FnOK l1)(h2:AllL FvOK l2)(h3:AllL ClOK l3)(h4:AllL GnOK l4)(h5:AllL UpOK l5){f:FuncId}{fn:Func}(hf:Tryz.prog.funcs[f]?=some fn)(hb:fn.body=some (zf fn))(hn:(fn.name== "runtime.NumGoroutine")=false){N:Nat→NS}{x:Nat}{fm:List Kind}{args:List (D Un)}{r:RF Un}
    (h:(∀a∈args,DWf En a)→Runs (awp M N (zf fn) (z2h fn.ntmps x args) (retQ M fn.results.toList fm fun rs os=>rs=r.1∧os=r.2))):Contract Tryz.prog En f args r.1 r.2∧z32 Tryz.prog f:=
  ⟨zhy hM (z4o h1 h2 h3 h4 h5) hf hb N x fm h,zk hf hb hn⟩
section
variable {M:Mc Un} {l1:List (Nat×FnC Un)} {l2:List (Nat×FV Un)} {l3:List (Nat×(List (List (DC Un))→Option (FV Un)))} {l4:List (Nat×(List Bool×FnG Un))} {l5:List (Nat×FnU Un)} {f:FuncId} {fn:Func} {N:Nat→NS} {x:Nat} {fm:List Kind} {α β γ δ:Type}
 {d:D Un→Option α} {d2:D Un→Option β} {d3:D Un→Option γ} {d4:D Un→Option δ} {e:α→D Un} {e2:β→D Un} {e3:γ→D Un} {e4:δ→D Un}
/-- What is asked of a function's plain form, told in both ways. -/
def GiF(M:Mc Un)(N:Nat→NS)(fn:Func)(x:Nat)(fm:List Kind)(args:List (D Un))(k:KeyF):Prop:=(∀a∈args,DWf En a)→(∀p∈k.1,p)→awf M N (zf fn) (z2h fn.ntmps x args) (retF M fn.results.toList fm)=some k.2
def GiR(M:Mc Un)(N:Nat→NS)(fn:Func)(x:Nat)(fm:List Kind)(args:List (D Un))(k:KeyF):Prop:=(∀a∈args,DWf En a)→(∀p∈k.1,p)→Runs (awp M N (zf fn) (z2h fn.ntmps x args) (retQ M fn.results.toList fm fun rs os=>rs=k.2.1∧os=k.2.2))
theorem GiF.r{args:List (D Un)}{k:KeyF}(h:GiF M N fn x fm args k):GiR M N fn x fm args k:=fun a b=>z1mq (h a b)
theorem fnK0{k:KeyF}(hM:M=mcF_ l1 l2 l3 l4 l5)(h1:AllL FnOK l1)(h2:AllL FvOK l2)(h3:AllL ClOK l3)(h4:AllL GnOK l4)(h5:AllL UpOK l5)(hf:Tryz.prog.funcs[f]?=some fn)
    (h:GiR M N fn x fm [] k)(hb:fn.body=some (zf fn):=by kernel_rfl)(hn:(fn.name== "runtime.NumGoroutine")=false:=by kernel_rfl):FnOK f (fnF0 k):=by
  intro args ob rs os hh hob;unfold fnF0 at hh;split at hh
  · obtain rfl:=yk hh;exact z1mr hM h1 h2 h3 h4 h5 hf hb hn (r:=(rs,os)) fun hw=>h hw hob
  · simp at hh
theorem fnK1{k:α→KeyF}(q1:∀{a x},d a=some x→a=e x)(hM:M=mcF_ l1 l2 l3 l4 l5)(h1:AllL FnOK l1)(h2:AllL FvOK l2)(h3:AllL ClOK l3)(h4:AllL GnOK l4)(h5:AllL UpOK l5)(hf:Tryz.prog.funcs[f]?=some fn)
    (h:∀a,GiR M N fn x fm [e a] (k a))(hb:fn.body=some (zf fn):=by kernel_rfl)(hn:(fn.name== "runtime.NumGoroutine")=false:=by kernel_rfl):FnOK f (fnF1 d k):=by
  intro args ob rs os hh hob;unfold fnF1 at hh;split at hh
  · simp only[y7]at hh;obtain⟨a,g1,hk⟩:=hh;obtain rfl:=q1 g1;have hk:=yk hk;have:=h a;rw[hk]at this;exact z1mr hM h1 h2 h3 h4 h5 hf hb hn (r:=(rs,os)) fun hw=>this hw hob
  · simp at hh
theorem fnK2{k:α→β→KeyF}(q1:∀{a x},d a=some x→a=e x)(q2:∀{a x},d2 a=some x→a=e2 x)(hM:M=mcF_ l1 l2 l3 l4 l5)(h1:AllL FnOK l1)(h2:AllL FvOK l2)(h3:AllL ClOK l3)(h4:AllL GnOK l4)(h5:AllL UpOK l5)(hf:Tryz.prog.funcs[f]?=some fn)
    (h:∀a b,GiR M N fn x fm [e a,e2 b] (k a b))(hb:fn.body=some (zf fn):=by kernel_rfl)(hn:(fn.name== "runtime.NumGoroutine")=false:=by kernel_rfl):FnOK f (fnF2 d d2 k):=by
  intro args ob rs os hh hob;unfold fnF2 at hh;split at hh
  · simp only[y7]at hh;obtain⟨a,g1,b,g2,hk⟩:=hh;obtain rfl:=q1 g1;obtain rfl:=q2 g2;have hk:=yk hk;have:=h a b;rw[hk]at this;exact z1mr hM h1 h2 h3 h4 h5 hf hb hn (r:=(rs,os)) fun hw=>this hw hob
  · simp at hh
theorem fnK3{k:α→β→γ→KeyF}(q1:∀{a x},d a=some x→a=e x)(q2:∀{a x},d2 a=some x→a=e2 x)(q3:∀{a x},d3 a=some x→a=e3 x)(hM:M=mcF_ l1 l2 l3 l4 l5)(h1:AllL FnOK l1)(h2:AllL FvOK l2)(h3:AllL ClOK l3)(h4:AllL GnOK l4)(h5:AllL UpOK l5)(hf:Tryz.prog.funcs[f]?=some fn)
    (h:∀a b c,GiR M N fn x fm [e a,e2 b,e3 c] (k a b c))(hb:fn.body=some (zf fn):=by kernel_rfl)(hn:(fn.name== "runtime.NumGoroutine")=false:=by kernel_rfl):FnOK f (fnF3 d d2 d3 k):=by
  intro args ob rs os hh hob;unfold fnF3 at hh;split at hh
  · simp only[y7]at hh;obtain⟨a,g1,b,g2,c,g3,hk⟩:=hh;obtain rfl:=q1 g1;obtain rfl:=q2 g2;obtain rfl:=q3 g3;have hk:=yk hk;have:=h a b c;rw[hk]at this;exact z1mr hM h1 h2 h3 h4 h5 hf hb hn (r:=(rs,os)) fun hw=>this hw hob
  · simp at hh
theorem fnK4{k:α→β→γ→δ→KeyF}(q1:∀{a x},d a=some x→a=e x)(q2:∀{a x},d2 a=some x→a=e2 x)(q3:∀{a x},d3 a=some x→a=e3 x)(q4:∀{a x},d4 a=some x→a=e4 x)(hM:M=mcF_ l1 l2 l3 l4 l5)(h1:AllL FnOK l1)(h2:AllL FvOK l2)(h3:AllL ClOK l3)(h4:AllL GnOK l4)(h5:AllL UpOK l5)(hf:Tryz.prog.funcs[f]?=some fn)
    (h:∀a b c u,GiR M N fn x fm [e a,e2 b,e3 c,e4 u] (k a b c u))(hb:fn.body=some (zf fn):=by kernel_rfl)(hn:(fn.name== "runtime.NumGoroutine")=false:=by kernel_rfl):FnOK f (fnF4 d d2 d3 d4 k):=by
  intro args ob rs os hh hob;unfold fnF4 at hh;split at hh
  · simp only[y7]at hh;obtain⟨a,g1,b,g2,c,g3,u,g4,hk⟩:=hh;obtain rfl:=q1 g1;obtain rfl:=q2 g2;obtain rfl:=q3 g3;obtain rfl:=q4 g4;have hk:=yk hk;have:=h a b c u;rw[hk]at this;exact z1mr hM h1 h2 h3 h4 h5 hf hb hn (r:=(rs,os)) fun hw=>this hw hob
  · simp at hh
/-- The same with a bound on a measure ahead of what is asked. -/
def z2o(n m:Nat)(k:KeyF):KeyF:=((n<m)::k.1,k.2)
theorem z2cm{n:Nat}{k:KeyF}(h:∀p∈(z2o n 0 k).1,p):False:=y18 _ (h _ y10)
theorem fnZ1{k:α→KeyF}{s:α→Nat}:FnOK f (fnF1 d fun a=>z2o (s a) 0 (k a)):=by
 intro args ob rs os hh hob;unfold fnF1 at hh;split at hh
 ·simp only[y7]at hh;obtain⟨a,_,hk⟩:=hh;have hk:=yk hk;exact(z2cm (k:=k a) (n:=s a) (by rw[hk];exact hob)).elim
 ·simp at hh
theorem fnZ2{k:α→β→KeyF}{s:α→β→Nat}:FnOK f (fnF2 d d2 fun a b=>z2o (s a b) 0 (k a b)):=by
 intro args ob rs os hh hob;unfold fnF2 at hh;split at hh
 ·simp only[y7]at hh;obtain⟨a,_,b,_,hk⟩:=hh;have hk:=yk hk;exact(z2cm (k:=k a b) (n:=s a b) (by rw[hk];exact hob)).elim
 ·simp at hh
theorem fnZ3{k:α→β→γ→KeyF}{s:α→β→γ→Nat}:FnOK f (fnF3 d d2 d3 fun a b c=>z2o (s a b c) 0 (k a b c)):=by
 intro args ob rs os hh hob;unfold fnF3 at hh;split at hh
 ·simp only[y7]at hh;obtain⟨a,_,b,_,c,_,hk⟩:=hh;have hk:=yk hk;exact(z2cm (k:=k a b c) (n:=s a b c) (by rw[hk];exact hob)).elim
 ·simp at hh
theorem z2me{n:Nat}{k:KeyF}(h:∀p∈k.1,p):∀p∈(z2o n (n+1) k).1,p:=fun p hp=>by
 rcases yg.1 hp with rfl|hp
 ·exact y2l _
 ·exact h p hp
theorem fnA1{k:α→KeyF}{s:α→Nat}(h:∀m,FnOK f (fnF1 d fun a=>z2o (s a) m (k a))):FnOK f (fnF1 d k):=by
 intro args ob rs os hh hob;unfold fnF1 at hh;split at hh
 ·rename_i x;simp only[y7]at hh;obtain⟨a,hd,hk⟩:=hh;have hk:=yk hk;have:=h (s a+1) [x] (z2o (s a) (s a+1) (k a)).1 rs os (by simp only[fnF1,hd,yh,z2o,hk]);exact this (z2me (by rw[hk];exact hob))
 ·simp at hh
theorem fnA2{k:α→β→KeyF}{s:α→β→Nat}(h:∀m,FnOK f (fnF2 d d2 fun a b=>z2o (s a b) m (k a b))):FnOK f (fnF2 d d2 k):=by
 intro args ob rs os hh hob;unfold fnF2 at hh;split at hh
 ·rename_i x y;simp only[y7]at hh;obtain⟨a,hd,b,hd2,hk⟩:=hh;have hk:=yk hk;have:=h (s a b+1) [x,y] (z2o (s a b) (s a b+1) (k a b)).1 rs os (by simp only[fnF2,hd,hd2,yh,z2o,hk]);exact this (z2me (by rw[hk];exact hob))
 ·simp at hh
end
/-- Loops and what comes behind, told by their place. -/
noncomputable def lpF_(M:Mc Un)(N:Nat→NS)(f:Func)(p:List Nat)(n:Nat):S Un→Option (EX Un):=z1l (N n) (fun s Q=>awf M N (sub (zf f) p) s Q)
noncomputable def cxF_(M:Mc Un)(N:Nat→NS)(f:Func)(p:List Nat)(ks:List Kind):Exit→S Un→Option (RF Un):=ctxF M N (zf f) p (retF M f.results.toList ks)
noncomputable def fnF_(M:Mc Un)(N:Nat→NS)(f:Func)(x:Nat)(ks:List Kind)(args:List (D Un)):Option (RF Un):=awf M N (zf f) (z2h f.ntmps x args) (retF M f.results.toList ks)
theorem lpQ_{M:Mc Un}{N:Nat→NS}{f:Func}{p:List Nat}{n:Nat}{s:S Un}{r:Option (EX Un)}(h:awf M N (sub (zf f) p) s (zco (N n) (lpF_ M N f p n))=r):lpF_ M N f p n s=r:=(zc0 (N n) (sub (zf f) p) s).trans h
def nsF_(l:List (Nat×NS))(b:Bool):Nat→NS:=fun n=>(look n l).getD ⟨[],[],[],[],[],b⟩
end Go.Proofs.YtjfpbchdcbhfgaaGreat.B
namespace Go.Proofs.YtjfpbchdcbhfgaaGreat
open Go.RowKit Go.ChangeShapes
theorem z285{H:Type}{enc:TypeId×Value→H}{P:Program}(hl:laidOutB P=true){W W':World}(hb:Ext W W'):
  ∀{ts:List TypeId}{vs:List Value}{ds:List (DataW H)}{ps:List MemPlace},(∀t∈ts,P.readableRec t=true∧t<P.types.size)→
   DataW.TrodAll enc P W 0 (fun _=>true) true ts vs ds ps→(∀x∈ps,x.block<W.heap.size)→
   DataW.TrodAll enc P W' 0 (fun b=>decide (b<W.heap.size)) true ts vs ds ps:=by
 intro ts
 induction ts with
 |nil=>
  intro vs ds ps _ h _;cases vs<;>cases ds<;>first|exact h|exact h.elim
 |cons t ts ih=>
  intro vs ds ps hr h hlt;cases vs with
  |nil=>cases ds<;>exact h.elim
  |cons v vs=>
   cases ds with
   |nil=>exact h.elim
   |cons d ds=>
    obtain⟨p,q,hd,hrest,rfl⟩:=h;have h0:=hr t (by simp);refine⟨p,q,Below.trod hl h0.1 h0.2 hd hb (fun x hx=>hlt x (by grind)),ih (fun t ht=>hr t (by grind)) hrest (fun x hx=>hlt x (by grind)),rfl⟩
theorem z1sw{H:Type}{enc:TypeId×Value→H}{P:Program}{W:World}{b:Nat}{sp:Nat→Bool}{hd:Bool}:
  ∀{ts:List TypeId}{vs:List Value}{ds:List (DataW H)}{ps:List MemPlace},DataW.TrodAll enc P W b sp hd ts vs ds ps→ds.length=ts.length∧vs.length=ts.length:=by
 intro ts
 induction ts with
 |nil=>intro vs ds ps h;cases vs<;>cases ds<;>first|exact h.elim|simp
 |cons t ts ih=>
  intro vs ds ps h;cases vs with
  |nil=>cases ds<;>exact h.elim
  |cons v vs=>
   cases ds with
   |nil=>exact h.elim
   |cons d ds=>obtain⟨p,q,_,hrest,_⟩:=h;grind
theorem z2kf{H:Type}{enc:TypeId×Value→H}{P:Program}{f:Func}{s:ChangeSpec}{tb:TypeId}{W W':World}{args:Array Value}{ds gs:List (DataW H)}{before:List MemPlace}
  (hl:laidOutB P=true)(hr:f.params.toList.all (fun t=>P.readableRec t&&decide (t<P.types.size))=true)
  (hres:f.resultTypes=#[tb])(hub:P.underlying tb=some .bool)(hvars:s.vars=[])
  (hspec:∀l:List (DataW H),l.length=f.params.toList.length→(s.fn H l).results=[.lit (.bool true)]∧(s.fn H l).args=l∧(s.fn H l).vars=[])
  (hW:DataW.Whole enc P f.params.toList s.vars false W args.toList ds gs before)(hb:Ext W W'):
  s.post enc P f false true false false W args (.bool true) W':=by
 have hW0:=hW;obtain⟨p,q,hA,hV,rfl,hfz,hnd⟩:=hW;rw[hvars]at hV;have hgs:gs=[]∧q=[]:=by
  cases gs with
  |nil=>exact⟨rfl,hV⟩
  |cons g gs=>exact hV.elim
 obtain⟨rfl,rfl⟩:=hgs;have hlen:=(z1sw hA).1;obtain⟨e1,e2,e3⟩:=hspec (ds++[]) (by grind);have hr':∀t∈f.params.toList,P.readableRec t=true∧t<P.types.size:=by
  grind
 refine⟨ds,[],p++[],[],p,[],hW0,?_,?_,?_,Below.frame hb _,fun h=>by grind⟩
 ·rw[e1,hres];exact trodAll_cons_mk (shut_bool hub _) trodAll_mk0
 ·rw[e2,y13];exact z285 hl hb hr' hA (fun x hx=>by simpa using hW0.lt x (by grind))
 ·rw[hvars,e3];rfl
end Go.Proofs.YtjfpbchdcbhfgaaGreat
namespace Go.Proofs.YtjfpbchdcbhfgaaGreat.B
open Go Go.RowKit
inductive Fl
 |int|bool|str
 |num (k:IntKind)
 |sl (τ:Ty)
 deriving DecidableEq
def flOf:V Un→Option Fl
 | .s (.int .i64 _)=>some .int
 | .s (.int k _)=>some (.num k)
 | .s (.bool _)=>some .bool
 | .s (.string _)=>some .str
 | .dat τ _=>some (.sl τ)
 |_=>none
def fls(τ:Ty):List Fl:=(enc τ (dflt τ)).filterMap flOf
theorem z115{vs:List (V Un)}{f:Fl}{fs:List Fl}(h:vs.map flOf=(f::fs).map some):∃v r,vs=v::r∧flOf v=some f∧r.map flOf=fs.map some:=by
 cases vs with
 |nil=>grind
 |cons v r=>grind
theorem z3e{vs:List (V Un)}(h:vs.map flOf=([]:List Fl).map some):vs=[]:=by simp_all
theorem z26{vs:List (V Un)}{fs:List Fl}(h:vs.map flOf=(Fl.int::fs).map some):∃n r,vs=ci n::r∧r.map flOf=fs.map some:=by
 obtain⟨v,r,rfl,h1,h2⟩:=z115 h;unfold flOf at h1;split at h1<;>simp at h1;exact⟨_,r,rfl,h2⟩
theorem z2g7{vs:List (V Un)}{k:IntKind}{fs:List Fl}(h:vs.map flOf=(Fl.num k::fs).map some):∃n r,vs=.s (.int k n)::r∧r.map flOf=fs.map some:=by
 obtain⟨v,r,rfl,h1,h2⟩:=z115 h;unfold flOf at h1;grind
theorem z71{vs:List (V Un)}{fs:List Fl}(h:vs.map flOf=(Fl.bool::fs).map some):∃n r,vs=cb n::r∧r.map flOf=fs.map some:=by
 obtain⟨v,r,rfl,h1,h2⟩:=z115 h;unfold flOf at h1;split at h1<;>simp at h1;exact⟨_,r,rfl,h2⟩
theorem zad{vs:List (V Un)}{fs:List Fl}(h:vs.map flOf=(Fl.str::fs).map some):∃n r,vs=cs n::r∧r.map flOf=fs.map some:=by
 obtain⟨v,r,rfl,h1,h2⟩:=z115 h;unfold flOf at h1;split at h1<;>simp at h1;exact⟨_,r,rfl,h2⟩
theorem z2i{vs:List (V Un)}{τ:Ty}{fs:List Fl}(h:vs.map flOf=(Fl.sl τ::fs).map some):∃(l:List (Den τ))(r:List (V Un)),vs=.dat (U:=Un) τ l::r∧r.map flOf=fs.map some:=by
 obtain⟨v,r,rfl,h1,h2⟩:=z115 h;unfold flOf at h1;split at h1<;>simp at h1;subst h1;grind
section
variable {H:Type} {enc':TypeId×Value→H} {P:Program} {w:World} {spare:Nat→Bool} {held:Bool}
def z1ms(P:Program)(lay:TypeId→Option (List Fl)):List Field→Nat→Option (List Fl)
 |[],_=>some []
 |f::r,off=>match lay f.type with
  |some l=>if f.offset=off∧l.length=P.cellsOf f.type then(z1ms P lay r (off+l.length)).map (l++·)else none
  |none=>none
def lay(P:Program)(tab:TypeId→TI Un):Nat→TypeId→Option (List Fl)
 |0,_=>none
 |k+1,t=>match P.underlying t with
  |some (.int .i64)=>some [.int]
  |some (.int k)=>some [.num k]
  |some (.array n e)=>match lay P tab k e with
   |some l=>if l.length=P.cellsOf e∧n*l.length=P.cellsOf t then some ((List.replicate n l).flatten)else none
   |none=>none
  |some .bool=>some [.bool]
  |some .string=>some [.str]
  |some (.slice e)=>match tab t with
   | .sl e' τ _=>if e'=e then some [.sl τ]else none
   |_=>none
  |some (.struct fs)=>match z1ms P (lay P tab k) fs.toList 0 with
   |some l=>if l.length=P.cellsOf t then some l else none
   |none=>none
  |_=>none
inductive VB(byt:Ty→Nat):V Un→Prop
 |s (x:Value):VB byt (.s x)
 |dat (τ:Ty) (xs:List (Den τ)) (h:xs.length*byt τ≤reachBytes) (h2:∀x∈xs,∀d∈enc τ x,VB byt d):VB byt (.dat (U:=Un) τ xs)
mutual
inductive BK:V Un→Nat→Prop
 |s (x:Value) (n:Nat) (h:∀b,x=.string b→b.size≤n):BK (.s x) n
 |dat (τ:Ty) (xs:List (Den τ)) (n:Nat) (h:BKL τ xs n):BK (.dat (U:=Un) τ xs) n
inductive BKL:(τ:Ty)→List (Den τ)→Nat→Prop
 |nil (τ:Ty) (n:Nat):BKL τ [] n
 |cons (τ:Ty) (x:Den τ) (xs:List (Den τ)) (a b n:Nat) (h1:BKS (enc τ x) a) (h2:BKL τ xs b) (hn:a+1+b≤n):BKL τ (x::xs) n
inductive BKS:List (V Un)→Nat→Prop
 |nil (n:Nat):BKS [] n
 |cons (v:V Un) (vs:List (V Un)) (a b n:Nat) (h1:BK v a) (h2:BKS vs b) (hn:a+b≤n):BKS (v::vs) n
end
theorem BKS.mono{vs:List (V Un)}{n m:Nat}(h:BKS vs n)(hm:n≤m):BKS vs m:=by
 cases h with
 |nil _=>exact .nil _
 |cons v vs a b _ h1 h2 hn=>exact .cons v vs a b _ h1 h2 (by omega)
theorem BKL.mono{τ:Ty}{xs:List (Den τ)}{n m:Nat}(h:BKL τ xs n)(hm:n≤m):BKL τ xs m:=by
 cases h with
 |nil _ _=>exact .nil _ _
 |cons _ x xs a b _ h1 h2 hn=>exact .cons _ x xs a b _ h1 h2 (by omega)
theorem BKS.append{us:List (V Un)}{n:Nat}(h:BKS us n){vs:List (V Un)}{m:Nat}(h2:BKS vs m):BKS (us++vs) (n+m):=by
 induction us generalizing n with
 |nil=>exact h2.mono (by omega)
 |cons u us ih=>
  cases h with
  |cons _ _ a b _ g1 g2 hn=>exact .cons u _ a (b+m) _ g1 (ih g2) (by omega)
theorem BKS.one(x:Value)(n:Nat)(h:∀b,x=.string b→b.size≤n):BKS [.s x] n:=.cons _ _ n 0 _ (.s _ _ h) (.nil _) (by omega)
theorem BKS.none(τ:Ty)(n:Nat):BKS [.dat (U:=Un) τ []] n:=.cons _ _ 0 0 _ (.dat _ _ _ (.nil _ _)) (.nil _) (by omega)
theorem z2kg(d:DataW H):1≤Rows.uptoBulk d:=by
 cases d with
 |lit l=>cases l<;>simp[Rows.uptoBulk]
 |nil=>simp[Rows.uptoBulk]
 |ptr d=>simp[Rows.uptoBulk]
 |slice elems spare=>simp[Rows.uptoBulk]
 |agg parts=>simp[Rows.uptoBulk]
 |iface t d=>simp[Rows.uptoBulk]
 |map entries=>simp[Rows.uptoBulk]
 |held h=>simp[Rows.uptoBulk]
theorem z2g8{τ:Ty}:∀(xs:List (Den τ))(es:List (DataW H)),xs.length=es.length→(∀(i:Nat) x e,xs[i]?=some x→es[i]?=some e→BKS (enc τ x) (Rows.uptoBulk e- 1))→BKL τ xs (Rows.uptoBulkAll es)
 |[],[],_,_=>.nil _ _
 |x::xs,e::es,h,hh=>.cons _ _ _ _ _ _ (hh 0 x e rfl rfl) (z2g8 xs es (by grind) fun i x e hx he=>hh (i+1) x e (by grind) (by grind)) (by simp[z2kg,Rows.uptoBulkAll])
 |[],_::_,h,_=>by grind
 |_::_,[],h,_=>by grind
theorem z116{d:DataW H}{e:TypeId}{k:Nat}:∀{l:List (DataW H)},d∈l→k∈d.weights P e→k∈DataW.weightsAll P e l
 |x::l,hd,hk=>by
  rw[DataW.weightsAll];rcases yg.1 hd with rfl|hd
  ·grind
  ·exact yc.2 (.inr (z116 hd hk))
theorem z1f4{α β:Type}{R:α→β→Prop}:∀{l:List α}{r:List β},l.length=r.length→(∀(i:Nat)(x:α)(y:β),l[i]?=some x→r[i]?=some y→R x y)→All2 R l r
 |[],[],_,_=>trivial
 |x::l,y::r,h,hh=>⟨hh 0 x y rfl rfl,z1f4 (by grind) fun i a b ha hb=>hh (i+1) a b (by grind) (by grind)⟩
 |[],_::_,h,_=>by grind
 |_::_,[],h,_=>by grind
def StA(w:World)(b _o:Nat):Prop:=b<w.heap.size
def z2pn(P:Program)(tab:TypeId→TI Un):Prop:=∀t e τ b,tab t=.sl e τ b→∃k,lay P tab k e=some (fls τ)
def z2g9:Prop:=∀(τ:Ty)(vs:List (V Un)),vs.map flOf=(fls τ).map some→∃x,dec τ vs=some x
theorem All2.at{α β:Type}{R:α→β→Prop}:∀{l:List α}{r:List β},All2 R l r→∀(i:Nat)(x:α)(y:β),l[i]?=some x→r[i]?=some y→R x y
 |[],[],_,i,x,y,hx,_=>by grind
 |a::l,b::r,h,i,x,y,hx,hy=>by
  cases i with
  |zero=>simp at hx hy;subst hx;subst hy;exact h.1
  |succ i=>exact All2.at h.2 i x y hx hy
theorem z1f5{tab:TypeId→TI Un}{byt:Ty→Nat}{k n:Nat}{cs:List Value}
  (IH:∀t cs(x:DataW H×List MemPlace) fl,DataW.trod enc' P w 0 spare held n t cs=some x→lay P tab k t=some fl→∃vs,All2 (VRel En (StA w) w) cs vs∧vs.map flOf=fl.map some∧((∀q∈x.1.weights P t,q≤reachBytes)→∀v∈vs,VB byt v)∧BKS vs (Rows.uptoBulk x.1- 1)):
  ∀(fs:List Field)(ys:List (DataW H×List MemPlace))(off:Nat)(fl:List Fl),z1ms P (lay P tab k) fs off=some fl→All2 (fun f y=>DataW.trod enc' P w 0 spare held n f.type ((cs.drop f.offset).take (P.cellsOf f.type))=some y) fs ys→
   off+fl.length=cs.length→∃vs,All2 (VRel En (StA w) w) (cs.drop off) vs∧vs.map flOf=fl.map some∧((∀q∈DataW.weightsEach P (fs.map (·.type)) (ys.map (·.1)),q≤reachBytes)→∀v∈vs,VB byt v)∧BKS vs (Rows.uptoBulkAll (ys.map (·.1)))
 |[],ys,off,fl,h,_,hl=>by
  simp[z1ms]at h;subst h;refine⟨[],?_,rfl,fun _ v hv=>by grind,.nil _⟩;rw[y23 (by grind)];trivial
 |f::r,[],off,fl,h,hf,hl=>hf.elim
 |f::r,y::ys,off,fl,h,hf,hl=>by
  simp only[z1ms]at h;split at h
  ·rename_i l hlf;split at h
   ·rename_i hc;rw[Option.map_eq_some_iff]at h;obtain⟨fl',h1,rfl⟩:=h;obtain⟨hy,hf2⟩:=hf;rw[hc.1,←hc.2]at hy;obtain⟨vs1,a1,a2,a3,a4⟩:=IH _ _ _ _ hy hlf;obtain⟨vs2,b1,b2,b3,b4⟩:=z1f5 IH r ys (off+l.length) fl' h1 hf2 (by grind);refine⟨vs1++vs2,?_,by grind,fun hq v hv=>?_,(a4.append b4).mono (by simp[yy,Rows.uptoBulkAll])⟩
    ·rw[←y1m l.length (cs.drop off),y3m];exact a1.append b1
    ·rcases yc.1 hv with hv|hv
     ·exact a3 (fun q hh=>hq q (yc.2 (.inl hh))) v hv
     ·exact b3 (fun q hh=>hq q (yc.2 (.inr hh))) v hv
   grind
  grind
theorem z1mt{byt:Ty→Nat}{n:Nat}{cs:List Value}{e:TypeId}{l:List Fl}
  (IH:∀cs(x:DataW H×List MemPlace),DataW.trod enc' P w 0 spare held n e cs=some x→∃vs,All2 (VRel En (StA w) w) cs vs∧vs.map flOf=l.map some∧((∀q∈x.1.weights P e,q≤reachBytes)→∀v∈vs,VB byt v)∧BKS vs (Rows.uptoBulk x.1- 1))(hle:l.length=P.cellsOf e):
  ∀(m:Nat)(ys:List (DataW H×List MemPlace))(off:Nat),ys.length=m→(∀i,i<m→DataW.trod enc' P w 0 spare held n e ((cs.drop (off+i*P.cellsOf e)).take (P.cellsOf e))=ys[i]?)→
   off+m*l.length=cs.length→∃vs,All2 (VRel En (StA w) w) (cs.drop off) vs∧vs.map flOf=((List.replicate m l).flatten).map some∧((∀q∈DataW.weightsAll P e (ys.map (·.1)),q≤reachBytes)→∀v∈vs,VB byt v)∧BKS vs (Rows.uptoBulkAll (ys.map (·.1)))
 |0,ys,off,_,_,hl=>by
  refine⟨[],?_,rfl,fun _ v hv=>by grind,.nil _⟩;rw[y23 (by omega)];trivial
 |m+1,[],off,h,_,_=>by grind
 |m+1,y::ys,off,hlen,hf,hl=>by
  have h0:=hf 0 (by omega);obtain⟨vs1,a1,a2,a3,a4⟩:=IH _ _ h0
  obtain⟨vs2,b1,b2,b3,b4⟩:=z1mt IH hle m ys (off+l.length) (by grind) (fun i hi=>by
   have:=hf (i+1) (by omega);rw[y4u]at this
   rw[←this,hle];congr 3;grind) (by grind)
  refine⟨vs1++vs2,?_,by grind,fun hq v hv=>?_,(a4.append b4).mono (by simp[yy,Rows.uptoBulkAll])⟩
  ·have e1:=y1m l.length (cs.drop off);rw[y3m]at e1;rw[←e1];have a1':All2 (VRel En (StA w) w) ((cs.drop off).take l.length) vs1:=by grind
   exact a1'.append b1
  ·rcases yc.1 hv with hv|hv
   ·exact a3 (fun q hh=>hq q (yc.2 (.inl hh))) v hv
   ·exact b3 (fun q hh=>hq q (yc.2 (.inr hh))) v hv
theorem z2ga{a:Addr}{n:Nat}{cs:List Value}(h:w.cells? 0 a n=some cs):cs.length=n∧∀j,j<n→w.cell? (a.add j)=cs[j]?:=by
 refine⟨by simpa using mapM_some_length h,fun j hj=>?_⟩;exact mapM_some_get h j j (by grind)
theorem z2gb{tab:TypeId→TI Un}{byt:Ty→Nat}(hbyt:∀t e τ b,tab t=.sl e τ b→P.bytesOf e=byt τ)(hlay:z2pn P tab)(hdec:z2g9)(hsz:∀τ,0<sz τ)(hcell:∀t e τ b,tab t=.sl e τ b→P.cellsOf e=sz τ):
  ∀(n:Nat)(t:TypeId)(cs:List Value)(x:DataW H×List MemPlace)(k:Nat)(fl:List Fl),DataW.trod enc' P w 0 spare held n t cs=some x→lay P tab k t=some fl→
   ∃vs,All2 (VRel En (StA w) w) cs vs∧vs.map flOf=fl.map some∧((∀q∈x.1.weights P t,q≤reachBytes)→∀v∈vs,VB byt v)∧BKS vs (Rows.uptoBulk x.1- 1):=by
 intro n
 induction n with
 |zero=>simp[cs,DataW.trod]
 |succ n IH=>
  intro t cs x k fl h hl;cases k with
  |zero=>grind[lay]
  |succ k=>
   simp only[lay]at hl;split at hl
   ·rename_i hu;obtain⟨m,rfl,-,hw⟩:=DataW.trod_int hu h;simp at hl;subst hl;refine⟨[ci m],⟨.s _ ?_,trivial⟩,rfl,fun _ v hv=>by rw[yi]at hv;subst hv;exact .s _,.one _ _ (fun _ e=>by grind)⟩;simp_all[Lit.wf,oneC]
   ·rename_i kd hne hu;obtain⟨m,rfl,-,hw⟩:=DataW.trod_int hu h;simp at hl;subst hl;refine⟨[.s (.int kd m)],⟨.s _ ?_,trivial⟩,?_,fun _ v hv=>by rw[yi]at hv;subst hv;exact .s _,.one _ _ (fun _ e=>by grind)⟩
    ·simp_all[Lit.wf,oneC]
    ·cases kd<;>first|rfl|grind
   ·rename_i m e hu;split at hl
    ·rename_i l hle;split at hl
     ·rename_i hc;simp only[y8]at hl;subst hl;obtain⟨xs,n',hn',hx0,g1,g2,g3⟩:=DataW.trod_array hu h;obtain rfl:n'=n:=by omega
      obtain⟨vs,b1,b2,b3,b4⟩:=z1mt (byt:=byt) (cs:=cs) (e:=e) (l:=l) (fun cs x hx=>IH _ _ _ _ _ hx hle) hc.1 m xs 0 g2 (fun i hi=>by grind) (by omega);grind[Rows.uptoBulk,DataW.weights]
     grind
    grind
   ·rename_i hu;simp at hl;subst hl;obtain⟨b,rfl⟩:∃b,cs=[.bool b]:=by
     unfold DataW.trod at h;grind
    exact⟨[cb b],⟨.s _ rfl,trivial⟩,rfl,fun _ v hv=>by rw[yi]at hv;subst hv;exact .s _,.one _ _ (fun _ e=>by grind)⟩
   ·rename_i hu;simp at hl;subst hl;obtain⟨s,rfl,hs,hbk⟩:∃s:ByteArray,cs=[.string s]∧s.size≤maxLen∧s.size≤Rows.uptoBulk x.1- 1:=by
     unfold DataW.trod at h;rw[hu]at h;split at h<;>first|(rename_i s _;simp at h;exact⟨_,rfl,h.1,by rw[←h.2];simp[Rows.uptoBulk]⟩)|simp_all
    exact⟨[B.cs s],⟨.s _ (decide_eq_true hs),trivial⟩,rfl,fun _ v hv=>by rw[yi]at hv;subst hv;exact .s _,.one _ _ (fun b e=>by grind)⟩
   ·rename_i e hu;split at hl
    ·rename_i e' τ b ht;split at hl
     ·rename_i he;subst he;simp at hl;subst hl;rcases DataW.trod_slice hu h with⟨rfl,-⟩|⟨a,len,cap,elems,rest,m,hm,rfl,hx0,-,h1,h2,h3,h4,-,-⟩
      ·exact⟨[.dat (U:=Un) τ []],⟨.nil _ _ _,trivial⟩,rfl,fun _ v hv=>by rw[yi]at hv;subst hv;exact .dat τ [] (by simp) (by simp),.none _ _⟩
      ·obtain rfl:m=n:=by omega
       obtain⟨ke,hke⟩:=hlay t e' τ b ht;have hc:=hcell t e' τ b ht;have hz:=hsz τ;have key:∀i,i<len→∃(x':Den τ)(cs:List Value),All2 (VRel En (StA w) w) cs (enc τ x')∧cs.length=sz τ∧(∀j,j<sz τ→w.cell? ((a.add (i*sz τ)).add j)=cs[j]?)∧((∀q∈x.1.weights P t,q≤reachBytes)→∀d∈enc τ x',VB byt d)∧(∀e,elems[i]?=some e→BKS (enc τ x') (Rows.uptoBulk e.1- 1)):=by
        intro i hi;have:=h4 i hi;rw[hc]at this;have he:elems[i]?=some elems[i]:=ya (by omega);rw[he,y7]at this;obtain⟨ci,g1,g2⟩:=this;obtain⟨vs,g3,g4,g8,g9⟩:=IH _ _ _ _ _ g2 hke;obtain⟨x',hx⟩:=hdec τ vs g4;obtain⟨g5,g6⟩:=z2ga g1;have hbk:=zdx τ vs x' hx;refine⟨x',ci,by grind,g5,g6,fun hq d hd=>?_,fun e' he'=>by grind⟩;rw[hbk]at hd;refine g8 (fun q hh=>hq q ?_) d hd;rw[hx0];simp only[DataW.weights,hu];refine y12 _ (yc.2 (.inl (z116 (y2a.2 ⟨_,y1z (by omega:i<elems.length),rfl⟩) hh)))
       cases len with
       |zero=>exact⟨[.dat (U:=Un) τ []],⟨.nil _ _ _,trivial⟩,rfl,fun _ v hv=>by rw[yi]at hv;subst hv;exact .dat τ [] (by simp) (by simp),.none _ _⟩
       |succ len=>
        obtain⟨blk,off,spot⟩:=a;have hspot:spot=none:=by
         obtain⟨x',cs,-,g1,g2,-,-⟩:=key 0 (by omega);have:=g2 0 hz;rw[ya (by omega)]at this;simp[Addr.add,World.cell?]at this;split at this
         all_goals simp_all
        subst hspot;have hadd:∀p q:Nat,((⟨blk,off,none⟩:Addr).add p).add q=⟨blk,off+p+q,none⟩:=by
         grind[Addr.add]
        let f:Nat→Den τ:=fun i=>if hi:i<len+1 then Classical.choose (key i hi)else dflt τ;let xs:List (Den τ):=(List.range (len+1)).map f;have hxl:xs.length=len+1:=by grind
        have hVB:(∀q∈x.1.weights P t,q≤reachBytes)→VB byt (.dat (U:=Un) τ xs):=by
         intro hq;refine .dat τ xs ?_ ?_
         ·grind[DataW.weights,List.length_map,List.mem_cons_self,Nat.le_trans,Nat.mul_le_mul_right]
         ·intro y hy d hd;obtain⟨i,hi,rfl⟩:=y4b hy;have hi':i<len+1:=by omega
          have hxi:xs[i]=Classical.choose (key i hi'):=by
           simp only[xs,y3p,List.getElem_range,f];grind
          obtain⟨cs,-,-,-,g3,-⟩:=Classical.choose_spec (key i hi');grind
        have hBK:BKL τ xs (Rows.uptoBulkAll (elems.map (·.1))):=by
         refine z2g8 xs _ (by grind) fun i x' e hx' he=>?_;grind
        refine⟨[.dat (U:=Un) τ xs],⟨?_,trivial⟩,rfl,fun hq v hv=>by grind,.cons _ _ (Rows.uptoBulkAll (elems.map (·.1))) 0 _ (.dat _ _ _ hBK) (.nil _) (by simp_all[Rows.uptoBulk])⟩;have hrel:VRel En (StA w) w (.slice (some ⟨blk,off,none⟩) xs.length cap) (.dat (U:=Un) τ xs):=by
         refine .dat (U:=Un) τ xs blk off cap (fun i j=>(w.cell? ⟨blk,off+i*sz τ+j,none⟩).getD .nilIface) ⟨by omega,by rw[hxl];exact y1c h1 h2⟩ ?_ ?_
         ·intro i j hi hj;obtain⟨cs,-,g1,g2,-,-⟩:=Classical.choose_spec (key i (by omega));obtain⟨v,hv⟩:∃v,cs[j]?=some v:=⟨_,ya (by grind)⟩;have:=g2 j hj;rw[hadd,hv]at this;have this':w.cell? ⟨blk,off+i*sz τ+j,none⟩=some v:=this;refine⟨?_,?_⟩
          ·exact z6j this'
          grind
         ·intro i hi j d hd;have hi':i<len+1:=by omega
          have hxi:xs[i]=Classical.choose (key i hi'):=by
           simp only[xs,y3p,List.getElem_range,f];rw[dif_pos hi']
          obtain⟨cs,g0,g1,g2,-,-⟩:=Classical.choose_spec (key i hi');rw[hxi]at hd;have hj:j<sz τ:=by
           have:=(yl.1 hd).1;have hh:=zgx τ (Classical.choose (key i hi'));exact hh▸this
          obtain⟨v,hv⟩:∃v,cs[j]?=some v:=⟨_,ya (by rw[g1];exact hj)⟩;have:=g2 j hj;rw[hadd,hv]at this;have this':w.cell? ⟨blk,off+i*sz τ+j,none⟩=some v:=this;show VRel En (StA w) w ((w.cell? ⟨blk,off+i*sz τ+j,none⟩).getD .nilIface) d;rw[this'];exact All2.at g0 j _ _ hv hd
        grind
     grind
    grind
   ·rename_i fs hu;split at hl
    ·rename_i l hfs;split at hl
     ·rename_i hlen;simp at hl;subst hl;obtain⟨xs,m,hm,hx0,g1,g2,g3⟩:=DataW.trod_struct hu h;obtain rfl:m=n:=by omega
      have:=z1f5 (tab:=tab) (byt:=byt) (k:=k) (n:=m) (cs:=cs) (fun t cs x fl hx hy=>IH t cs x k fl hx hy) fs.toList xs 0 l hfs (z1f4 (by simpa using g2.symm) (fun i f y hi hy=>by
       have:=g3 i f (by simpa using hi)
       rw[hy]at this;exact this)) (by omega)
      obtain⟨vs,b1,b2,b3,b4⟩:=this;refine⟨vs,by simpa using b1,b2,fun hq=>b3 (fun q hh=>hq q ?_),b4.mono (by rw[hx0];simp only[Rows.uptoBulk];omega)⟩;rw[hx0];simp only[DataW.weights,hu];exact hh
     ·simp at hl
    ·simp at hl
   grind
end
end Go.Proofs.YtjfpbchdcbhfgaaGreat.B
namespace Go.Proofs.YtjfpbchdcbhfgaaGreat.B
open Go Go.RowKit
set_option maxRecDepth 100000
noncomputable section
attribute [local irreducible] awp ctxK zw z1a retQ z1m
def inN(n:Int):Bool:=decide (-1000000000000000≤n∧n≤1000000000000000)
def z117(s:ByteArray):Bool:=s.toList.all (fun b=>decide (32≤b.toNat∧b.toNat≤126))&&decide (s.size≤100)
def z7x(v:Val):Bool:=
 if v.kind=0 then decide (v.n=0)&&decide (v.s.size=0)
 else if v.kind=1 then decide (v.n=0∨v.n=1)&&decide (v.s.size=0)
 else if v.kind=2 then inN v.n&&decide (v.s.size=0)
 else if v.kind=3 then decide (v.n=0)&&z117 v.s
 else false
def cmpI(a b:Int):Int:=if a<b then-1 else if a>b then 1 else 0
def cmpL:List UInt8→List UInt8→Int
 |[],[]=>0
 |[],_::_=>-1
 |_::_,[]=>1
 |a::l,b::r=>if a=b then cmpL l r else cmpI a.toNat b.toNat
def cmpS(a b:ByteArray):Int:=cmpL a.toList b.toList
def ordV(a b:Val):Int:=if a.kind=b.kind then(if a.n=b.n then cmpS a.s b.s else cmpI a.n b.n)else cmpI a.kind b.kind
def ordR:List Val→List Val→Int
 |[],[]=>0
 |[],_::_=>-1
 |_::_,[]=>1
 |a::l,b::r=>if ordV a b=0 then ordR l r else ordV a b
theorem z39(s:ByteArray):s.toList.length=s.size:=by rw[ByteArray.toList_eq,y1n];rfl
theorem z2cn(s:ByteArray):s.toList=[]↔s.size=0:=by grind[z39]
theorem z231(s:ByteArray):(s.toList==(⟨#[]⟩:ByteArray).toList)=decide (s.size=0):=by
 have h:(⟨#[]⟩:ByteArray).toList=[]:=by simp
 grind[z2cn,decide_eq_true,decide_eq_false]
theorem z1x4{a b:ByteArray}(h:a.toList=b.toList):a=b:=by
 rw[ByteArray.toList_eq,ByteArray.toList_eq]at h;cases a;simp_all
theorem z2co(s:ByteArray)(i:Nat)(h:i<s.size):(Utf8.decode s i).1=(s.toList.getD i 0).toNat∧(Utf8.decode s i).2=1∨128≤(s.toList.getD i 0).toNat∧128≤(Utf8.decode s i).1:=by
 have hg:s.get! i=s.toList.getD i 0:=by
  have hb:=z1we s i h;rw[getElem?_pos s i h]at hb;simp only[y8]at hb;rw[←hb];show s.data[i]! =s.data[i];simp_all
 unfold Utf8.decode;simp only[y1t,hg];generalize(s.toList.getD i 0).toNat=b;by_cases hb:b<0x80
 ·grind
 ·grind[Utf8.runeError]
theorem z18n{a b:Int}:cmpI a b=0↔a=b:=by
 unfold cmpI;omega
theorem z1x5:∀{a b:List UInt8},cmpL a b=0↔a=b
 |[],[]=>by simp[cmpL]
 |[],_::_=>by simp[cmpL]
 |_::_,[]=>by simp[cmpL]
 |a::l,b::r=>by
  simp only[cmpL];split
  ·rename_i h;subst h;rw[z1x5];simp
  simp_all[z18n,absurd,UInt8.toNat_inj,Int.ofNat_inj]
theorem z2gc{a b:ByteArray}:cmpS a b=0↔a=b:=by
 grind[cmpS,z1x5,z1x4]
theorem ordV_zero{a b:Val}:ordV a b=0↔a=b:=by
 cases a;cases b;grind[ordV,z2gc,z18n]
theorem ordR_zero:∀{a b:List Val},ordR a b=0↔a=b
 |[],[]=>by simp[ordR]
 |[],_::_=>by simp[ordR]
 |_::_,[]=>by simp[ordR]
 |a::l,b::r=>by
  simp only[ordR];split
  ·rename_i h;rw[ordV_zero]at h;subst h;rw[ordR_zero];simp
  ·rename_i h;constructor
   ·intro e;exact absurd e h
   ·intro e;simp at e;rw[e.1]at h;exact absurd (ordV_zero.2 rfl) h
end
end Go.Proofs.YtjfpbchdcbhfgaaGreat.B
namespace Go.Proofs.YtjfpbchdcbhfgaaGreat.B
open Go Go.RowKit
set_option maxRecDepth 100000
noncomputable section
attribute [local irreducible] awp ctxK zw z1a retQ z1m
mutual
def Term.ht:Term→Nat
 | .mk _ _ _ _ _ kids sub _=>max (htTs kids) (htRs sub)+1
def htTs:List Term→Nat
 |[]=>0
 |t::r=>max t.ht (htTs r)
def Agg.ht:Agg→Nat
 | .mk _ _ t=>htTs t+1
def htAs:List Agg→Nat
 |[]=>0
 |t::r=>max t.ht (htAs r)
def Rel.ht:Rel→Nat
 | .mk _ _ _ kids terms aggs _ _ _ _ _=>max (htRs kids) (max (htTs terms) (htAs aggs))+1
def htRs:List Rel→Nat
 |[]=>0
 |t::r=>max t.ht (htRs r)
end
theorem zc1{t:Term}:∀{l:List Term},t∈l→t.ht≤htTs l
 |x::l,h=>by
  simp only[htTs];rcases yg.1 h with rfl|h
  ·omega
  ·have:=zc1 h;omega
theorem z1iu{t:Rel}:∀{l:List Rel},t∈l→t.ht≤htRs l
 |x::l,h=>by
  simp only[htRs];rcases yg.1 h with rfl|h
  ·omega
  ·have:=z1iu h;omega
theorem z13w{t:Agg}:∀{l:List Agg},t∈l→t.ht≤htAs l
 |x::l,h=>by
  simp only[htAs];rcases yg.1 h with rfl|h
  ·omega
  ·have:=z13w h;omega
theorem Term.ht_kid{t k:Term}(h:k∈t.kids):k.ht<t.ht:=by
 cases t;simp at h;simp only[Term.ht];have:=zc1 h;omega
theorem Term.ht_sub{t:Term}{k:Rel}(h:k∈t.sub):k.ht<t.ht:=by
 cases t;simp at h;simp only[Term.ht];have:=z1iu h;omega
theorem Rel.ht_kid{r k:Rel}(h:k∈r.kids):k.ht<r.ht:=by
 cases r;simp at h;simp only[Rel.ht];have:=z1iu h;omega
theorem Rel.ht_agg{r:Rel}{k:Agg}(h:k∈r.aggs):k.ht<r.ht:=by
 cases r;simp at h;simp only[Rel.ht];have:=z13w h;omega
theorem z8r{α:Type}{l:List α}{i:Nat}{d:α}(h:i<l.length):l.getD i d∈l:=by
 grind
theorem Term.ht_kidD{t:Term}{i:Nat}(h:i<t.kids.length):(t.kids.getD i zb).ht<t.ht:=Term.ht_kid (z8r h)
end
end Go.Proofs.YtjfpbchdcbhfgaaGreat.B
namespace Go.Proofs.YtjfpbchdcbhfgaaGreat.B
open Go Go.RowKit
set_option maxRecDepth 100000
noncomputable section
attribute [local irreducible] awp ctxK zw z1a retQ z1m awf ctxF z1l
mutual
def Term.sz:Term→Nat
 | .mk _ _ _ _ _ kids sub _=>szTs kids+szRs sub+1
def szTs:List Term→Nat
 |[]=>0
 |t::r=>t.sz+szTs r
def Agg.sz:Agg→Nat
 | .mk _ _ t=>szTs t+1
def szAs:List Agg→Nat
 |[]=>0
 |t::r=>t.sz+szAs r
def Rel.sz:Rel→Nat
 | .mk _ _ _ kids terms aggs _ _ _ _ rows=>szRs kids+szTs terms+szAs aggs+rows.length+1
def szRs:List Rel→Nat
 |[]=>0
 |t::r=>t.sz+szRs r
end
theorem Term.sz_eq(t:Term):t.sz=szTs t.kids+szRs t.sub+1:=by cases t;rfl
theorem Agg.sz_eq(a:Agg):a.sz=szTs a.t+1:=by cases a;rfl
theorem Rel.sz_eq(r:Rel):r.sz=szRs r.kids+szTs r.terms+szAs r.aggs+r.rows.length+1:=by cases r;rfl
theorem zkb{t:Term}:∀{l:List Term},t∈l→t.sz≤szTs l
 |x::l,h=>by
  simp only[szTs];rcases yg.1 h with rfl|h
  ·omega
  ·have:=zkb h;omega
theorem z1iv{t:Rel}:∀{l:List Rel},t∈l→t.sz≤szRs l
 |x::l,h=>by
  simp only[szRs];rcases yg.1 h with rfl|h
  ·omega
  ·have:=z1iv h;omega
theorem zoc{t:Agg}:∀{l:List Agg},t∈l→t.sz≤szAs l
 |x::l,h=>by
  simp only[szAs];rcases yg.1 h with rfl|h
  ·omega
  ·have:=zoc h;omega
theorem z60:∀l:List Term,l.length≤szTs l
 |[]=>yb _
 |x::l=>by have:=z60 l;have h:=x.sz_eq;grind[szTs,List.length_cons]
theorem z13x:∀l:List Rel,l.length≤szRs l
 |[]=>yb _
 |x::l=>by have:=z13x l;have h:=x.sz_eq;grind[szRs,List.length_cons]
theorem z1iw:∀l:List Agg,l.length≤szAs l
 |[]=>yb _
 |x::l=>by have:=z1iw l;have h:=x.sz_eq;grind[szAs,List.length_cons]
theorem zzc:∀(a b:List Term),szTs (a++b)=szTs a+szTs b
 |[],b=>by simp[szTs]
 |x::a,b=>by simp only[y15,szTs,zzc a b];omega
end
end Go.Proofs.YtjfpbchdcbhfgaaGreat.B
namespace Go.Proofs.YtjfpbchdcbhfgaaGreat.B
open Go Go.RowKit
set_option linter.unusedVariables false
theorem BKS.cons_inv{v:V Un}{vs:List (V Un)}{n:Nat}(h:BKS (v::vs) n):∃a b,BK v a∧BKS vs b∧a+b≤n:=by
 cases h with
 |cons _ _ a b _ h1 h2 hn=>exact⟨a,b,h1,h2,hn⟩
theorem BKL.cons_inv{τ:Ty}{x:Den τ}{xs:List (Den τ)}{n:Nat}(h:BKL τ (x::xs) n):∃a b,BKS (enc τ x) a∧BKL τ xs b∧a+1+b≤n:=by
 cases h with
 |cons _ _ _ a b _ h1 h2 hn=>exact⟨a,b,h1,h2,hn⟩
theorem BK.dat_inv{τ:Ty}{xs:List (Den τ)}{n:Nat}(h:BK (.dat (U:=Un) τ xs) n):BKL τ xs n:=by
 cases h with
 |dat _ _ _ h=>exact h
theorem BKL.len{τ:Ty}:∀{xs:List (Den τ)}{n:Nat},BKL τ xs n→xs.length≤n
 |[],_,_=>yb _
 |x::xs,n,h=>by
  obtain⟨a,b,_,h2,hn⟩:=h.cons_inv;have:=BKL.len h2;rw[yt];omega
mutual
theorem bkT:∀(t:Term)(n:Nat),BKS (enc .term t) n→t.sz≤n+1
 | .mk op v depth at_ name kids sub type,n,h=>by
  obtain⟨_,_,_,h,_⟩:=h.cons_inv;obtain⟨_,_,_,h,_⟩:=h.cons_inv;obtain⟨_,_,_,h,_⟩:=h.cons_inv;obtain⟨_,_,_,h,_⟩:=h.cons_inv;obtain⟨_,_,_,h,_⟩:=h.cons_inv;obtain⟨_,_,_,h,_⟩:=h.cons_inv;obtain⟨_,_,_,h,_⟩:=h.cons_inv;obtain⟨_,_,k1,h,_⟩:=h.cons_inv;obtain⟨_,_,k2,_,_⟩:=h.cons_inv;have e1:=bkTs kids _ k1.dat_inv;have e2:=bkRs sub _ k2.dat_inv;simp only[Term.sz];omega
theorem bkTs:∀(l:List Term)(n:Nat),BKL .term l n→szTs l≤n
 |[],_,_=>yb _
 |t::r,n,h=>by
  obtain⟨_,_,h1,h2,_⟩:=h.cons_inv;have e1:=bkT t _ h1;have e2:=bkTs r _ h2;simp only[szTs];omega
theorem bkA:∀(a:Agg)(n:Nat),BKS (enc .agg a) n→a.sz≤n+1
 | .mk name distinct t,n,h=>by
  obtain⟨_,_,_,h,_⟩:=h.cons_inv;obtain⟨_,_,_,h,_⟩:=h.cons_inv;obtain⟨_,_,k1,_,_⟩:=h.cons_inv;have e1:=bkTs t _ k1.dat_inv;simp only[Agg.sz];omega
theorem bkAs:∀(l:List Agg)(n:Nat),BKL .agg l n→szAs l≤n
 |[],_,_=>yb _
 |t::r,n,h=>by
  obtain⟨_,_,h1,h2,_⟩:=h.cons_inv;have e1:=bkA t _ h1;have e2:=bkAs r _ h2;simp only[szAs];omega
theorem bkR:∀(r:Rel)(n:Nat),BKS (enc .rel r) n→r.sz≤n+1
 | .mk op table cols kids terms aggs keys limit skip all rows,n,h=>by
  obtain⟨_,_,_,h,_⟩:=h.cons_inv;obtain⟨_,_,_,h,_⟩:=h.cons_inv;obtain⟨_,_,_,h,_⟩:=h.cons_inv;obtain⟨_,_,k1,h,_⟩:=h.cons_inv;obtain⟨_,_,k2,h,_⟩:=h.cons_inv;obtain⟨_,_,k3,h,_⟩:=h.cons_inv;obtain⟨_,_,_,h,_⟩:=h.cons_inv;obtain⟨_,_,_,h,_⟩:=h.cons_inv;obtain⟨_,_,_,h,_⟩:=h.cons_inv;obtain⟨_,_,_,h,_⟩:=h.cons_inv;obtain⟨_,_,k4,_,_⟩:=h.cons_inv;have e1:=bkRs kids _ k1.dat_inv;have e2:=bkTs terms _ k2.dat_inv;have e3:=bkAs aggs _ k3.dat_inv;have e4:(rows:List (List Val)).length≤_:=(BK.dat_inv k4).len;simp only[Rel.sz];omega
theorem bkRs:∀(l:List Rel)(n:Nat),BKL .rel l n→szRs l≤n
 |[],_,_=>yb _
 |t::r,n,h=>by
  obtain⟨_,_,h1,h2,_⟩:=h.cons_inv;have e1:=bkR t _ h1;have e2:=bkRs r _ h2;simp only[szRs];omega
end
end Go.Proofs.YtjfpbchdcbhfgaaGreat.B
namespace Go.Proofs.YtjfpbchdcbhfgaaGreat.B
open Go Go.RowKit
set_option maxRecDepth 100000
noncomputable section
attribute [local irreducible] awp ctxK zw z1a retQ z1m awf ctxF z1l
def z1f6:Mc Un:=mcF_ [] [] [] [] []
def zzd(r:Val):RF Un:=([.agg (encC Ty.val r)],[])
def z286:Nat→NS:=nsF_ [] false
def z18o(n:Int):Option (RF Un):=fnF_ z1f6 z286 Tryz.f32 0 [.d] [.d (.v (.s (.int .i64 n)))]
theorem z232(n:Int):z18o n=some (zzd ({kind:=(2:Int),n:=n,s:=(ByteArray.mk #[])})):=by kernel_rfl
def zh(n:Int):Val:=
 ({kind:=(2:Int),n:=n,s:=(ByteArray.mk #[])})
theorem z233(n:Int):z18o n=some (zzd (zh n)):=by simp[z232,zh,z8]
def zer:FnC Un:=fnF1 (dI .i64) fun n=>([],zzd (zh n))
theorem zfs:FnOK 32 zer:=fnK1 z17 (M:=z1f6) rfl trivial trivial trivial trivial trivial Tryz.func32 fun n=>GiF.r fun _ _=>z233 n
end
end Go.Proofs.YtjfpbchdcbhfgaaGreat.B
namespace Go.Proofs.YtjfpbchdcbhfgaaGreat.B
open Go Go.RowKit
set_option maxRecDepth 100000
noncomputable section
attribute [local irreducible] awp ctxK zw z1a retQ z1m
def zv8(r:Bool):List (A Un):=[.c (.s (.bool r))]
def zv9(_r:Bool):List (Ob Un):=[]
theorem z2gd(n:Int)(K:List (A Un)→List (Ob Un)→Prop):
  awp z1f6 z286 (zf Tryz.f211) (z2h Tryz.f211.ntmps 0 [.d (.v (.s (.int .i64 n)))]) (retQ z1f6 Tryz.f211.results.toList [.d] K)=
(cnd (decide (n≥(-1000000000000000:Int)))
 (K (zv8 (decide (n≤(1000000000000000:Int)))) (zv9 (decide (n≤(1000000000000000:Int)))))
 (K (zv8 (false)) (zv9 (false)))):=by kernel_rfl
def z18p(n:Int):Option (Bool):=
  if(decide (n≥(-1000000000000000:Int)))=true then
   some (decide (n≤(1000000000000000:Int)))
  else
   some (false)
theorem z2cp{n:Int}{r:Bool}(h:z18p n=some r):Runs (awp z1f6 z286 (zf Tryz.f211) (z2h Tryz.f211.ntmps 0 [.d (.v (.s (.int .i64 n)))]) (retQ z1f6 Tryz.f211.results.toList [.d] fun rs os=>rs=zv8 r∧os=zv9 r)):=by
 constructor;rw[z2gd n (fun rs os=>rs=zv8 r∧os=zv9 r)];rcases z13 h with⟨c1,h2⟩|⟨c1,h2⟩
 ·cases h2;exact(z1d c1 ⟨rfl,rfl⟩)
 ·cases h2;exact(zx (zl c1) ⟨rfl,rfl⟩)
def z1o(n:Int):Bool:=
  if(decide (n≥(-1000000000000000:Int)))=true then
   (decide (n≤(1000000000000000:Int)))
  else
   (false)
theorem z2ge(n:Int):z18p n=some (z1o n):=by grind[z18p,z1o]
def zc2:FnC Un:=fnF1 (dI .i64) fun n=>([],zv8 (z1o n),zv9 (z1o n))
theorem zbf:FnOK 211 zc2:=fnK1 z17 (M:=z1f6) rfl trivial trivial trivial trivial trivial Tryz.func211 fun n=>fun _ _=>z2cp (z2ge n)
@[simp] theorem zze(n:Int):z1o n=inN n:=by
 unfold z1o inN;by_cases h:n≥-1000000000000000
 ·rw[if_pos (decide_eq_true h)];simp;omega
 ·rw[if_neg (by simpa using h)];simp;omega
end
end Go.Proofs.YtjfpbchdcbhfgaaGreat.B
namespace Go.Proofs.YtjfpbchdcbhfgaaGreat.B
open Go Go.RowKit
set_option maxRecDepth 1000000
def isB1:Option (List Prop×List (D0 Un))→Bool
 |some ([],[.v (.s (.bool _))])=>true
 |_=>false
noncomputable def z2gf(p:Prop):Bool:=@decide p (Classical.propDecidable p)
theorem boolOf_iff{p:Prop}:z2gf p=true↔p:=@decide_eq_true_iff p (Classical.propDecidable p)
noncomputable def zes(φ:FV Un):Bool:=z2gf (∀c:Nat,c≤1114111→isB1 (φ [.v (.s (.int .i32 c))])=true)
def zgy(φ:FV Un)(c:Nat):Bool:=
 match φ [.v (.s (.int .i32 c))]with
 |some (_,[.v (.s (.bool b))])=>b
 |_=>false
theorem z1f7(φ:FV Un):zes φ=true↔∀c,c≤1114111→φ [.v (.s (.int .i32 (c:Nat)))]=some ([],[.v (.s (.bool (zgy φ c)))]):=by
 unfold zes;refine boolOf_iff.trans ?_;refine forall_congr' fun c=>forall_congr' fun _=>?_;unfold isB1 zgy;split
 ·rename_i b e;rw[e];simp
 ·rename_i hn;refine⟨fun h=>by simp at h,fun h=>absurd h ?_⟩;intro h;exact hn _ h
def z8j(p:Nat→Bool)(t:Bool)(s:ByteArray):Nat→Nat→Int
 |0,_=>-1
 |f+1,pos=>if pos<s.size then(if p (Utf8.decode s pos).1=t then(pos:Int)else z8j p t s f (pos+(Utf8.decode s pos).2))else-1
@[irreducible] def idxF(p:Nat→Bool)(t:Bool)(s:ByteArray):Int:=z8j p t s s.size 0
theorem z1f8(p:Nat→Bool)(t:Bool)(s:ByteArray)(f pos:Nat)(h:¬pos<s.size):z8j p t s f pos=-1:=by cases f<;>simp[z8j,h]
set_option maxHeartbeats 2000000 in
set_option maxRecDepth 1000000 in
theorem z1sx(g:Nat)(lb:Array Value)(hg:z32 Tryz.prog g)(p:Nat→Bool)(truth:Bool)(s:ByteArray)(w:World)
  (hp:∀(W:World)(x:Nat),x≤1114111→Below w.heap.size w W→Calls Tryz.prog g (#[.int .i32 (x:Int)]++lb) W fun e W'=>e=.returned (.bool (p x))∧Below W.heap.size W W'):
  Calls Tryz.prog 252 #[.string s,.func (.func g) #[] lb,.bool truth] w fun e w'=>e=.returned (.int .i64 (idxF p truth s))∧Below w.heap.size w w':=by
 have eg:∀args w,(callFunc g args).run Tryz.prog w=.ok (.enter g args) w:=by
  obtain⟨fn,c,h1,h2,h3⟩:=hg;exact enters_of h1 h3 h2
 unfold idxF
 go_enter Tryz.func252,Tryz.ntmps252
 go_wp2
 go_loopg [] s.size (fun gf wx=>∃pos:Nat,wx.heap[w.heap.size]?=some (.stringIter s pos)∧Below w.heap.size w wx∧z8j p truth s gf pos=z8j p truth s s.size 0∧s.size≤pos+gf)
 case atStart=>exact⟨0,World.iter_heap w s 0,(Below.refl _ w).alloc (y6 _) _,rfl,by omega⟩
 case round=>
  obtain⟨pos,hit,hbw,hleft,hfu⟩:=hrel;by_cases hps:pos<s.size
  ·obtain⟨g',rfl⟩:∃g',gk=g'+1:=⟨gk- 1,by omega⟩;have hnx:∀ty,(Instr.next (.pointer (some ⟨w.heap.size,0,none⟩)) true ty).run Tryz.prog wr=_:=fun ty=>Lib.run_next_any_at wr w.heap.size s pos ty hit hps;have hwd:=Lib.width_pos s pos;obtain⟨R,hR⟩:∃R,(Utf8.decode s pos).1=R:=⟨_,rfl⟩;obtain⟨K,hK⟩:∃K,(Utf8.decode s pos).2=K:=⟨_,rfl⟩;simp only[z8j,hps,if_true,hR,hK]at hleft;rw[hR,hK]at hnx;rw[hK]at hwd;have hit2:=Lib.iterAt_heap wr w.heap.size s pos (pos+K) hit;have hbw2:=Lib.below_iterAt hbw (k:=w.heap.size) (y6 _) s (pos+K);obtain⟨W,hWd⟩:∃W,wr.iterAt w.heap.size s (pos+K)=W:=⟨_,rfl⟩;rw[hWd]at hnx hit2 hbw2;have hlt:w.heap.size<W.heap.size:=(y2v.1 hit2).1;have cS:Calls Tryz.prog g (#[.int .i32 (R:Int)]++lb) W _:=hp W R (by rw[←hR];exact Lib.rune_le s pos) hbw2;clear hp;cases hsp:p R<;>cases truth<;>rw[hsp]at cS<;>simp only[hsp,if_true,y2g,Bool.true_eq_false,if_false]at hleft
   ·go_wp2_with (go_at_fn g;refine cS.mono ?_;rintro e W' ⟨rfl,hb⟩)
    go_ret;exact⟨by rw[←hleft]<;>rfl,hbw2.trans (hb.mono hbw2.size)⟩
   ·go_wp2_with (go_at_fn g;refine cS.mono ?_;rintro e W' ⟨rfl,hb⟩)
    go_roundg g'
    case measure=>omega
    case rel=>exact⟨pos+K,(hb.block _ hlt).trans hit2,hbw2.trans (hb.mono hbw2.size),hleft,by omega⟩
   ·go_wp2_with (go_at_fn g;refine cS.mono ?_;rintro e W' ⟨rfl,hb⟩)
    go_roundg g'
    case measure=>omega
    case rel=>exact⟨pos+K,(hb.block _ hlt).trans hit2,hbw2.trans (hb.mono hbw2.size),hleft,by omega⟩
   ·go_wp2_with (go_at_fn g;refine cS.mono ?_;rintro e W' ⟨rfl,hb⟩)
    go_ret;exact⟨by rw[←hleft]<;>rfl,hbw2.trans (hb.mono hbw2.size)⟩
  ·have hnx:∀ty,(Instr.next (.pointer (some ⟨w.heap.size,0,none⟩)) true ty).run Tryz.prog wr=_:=fun ty=>Lib.run_next_end_at wr w.heap.size s pos ty hit hps;rw[z1f8 p truth s gk pos hps]at hleft
   go_wp2
   go_ret;exact⟨by rw[←hleft]<;>rfl,hbw⟩
noncomputable def zfa:FnC Un:=fun args=>match args with
 |[x0,x1,x2]=>(dStr x0).bind fun s=>(dF x1).bind fun φ=>(dB x2).bind fun t=>some ([zes φ=true],[.c (.s (.int .i64 (idxF (zgy φ) t s)))],[])
 |_=>none
theorem z15o(p:Nat→Bool)(t:Bool)(s:ByteArray):∀(f pos:Nat),z8j p t s f pos=-1∨((pos:Int)≤z8j p t s f pos∧z8j p t s f pos<s.size)
 |0,_=>.inl rfl
 |f+1,pos=>by
  simp only[z8j];split
  ·split
   ·right;omega
   ·rcases z15o p t s f (pos+(Utf8.decode s pos).2)with h|h
    ·exact .inl h
    ·right;omega
  ·exact .inl rfl
theorem z2cq(p:Nat→Bool)(t:Bool)(s:ByteArray): -1≤idxF p t s∧idxF p t s≤s.size:=by
 unfold idxF;rcases z15o p t s s.size 0 with h|h<;>omega
theorem z13y:FnOK 252 zfa:=by
 intro args ob rs os h hob;unfold zfa at h;split at h
 ·rename_i x0 x1 x2;simp only[y7,y8,ym]at h;obtain⟨s,e0,φ,e1,t,e2,rfl,rfl,rfl⟩:=h;obtain rfl:=z3y e0;obtain rfl:=zpb e1;obtain rfl:=z1d7 e2;have hr:=(z1f7 φ).1 (hob _ (by simp));refine⟨?_,zk Tryz.func252 (by kernel_rfl) (by kernel_rfl)⟩;intro w St vs hbd hvs hld
  match vs,hvs with
  |[v0,v1,v2],⟨h0,⟨g,caps,e1,hg,hgv⟩,h2,_⟩=>
   have e0:v0=.string s∧oneC (.string s)=true:=by
    have h0':VRel En St w v0 (.s (.string s)):=h0;cases h0' with|s _ h=>exact⟨rfl,h⟩
   have e2:v2=.bool t:=by
    have h2':VRel En St w v2 (.s (.bool t)):=h2;cases h2' with|s _ _=>rfl
   obtain⟨e0,hsz⟩:=e0;subst e0;subst e1;subst e2;have hsz':=oneC_str.1 hsz
   have:=z1sx g caps hg (zgy φ) t s w (fun W x hx hb=>by
    have hk:Keeps St w St W:=fun b o hs=>⟨hs,Below.cell hb (hbd b o hs)⟩
    have:=hgv St W hk (fun b o hs=>yn (hbd b o hs) hb.size) (hld.ext hb) [.v (.s (.int .i32 (x:Nat)))] [] _ (hr x hx) (by simp) [.int .i32 (x:Int)] ⟨.s _ (by
     refine oneC_int.2 ⟨?_,?_⟩
     ·have:IntKind.i32.min=-2147483648:=rfl;omega
     ·have:IntKind.i32.max=2147483647:=rfl
      omega),trivial⟩
    refine Calls.mono this ?_;rintro e W' ⟨v,rfl,⟨hext,St',_,_,hrr⟩,_⟩;have hv:VRel En St' W' v (.s (.bool (zgy φ x))):=hrr
    cases hv with|s _ _=>exact⟨rfl,hext⟩)
   refine Calls.mono this ?_;rintro e w' ⟨rfl,hb⟩;let gg:G:={β:=fun _=>0,lb:=fun _=>False,ω:=fun _ _=>none,tk:=fun _=>(none,0)};have hin:=z2cq (zgy φ) t s;refine⟨_,rfl,hb,gg,fun _ h=>h,fun b o x _ h=>by simp[gg]at h,fun b o x h=>by simp[gg]at h,⟨rfl,oneC_i64.2 (by omega)⟩,fun k o h=>by simp at h⟩
 ·simp at h
end Go.Proofs.YtjfpbchdcbhfgaaGreat.B
namespace Go.Proofs.YtjfpbchdcbhfgaaGreat.B
open Go Go.RowKit
set_option maxRecDepth 100000
noncomputable section
attribute [local irreducible] awp ctxK zw z1a retQ z1m
def z7b:Mc Un:=mcF_ [(252,zfa)] [] [] [] []
def zas(r:Int):List (A Un):=[.c (.s (.int .i64 r))]
def zat(_r:Int):List (Ob Un):=[]
theorem z13z(s:ByteArray)(φ:FV Un)(K:List (A Un)→List (Ob Un)→Prop):
  awp z7b z286 (zf Tryz.f247) (z2h Tryz.f247.ntmps 0 [.d (.v (cs s)),.fn φ]) (retQ z7b Tryz.f247.results.toList [.d] K)=
((zes φ=true)∧
(K (zas (idxF (zgy φ) true s)) (zat (idxF (zgy φ) true s)))):=by kernel_rfl
def z93(s:ByteArray)(φ:FV Un):Option (Int):=
  if zes φ=true then
   some (idxF (zgy φ) true s)
  else none
theorem z118{s:ByteArray}{φ:FV Un}{r:Int}(h:z93 s φ=some r):Runs (awp z7b z286 (zf Tryz.f247) (z2h Tryz.f247.ntmps 0 [.d (.v (cs s)),.fn φ]) (retQ z7b Tryz.f247.results.toList [.d] fun rs os=>rs=zas r∧os=zat r)):=by
 constructor;rw[z13z s φ (fun rs os=>rs=zas r∧os=zat r)];unfold z93 at h;obtain⟨c1,h2⟩:=z9u h;cases h2;exact(And.intro c1 ⟨rfl,rfl⟩)
def strings_IndexFunc(s:ByteArray)(φ:FV Un):Int:=idxF (zgy φ) true s
theorem zzf(s:ByteArray)(φ:FV Un)(_hs:WStr s)(h:zes φ=true):z93 s φ=some (strings_IndexFunc s φ):=by
 simp[z93,strings_IndexFunc,h]
def zo5:FnC Un:=fnF2 dStr dF fun s φ=>([zes φ=true],zas (strings_IndexFunc s φ),zat (strings_IndexFunc s φ))
theorem z140:FnOK 247 zo5:=fnK2 z3y zpb (M:=z7b) rfl ⟨z13y,trivial⟩ trivial trivial trivial trivial Tryz.func247 fun s φ=>fun w o=>z118 (zzf s φ (wfA_ w 0) (obA_ o 0))
end
end Go.Proofs.YtjfpbchdcbhfgaaGreat.B
namespace Go.Proofs.YtjfpbchdcbhfgaaGreat.B
open Go Go.RowKit
set_option maxRecDepth 100000
noncomputable section
attribute [local irreducible] awp ctxK zw z1a retQ z1m
theorem z2ba{p:Nat→Bool}(hp:∀c,p c=(decide (c<32)||decide (126<c)))(s:ByteArray):∀(f pos:Nat),s.size≤pos+f→(z8j p true s f pos<0↔∀b∈s.toList.drop pos,32≤b.toNat∧b.toNat≤126)
 |0,pos,h=>by
  have:s.toList.drop pos=[]:=y23 (by rw[z39];omega);simp[z8j,this]
 |f+1,pos,h=>by
  by_cases hps:pos<s.size
  ·have hl:pos<s.toList.length:=by rw[z39];exact hps
   have hd:s.toList.drop pos=s.toList.getD pos 0::s.toList.drop (pos+1):=by
    rw[y1l hl,yd,ya hl];rfl
   simp only[z8j,hps,if_true];rw[hd,y3b];have hdec:=z2co s pos hps;generalize s.toList.getD pos 0=b at hdec ⊢;rcases hdec with⟨h1,h2⟩|⟨h1,h2⟩
   ·rw[h1,h2,←z2ba hp s f (pos+1) (by omega),hp];by_cases hb:32≤b.toNat∧b.toNat≤126
    ·have e:(decide (b.toNat<32)||decide (126<b.toNat))=false:=by simp;omega
     rw[e];simp[hb]
    ·have e:(decide (b.toNat<32)||decide (126<b.toNat))=true:=by simp;omega
     rw[e];simp only[if_true];constructor
     ·intro hh;omega
     ·intro hh;exact absurd hh.1 hb
   ·have e:p (Utf8.decode s pos).1=true:=by rw[hp];simp;omega
    rw[e];simp only[if_true];constructor
    ·intro hh;omega
    ·intro hh;omega
  ·have:s.toList.drop pos=[]:=y23 (by rw[z39];omega);rw[z1f8 _ _ _ _ _ hps];simp[this]
theorem z235(c:Int)(K:List (A Un)→List (Ob Un)→Prop):
  awp z1f6 z286 (zf Tryz.f248) (z2h Tryz.f248.ntmps 0 [.d (.v (.s (.int .i32 c)))]) (retQ z1f6 Tryz.f248.results.toList [.d] K)=
(cnd (decide (c<(32:Int)))
 (K (zv8 (true)) (zv9 (true)))
 (K (zv8 (decide (c>(126:Int)))) (zv9 (decide (c>(126:Int)))))):=by kernel_rfl
def zlk(c:Int):Option (Bool):=
  if(decide (c<(32:Int)))=true then
   some (true)
  else
   some (decide (c>(126:Int)))
theorem z1z8{c:Int}{r:Bool}(h:zlk c=some r):Runs (awp z1f6 z286 (zf Tryz.f248) (z2h Tryz.f248.ntmps 0 [.d (.v (.s (.int .i32 c)))]) (retQ z1f6 Tryz.f248.results.toList [.d] fun rs os=>rs=zv8 r∧os=zv9 r)):=by
 constructor;rw[z235 c (fun rs os=>rs=zv8 r∧os=zv9 r)];unfold zlk at h;rcases z13 h with⟨c1,h2⟩|⟨c1,h2⟩
 ·cases h2;exact(z1d c1 ⟨rfl,rfl⟩)
 ·cases h2;exact(zx (zl c1) ⟨rfl,rfl⟩)
def zft(c:Int):Bool:=
  if(decide (c<(32:Int)))=true then
   (true)
  else
   (decide (c>(126:Int)))
theorem z236(c:Int):zlk c=some (zft c):=by unfold zlk zft;repeat(first|rfl|split)
def zpd:FnC Un:=fun args=>match args with
 |[x0]=>(dI .i32 x0).bind fun c=>some ([],zv8 (zft c),zv9 (zft c))
 |_=>none
theorem z237:FnOK 248 zpd:=by
 intro args ob rs os h hob;unfold zpd at h;split at h
 ·simp only[y7,y8,ym]at h;obtain⟨c,e0,rfl,rfl,rfl⟩:=h;obtain rfl:=z17 e0;exact⟨zhy (M:=z1f6) rfl (z4o (l1:=[]) (l2:=[]) (l3:=[]) (l4:=[]) (l5:=[]) trivial trivial trivial trivial trivial) Tryz.func248 (by kernel_rfl) z286 0 [.d] (fun hwf=>z1z8 (z236 c)),zk Tryz.func248 (by kernel_rfl) (by kernel_rfl)⟩
 ·simp at h
def z3r:FV Un:=fun args=>match args with
 |[x0]=>(dI .i32 (.d x0)).bind fun c=>some ([],[.v (cb (zft c))])
 |_=>none
theorem z1z9:FvOK 248 z3r:=by
 refine⟨zk Tryz.func248 (by kernel_rfl) (by kernel_rfl),fun args ob rs h hob=>?_⟩;unfold z3r at h;split at h
 ·simp only[y7,y8,ym]at h;obtain⟨c,e0,rfl,rfl⟩:=h;simp only[yy,y1o];rw[z17 e0];refine Contract.data (z237 _ ([]) _ _ (?_:zpd _=some _) (by simp)).1;unfold zpd;simp only[z21q];rfl
 ·simp at h
def zee:Mc Un:=mcF_ [(247,zo5),(211,zc2)] [(248,z3r)] [] [] []
theorem z1sy(v:Val)(K:List (A Un)→List (Ob Un)→Prop):
  awp zee z286 (zf Tryz.f240) (z2h Tryz.f240.ntmps 0 [.d (.agg (enc Ty.val v))]) (retQ zee Tryz.f240.results.toList [.d] K)=
(cnd (v.kind==(3:Int))
 (cnd (v.n==(0:Int))
  (cnd (decide ((↑v.s.size:Int)≤(100:Int)))
   ((zes z3r=true)∧
   (K (zv8 (decide (strings_IndexFunc v.s z3r<(0:Int)))) (zv9 (decide (strings_IndexFunc v.s z3r<(0:Int))))))
   (K (zv8 (false)) (zv9 (false))))
  (K (zv8 (false)) (zv9 (false))))
 (cnd (!v.s.toList==(ByteArray.mk #[]).toList)
  (K (zv8 (false)) (zv9 (false)))
  (cnd (v.kind==(0:Int))
   (K (zv8 (v.n==(0:Int))) (zv9 (v.n==(0:Int))))
   (cnd (v.kind==(1:Int))
    (K (zv8 (IntKind.i64.wrap (↑(BitVec.ofInt IntKind.i64.bits v.n&&& ~~~BitVec.ofInt IntKind.i64.bits (1:Int)).toNat:Int)==(0:Int))) (zv9 (IntKind.i64.wrap (↑(BitVec.ofInt IntKind.i64.bits v.n&&& ~~~BitVec.ofInt IntKind.i64.bits (1:Int)).toNat:Int)==(0:Int))))
    (cnd (v.kind==(2:Int))
     (K (zv8 (z1o v.n)) (zv9 (z1o v.n)))
     (K (zv8 (false)) (zv9 (false)))))))):=by kernel_rfl
def zgz(v:Val):Option (Bool):=
  if(v.kind==(3:Int))=true then
   if(v.n==(0:Int))=true then
    if(decide ((↑v.s.size:Int)≤(100:Int)))=true then
     if zes z3r=true then
      some (decide (strings_IndexFunc v.s z3r<(0:Int)))
     else none
    else
     some (false)
   else
    some (false)
  else
   if(!v.s.toList==(ByteArray.mk #[]).toList)=true then
    some (false)
   else
    if(v.kind==(0:Int))=true then
     some (v.n==(0:Int))
    else
     if(v.kind==(1:Int))=true then
      some (IntKind.i64.wrap (↑(BitVec.ofInt IntKind.i64.bits v.n&&& ~~~BitVec.ofInt IntKind.i64.bits (1:Int)).toNat:Int)==(0:Int))
     else
      if(v.kind==(2:Int))=true then
       some (z1o v.n)
      else
       some (false)
theorem z1mu{v:Val}{r:Bool}(h:zgz v=some r):Runs (awp zee z286 (zf Tryz.f240) (z2h Tryz.f240.ntmps 0 [.d (.agg (enc Ty.val v))]) (retQ zee Tryz.f240.results.toList [.d] fun rs os=>rs=zv8 r∧os=zv9 r)):=by
 constructor;rw[z1sy v (fun rs os=>rs=zv8 r∧os=zv9 r)];unfold zgz at h;rcases z13 h with⟨c1,h2⟩|⟨c1,h2⟩
 ·rcases z13 h2 with⟨c3,h4⟩|⟨c3,h4⟩
  ·rcases z13 h4 with⟨c5,h6⟩|⟨c5,h6⟩
   ·obtain⟨c7,h8⟩:=z9u h6;cases h8;exact(z1d c1 (z1d c3 (z1d c5 (And.intro c7 ⟨rfl,rfl⟩))))
   ·cases h6;exact(z1d c1 (z1d c3 (zx (zl c5) ⟨rfl,rfl⟩)))
  ·cases h4;exact(z1d c1 (zx (zl c3) ⟨rfl,rfl⟩))
 ·rcases z13 h2 with⟨c9,h10⟩|⟨c9,h10⟩
  ·cases h10;exact(zx (zl c1) (z1d c9 ⟨rfl,rfl⟩))
  ·rcases z13 h10 with⟨c11,h12⟩|⟨c11,h12⟩
   ·cases h12;exact(zx (zl c1) (zx (zl c9) (z1d c11 ⟨rfl,rfl⟩)))
   ·rcases z13 h12 with⟨c13,h14⟩|⟨c13,h14⟩
    ·cases h14;exact(zx (zl c1) (zx (zl c9) (zx (zl c11) (z1d c13 ⟨rfl,rfl⟩))))
    ·rcases z13 h14 with⟨c15,h16⟩|⟨c15,h16⟩
     ·cases h16;exact(zx (zl c1) (zx (zl c9) (zx (zl c11) (zx (zl c13) (z1d c15 ⟨rfl,rfl⟩)))))
     ·cases h16;exact(zx (zl c1) (zx (zl c9) (zx (zl c11) (zx (zl c13) (zx (zl c15) ⟨rfl,rfl⟩)))))
def zc3(v:Val):Bool:=z7x v
@[simp] theorem z1sz(v:Val):zc3 v=z7x v:=by unfold zc3;rfl
theorem z1x6(c:Nat):z3r [.v (.s (.int .i32 (c:Nat)))]=some ([],[.v (cb (decide (c<32)||decide (126<c)))]):=by
 have:zft (c:Nat)=(decide (c<32)||decide (126<c)):=by
  unfold zft;split
  ·rename_i h;have:c<32:=by have:=of_decide_eq_true h;omega
   simp[this]
  ·rename_i h;have:¬c<32:=fun hc=>h (decide_eq_true (by omega));simp only[this,decide_false,y3q];congr 1;simp only[eq_iff_iff];omega
 simp only[z3r,z21q,yh,this]
theorem z2gg:zes z3r=true:=(z1f7 _).2 fun c _=>by
 simp only[zgy,z1x6];rfl
theorem z287{n:Int}(hn:WI n):(IntKind.i64.wrap ↑(BitVec.ofInt IntKind.i64.bits n&&& ~~~BitVec.ofInt IntKind.i64.bits (1:Int)).toNat ==(0:Int))=decide (n=0∨n=1):=by
 have key:IntKind.i64.wrap ↑(BitVec.ofInt IntKind.i64.bits n&&& ~~~BitVec.ofInt IntKind.i64.bits (1:Int)).toNat=0↔n=0∨n=1:=by
  have hb:(BitVec.ofInt 64 n&&& ~~~BitVec.ofInt 64 (1:Int)).toNat<2 ^64:=BitVec.isLt _;have hw:IntKind.i64.wrap ↑(BitVec.ofInt 64 n&&& ~~~BitVec.ofInt 64 (1:Int)).toNat=0↔(BitVec.ofInt 64 n&&& ~~~BitVec.ofInt 64 (1:Int)).toNat=0:=by
   generalize(BitVec.ofInt 64 n&&& ~~~BitVec.ofInt 64 (1:Int)).toNat=m at hb;have e:IntKind.i64.wrap (m:Int)=if(m:Int) % 2 ^64≥2 ^63 then(m:Int) % 2 ^64- 2 ^64 else(m:Int) % 2 ^64:=by
    simp[IntKind.wrap,IntKind.signed,IntKind.bits]
   rw[e];split<;>omega
  refine hw.trans ?_;have hn2:(BitVec.ofInt 64 n).toNat=(n % 2 ^64).toNat:=by rw[BitVec.toNat_ofInt];rfl
  constructor
  ·intro h0;have hx:∀i,1≤i→(BitVec.ofInt 64 n).toNat.testBit i=false:=by
    intro i hi;have h1:(BitVec.ofInt 64 n&&& ~~~BitVec.ofInt 64 (1:Int)).getLsbD i=false:=by
     rw[BitVec.getLsbD,h0];simp
    rw[BitVec.getLsbD_and,BitVec.getLsbD_not]at h1;by_cases hi2:i<64
    ·have h2:(BitVec.ofInt 64 (1:Int)).getLsbD i=false:=by
      have:BitVec.ofInt 64 (1:Int)=1#64:=rfl;rw[this,BitVec.getLsbD_one];simp;omega
     rw[h2]at h1;simp only[hi2,decide_true,Bool.not_false,Bool.and_true]at h1;exact h1
    ·exact Nat.testBit_lt_two_pow (yn (BitVec.isLt _) (Nat.pow_le_pow_right (by decide) (by omega)))
   have hlt:(BitVec.ofInt 64 n).toNat<2 ^1:=Nat.lt_pow_two_of_testBit _ hx;omega
  ·intro h;rcases h with rfl|rfl<;>decide
 rw[y27,beq_iff_eq,decide_eq_true_eq];exact key
theorem z1ix(v:Val)(hv:WS .val v):zgz v=some (zc3 v):=by
 have hr:zgy z3r=fun c=>decide (c<32)||decide (126<c):=by
  funext c;unfold zgy;rw[z1x6];rfl
 have hI:(strings_IndexFunc v.s z3r<0)↔∀b∈v.s.toList,32≤b.toNat∧b.toNat≤126:=by
  unfold strings_IndexFunc idxF;rw[z2ba (by rw[hr];intro c;rfl) v.s v.s.size 0 (by omega)];simp
 have hN:=hv.val_n;unfold zgz zc3 z7x;simp only[beq_iff_eq,z2gg,if_true,z231,zze,decide_eq_true_eq,z287 hN];by_cases h3:v.kind=3
 ·by_cases h0:v.n=0
  ·by_cases hs:v.s.size≤100
   ·have hs':(v.s.size:Int)≤100:=by omega
    have:(v.s.toList.all fun b=>decide (32≤b.toNat∧b.toNat≤126))=decide (strings_IndexFunc v.s z3r<0):=by
     rw[y27,decide_eq_true_eq,hI];simp
    simp only[h3,h0,hs,hs',z117,this];simp
   ·have hs':¬(v.s.size:Int)≤100:=by omega
    simp[h3,h0,hs,hs',z117]
  ·simp[h3,h0]
 ·by_cases hs:v.s.size=0
  ·by_cases k0:v.kind=0
   ·simp[k0,hs];rfl
   ·by_cases k1:v.kind=1
    ·simp[k1,hs]
    ·by_cases k2:v.kind=2
     ·simp[k2,hs]
     ·simp[h3,k0,k1,k2,hs]
  ·simp[h3,hs]
def z15q:FnC Un:=fnF1 (dS .val) fun v=>([],zv8 (zc3 v),zv9 (zc3 v))
theorem z1t0:FnOK 240 z15q:=fnK1 zt (M:=zee) rfl ⟨z140,zbf,trivial⟩ ⟨z1z9,trivial⟩ trivial trivial trivial Tryz.func240 fun v=>fun w _=>z1mu (z1ix v (wfA_ w 0))
end
end Go.Proofs.YtjfpbchdcbhfgaaGreat.B
namespace Go.Proofs.YtjfpbchdcbhfgaaGreat.B
open Go Go.RowKit
set_option maxRecDepth 100000
noncomputable section
attribute [local irreducible] awp ctxK zw z1a retQ z1m awf ctxF z1l
theorem z2mt(r:Rel):Rel.mk r.op r.table r.cols r.kids r.terms r.aggs r.keys r.limit r.skip r.all r.rows=r:=by cases r;rfl
theorem zkw{α:Type}{l:List α}{i:Nat}{d:α}(h:i<l.length):l.drop i=l.getD i d::l.drop (i+1):=by
 rw[yd,ya h];exact y1l h
end
end Go.Proofs.YtjfpbchdcbhfgaaGreat.B
namespace Go.Proofs.YtjfpbchdcbhfgaaGreat.B
open Go Go.RowKit
set_option maxRecDepth 100000
noncomputable section
attribute [local irreducible] awp ctxK zw z1a retQ z1m awf ctxF z1l
def z3s(op:Int):Int:=if op=1∨op=2 then 0 else if op=3∨op=4∨op=7∨op=8∨op=12∨op=13 then 1 else if op=5∨op=6∨op=9∨op=10∨op=11 then 2 else-1
mutual
def z29:Rel→Int
 | .mk op _ cols kids terms aggs _ _ _ _ _=>
  if z3s op<0∨(kids.length:Int)<z3s op then 0
  else if op=1∨op=2 then cols.length
  else if op=4 then terms.length
  else if op=7 then IntKind.i64.wrap ((terms.length:Int)+aggs.length)
  else if op=5∨op=6 then IntKind.i64.wrap ((zkx kids).getD 0 0+(zkx kids).getD 1 0)
  else(zkx kids).getD 0 0
def zkx:List Rel→List Int
 |[]=>[]
 |r::l=>z29 r::zkx l
end
theorem zky(r:Rel):z29 r=if z3s r.op<0∨(r.kids.length:Int)<z3s r.op then 0 else if r.op=1∨r.op=2 then(r.cols.length:Int)else if r.op=4 then(r.terms.length:Int)else if r.op=7 then IntKind.i64.wrap ((r.terms.length:Int)+r.aggs.length)else if r.op=5∨r.op=6 then IntKind.i64.wrap ((zkx r.kids).getD 0 0+(zkx r.kids).getD 1 0)else(zkx r.kids).getD 0 0:=by cases r;rfl
theorem zc4:∀(l:List Rel)(i:Nat),i<l.length→(zkx l).getD i 0=z29 (l.getD i za)
 |r::l,0,_=>rfl
 |r::l,i+1,h=>by
  exact zc4 l i (by grind)
theorem z2gh{op:Int}(h:¬z3s op<0)(h1:¬(op=1∨op=2)):1≤z3s op:=by
 unfold z3s at h ⊢;omega
theorem z18q{op:Int}(h:op=5∨op=6):z3s op=2:=by
 rcases h with rfl|rfl<;>rfl
end
end Go.Proofs.YtjfpbchdcbhfgaaGreat.B
