/- Part 12 of the proof: Svals Svbool Lscal Lscal2 Lscal3 Sscal1 Sscal2n Sevalg. -/
import Derived.MapKept
import Derived.Carry
import Derived.Lib.ConvBytes
import Derived.Laws.IdiomStrings
import Derived.Test.YtjfpbchdcbhfgaaGreatNjo11
set_option linter.unusedVariables false
set_option linter.unusedSimpArgs false
namespace Go.Proofs.YtjfpbchdcbhfgaaGreat
namespace B
open Go Go.RowKit
set_option maxRecDepth 100000
noncomputable section
attribute [local irreducible] awp ctxK zw z1a retQ z1m awf ctxF z1l
def zqk:Nat→NS:=nsF_ [(2,{ts:=bl 19 403,bs:=bl 19 0,nm:=[]})] false
def z4u(s:List Val)(f_o:Val→Prop)(f:Val→Bool)(v0:Int):S Un:=(st 19 19 76 0 [(0,al .val s),(1,AV.one (A.c (C.fv (zy f_o f)))),(4,ai (0:Int)),(7,ai (↑s.length:Int)),(8,ai v0)] [] [])
def zkk(s:List Val)(f_o:Val→Prop)(f:Val→Bool)(v0:Int)(v1:Int):S Un:=(st 19 19 76 0 [(0,al .val s),(1,AV.one (A.c (C.fv (zy f_o f)))),(4,ai v1),(7,ai (↑s.length:Int)),(8,ai v0)] [] [])
def z89:S Un→Option (EX Un):=lpF_ z1f6 zqk Tryz.f209 [1,0,1,2,2] 2
def znd:Exit→S Un→Option (RF Un):=cxF_ z1f6 zqk Tryz.f209 [1,0,1,2] [.d]
def z1b3(s:List Val)(f_o:Val→Prop)(f:Val→Bool):Option (RF Un):=fnF_ z1f6 zqk Tryz.f209 0 [.d] [.d (.v (.dat (U:=Un) Ty.val s)),.fn (zy f_o f)]
theorem z25f(s:List Val)(f_o:Val→Prop)(f:Val→Bool):z1b3 s f_o f=(z89 (z4u s f_o f (0:Int))).bind (zd znd):=by kernel_rfl
theorem zwa(s:List Val)(f_o:Val→Prop)(f:Val→Bool)(v0:Int):z89 (z4u s f_o f v0)=cndO (decide (v0<(↑s.length:Int))) (obO (0≤v0∧v0<(↑s.length:Int)) (obO (f_o (s.getD v0.toNat z7)) (cndO (f (s.getD v0.toNat z7)) (some (.ret,(zkk s f_o f v0 v0))) (z89 (z4u s f_o f (IntKind.i64.wrap (v0+1))))))) (some (.exit 0,(z4u s f_o f v0))):=lpQ_ (by kernel_rfl)
theorem z1kc(s:List Val)(f_o:Val→Prop)(f:Val→Bool)(v0:Int)(v1:Int):znd .ret (zkk s f_o f v0 v1)=some (z1ar (v1)):=by kernel_rfl
theorem z1pu(s:List Val)(f_o:Val→Prop)(f:Val→Bool)(v0:Int):znd (.exit 0) (z4u s f_o f v0)=some (z1ar ((-1:Int))):=by kernel_rfl
def zbr(o:Val→Prop)(s:List Val):Prop:=∀x∈s,o x
def z3h(s:List Val)(_o:Val→Prop)(f:Val→Bool):Int:=match s.findIdx? f with|some i=>(i:Int)|none=>-1
theorem z1kd(s:List Val)(o:Val→Prop)(f:Val→Bool):0≤z3h s o f↔s.any f=true:=by
 grind[z3h,List.findIdx?_eq_none_iff,List.any_eq_true,absurd,List.findIdx?_eq_some_iff_getElem,List.getElem_mem]
theorem z1uh(s:List Val)(o:Val→Prop)(f:Val→Bool)(hs:WL .val s)(ho:zbr o s):z1b3 s o f=some (z1ar (z3h s o f)):=by
 have key:∀(r:List Val)(i:Nat),s.drop i=r→i≤s.length→(z89 (z4u s o f i)).bind (zd znd)=some (z1ar (match r.findIdx? f with|some k=>((i+k:Nat):Int)|none=>-1)):=by
  intro r
  induction r with
  |nil=>
   intro i hr hi;have:s.length≤i:=by simp_all
   have e:z89 (z4u s o f i)=some (.exit 0,z4u s o f i):=by rw[zwa,z8,if_neg (by grind)]
   rw[zj e,z1pu];rfl
  |cons x r ih=>
   intro i hr hi;obtain⟨a1,a2,a3,hm⟩:=z3f hr;have hx:s.getD i z7=x:=a2 z7;by_cases hf:f x=true
   ·have e:z89 (z4u s o f i)=some (.ret,zkk s o f i i):=by
     rw[zwa,z8,if_pos (by grind),z6 (by omega),y5,hx,z6 (ho x hm),z8,if_pos hf]
    rw[zj e,z1kc];simp[y2n,hf]
   ·have e:z89 (z4u s o f i)=z89 (z4u s o f ((i+1:Nat):Int)):=by
     rw[zwa,z8,if_pos (by grind),z6 (by omega),y5,hx,z6 (ho x hm),z8,if_neg hf,z3g a1 hs.len]
    rw[e,ih (i+1) a3 (by omega)];congr 2;grind
 rw[z25f];have:=key s 0 rfl (yb _);refine Eq.trans this ?_;simp[z3h]
def ziv:FnC Un:=fun args=>match args with
 |[x0,x1]=>(dL .val x0).bind fun s=>(dF x1).bind fun f=>some ([f=(zy (z18 f) (z1n f)),zbr (z18 f) s],zas (z3h s (z18 f) (z1n f)),zat (z3h s (z18 f) (z1n f)))
 |_=>none
theorem z1b4:FnOK 209 ziv:=by
 intro args ob rs os h hob;unfold ziv at h;split at h
 ·simp only[y7,y8,ym]at h;obtain⟨s,e0,f,e1,rfl,rfl,rfl⟩:=h;obtain rfl:=zr e0;obtain rfl:=zpb e1;have hfv0:=hob _ (ye (i:=0) rfl);generalize z1n f=pp0 at*;generalize z18 f=qq0 at*;subst hfv0;exact⟨z2d (M:=z1f6) rfl (z4o (l1:=[]) (l2:=[]) (l3:=[]) (l4:=[]) (l5:=[]) trivial trivial trivial trivial trivial) Tryz.func209 (by rfl) zqk 0 [.d] (fun hwf=>(z1uh s qq0 pp0 (z57 hwf (a:=.d (.v (.dat (U:=Un) Ty.val s))) (ye (i:=0) rfl)) (hob _ (ye (i:=1) rfl)))),zk Tryz.func209 (by rfl) (by rfl)⟩
 grind
def z1h4:Mc Un:=mcF_ [(209,ziv)] [] [] [] []
def z1h7(r:Bool):RF Un:=(zv8 r,zv9 r)
def z1b5(s:List Val)(f_o:Val→Prop)(f:Val→Bool):Option (RF Un):=fnF_ z1h4 z286 Tryz.f199 0 [.d] [.d (.v (.dat (U:=Un) Ty.val s)),.fn (zy f_o f)]
theorem z25g(s:List Val)(f_o:Val→Prop)(f:Val→Bool):z1b5 s f_o f=obO (zy f_o f=zy (z18 (zy f_o f)) (z1n (zy f_o f))) (obO (zbr (z18 (zy f_o f)) s) (some (z1h7 (decide (z3h s (z18 (zy f_o f)) (z1n (zy f_o f))≥0))))):=by kernel_rfl
def zl5(s:List Val)(_o:Val→Prop)(f:Val→Bool):Bool:=s.any f
theorem z1ui(s:List Val)(o:Val→Prop)(f:Val→Bool)(_hs:WL .val s)(ho:zbr o s):z1b5 s o f=some (z1h7 (zl5 s o f)):=by
 rw[z25g];simp only[zk9,zk8];rw[z6 trivial,z6 ho];grind[zl5,z1kd,z3h]
def z10a:FnC Un:=fun args=>match args with
 |[x0,x1]=>(dL .val x0).bind fun s=>(dF x1).bind fun f=>some ([f=(zy (z18 f) (z1n f)),zbr (z18 f) s],zv8 (zl5 s (z18 f) (z1n f)),zv9 (zl5 s (z18 f) (z1n f)))
 |_=>none
theorem z25h:FnOK 199 z10a:=by
 intro args ob rs os h hob;unfold z10a at h;split at h
 ·simp only[y7,y8,ym]at h;obtain⟨s,e0,f,e1,rfl,rfl,rfl⟩:=h;obtain rfl:=zr e0;obtain rfl:=zpb e1;have hfv0:=hob _ (ye (i:=0) rfl);generalize z1n f=pp0 at*;generalize z18 f=qq0 at*;subst hfv0;exact⟨z2d (M:=z1h4) rfl (z4o (l1:=[(209,ziv)]) (l2:=[]) (l3:=[]) (l4:=[]) (l5:=[]) ⟨z1b4,trivial⟩ trivial trivial trivial trivial) Tryz.func199 (by rfl) z286 0 [.d] (fun hwf=>(z1ui s qq0 pp0 (z57 hwf (a:=.d (.v (.dat (U:=Un) Ty.val s))) (ye (i:=0) rfl)) (hob _ (ye (i:=1) rfl)))),zk Tryz.func199 (by rfl) (by rfl)⟩
 grind
end
end B
namespace B
open Go Go.RowKit
set_option maxRecDepth 100000
noncomputable section
attribute [local irreducible] awp ctxK zw z1a retQ z1m awf ctxF z1l
def zwb(r:Val):List (A Un):=[.agg (encC Ty.val r)]
def zwc(_r:Val):List (Ob Un):=[]
def zwd(r:Val):RF Un:=(zwb r,zwc r)
def z16q(b:Bool):Option (RF Un):=fnF_ z1f6 z286 Tryz.f39 0 [.d] [.d (.v (cb b))]
theorem z20n(b:Bool):z16q b=cndO (b) (some (zwd ({kind:=(1:Int),n:=(1:Int),s:=(ByteArray.mk #[])}))) (some (zwd ({kind:=(1:Int),n:=(0:Int),s:=(ByteArray.mk #[])}))):=by kernel_rfl
def z2z(b:Bool):Val:=
  if(b)=true then
   ({kind:=(1:Int),n:=(1:Int),s:=(ByteArray.mk #[])})
  else
   ({kind:=(1:Int),n:=(0:Int),s:=(ByteArray.mk #[])})
theorem z20o(b:Bool):z16q b=some (zwd (z2z b)):=by rw[z20n];unfold z2z;simp only[z8];repeat(first|rfl|split)
def zdb:FnC Un:=fun args=>match args with
 |[x0]=>(dB x0).bind fun b=>some ([],zwb (z2z b),zwc (z2z b))
 |_=>none
theorem zsq:FnOK 39 zdb:=by
 intro args ob rs os h hob;unfold zdb at h;split at h
 ·simp only[y7,y8,ym]at h;obtain⟨b,e0,rfl,rfl,rfl⟩:=h;obtain rfl:=z1d7 e0;exact⟨z2d (M:=z1f6) rfl (z4o (l1:=[]) (l2:=[]) (l3:=[]) (l4:=[]) (l5:=[]) trivial trivial trivial trivial trivial) Tryz.func39 (by kernel_rfl) z286 0 [.d] (fun hwf=>(z20o b)),zk Tryz.func39 (by kernel_rfl) (by kernel_rfl)⟩
 ·simp at h
def z1z(b:Bool):Val:=⟨1,if b=true then 1 else 0,⟨#[]⟩⟩
@[simp] theorem zy1(b:Bool):z2z b=z1z b:=by unfold z2z z1z;cases b<;>rfl
end
end B
namespace B
open Go Go.RowKit
set_option maxRecDepth 1000000
def twoN(op a b:Int):Int×Bool:=if op=5 then z11x a b else if op=6 then zhi a b else if op=7 then z11y a b else if op=8 then z11z a b else z120 a b
def twoF(op:Int):FV Un:=fun args=>match args with
 |[x0,x1]=>(dI .i64 (.d x0)).bind fun a=>(dI .i64 (.d x1)).bind fun b=>some ([],[.v (.s (.int .i64 (twoN op a b).1)),.v (.s (.bool (twoN op a b).2))])
 |_=>none
def zwe:FnC Un:=fun args=>match args with
 |[x0]=>(dI .i64 x0).bind fun op=>some ([5≤op∧op≤9],[.c (.fv (twoF op))],[])
 |_=>none
def soB(op c:Int):Bool:=if op=11 then decide (c=0)else if op=12 then decide (c=-1∨c=1)else if op=13 then decide (c=-1)else if op=14 then decide (c=-1∨c=0)else if op=15 then decide (c=1)else decide (c=0∨c=1)
def cmpO(op:Int)(a b:Val):Val:=if(cmpV a b).2=true then z1z (soB op (cmpV a b).1)else z7
def zck:FnC Un:=fun args=>match args with
 |[x0,x1,x2]=>(dI .i64 x0).bind fun op=>(dS .val x1).bind fun a=>(dS .val x2).bind fun b=>some ([11≤op∧op≤16],[.agg (encC Ty.val (cmpO op a b))],[])
 |_=>none
def zu9(f b:Int)(c:UInt8):UInt8:=if(c.toNat:Int)≥f∧(c.toNat:Int)<IntKind.u8.wrap (f+26)then UInt8.ofNat (IntKind.u8.wrap (IntKind.i64.wrap ((c.toNat:Int)+b))).toNat else c
def zne(s:ByteArray)(f b:Int):ByteArray:=⟨(s.toList.map (zu9 f b)).toArray⟩
theorem z14w(s:ByteArray)(f b:Int):(zne s f b).size=s.size:=by
 unfold zne;show(s.toList.map (zu9 f b)).toArray.size=s.size;rw[List.size_toArray,yu,z39]
def znf:FnC Un:=fun args=>match args with
 |[x0,x1,x2]=>(dStr x0).bind fun s=>(dI .u8 x1).bind fun f=>(dI .i64 x2).bind fun b=>some ([s.size≤2000000],[.c (.s (.string (zne s f b)))],[])
 |_=>none
theorem z2nb{f:FuncId}{φ:FV Un}(h:FvOK f φ){St:Nat→Nat→Prop}{w:World}:FunRel Tryz.prog En St w (.func (.func f) #[] #[]) φ:=by
 refine⟨f,#[],rfl,h.1,fun St' w' hk hb hld args ob rs hφ hob vs hvs=>?_⟩;have hc:=h.2 args ob rs hφ hob w' St' vs hb (All2.map_right D.d (fun _ _ h=>h) hvs) hld;rw[Array.append_empty];exact hc
theorem updM{mt et:TypeId}(hm:Tryz.prog.underlying mt=some (.map 3 et))(w:World)(es:Array MapEntry)(c:Nat)(k:Int)(v:Value)(hn:Instr.findNow (.int .i64) (.int .i64 k) es.toList 0=some none):
  (Instr.mapUpdate mt (.map (some w.heap.size)) (.int .i64 k) v).run Tryz.prog (w.alloc (.map es c))=.ok () (w.alloc (.map (es.push {key:=.int .i64 k,val:=v,born:=c}) (c+1))):=by
 have hd:Tryz.prog.underlying 3=some (.int .i64):=by kernel_rfl
 have hb:(w.alloc (.map es c)).heap[w.heap.size]?=some (.map es c):=by unfold World.alloc;simp
 have hk:MapKept.IsKey (.int .i64) (.int .i64 k):=by simp[MapKept.IsKey]
 simp[Instr.mapUpdate,run_underlying hm,MapKept.run_getObj_map hb,MapKept.run_checkKey hd hk,MapKept.run_findKey hd hn,MapKept.run_setObj_map _ hb,Result.andThen];unfold World.alloc;simp only;congr 1;apply y37;simp[y2x]
theorem z2po{mt et:TypeId}(hm:Tryz.prog.underlying mt=some (.map 3 et))(w:World)(es:Array MapEntry)(c:Nat)(k:Int)(i:Nat)(v:Value)(hn:Instr.findNow (.int .i64) (.int .i64 k) es.toList 0=some (some (i,v))):
  (Instr.lookup mt (.map (some w.heap.size)) (.int .i64 k) false).run Tryz.prog (w.alloc (.map es c))=.ok v (w.alloc (.map es c)):=by
 have hd:Tryz.prog.underlying 3=some (.int .i64):=by kernel_rfl
 have hb:(w.alloc (.map es c)).heap[w.heap.size]?=some (.map es c):=by unfold World.alloc;simp
 have hk:MapKept.IsKey (.int .i64) (.int .i64 k):=by simp[MapKept.IsKey]
 simp[Instr.lookup,run_underlying hm,MapKept.run_getObj_map hb,MapKept.run_checkKey hd hk,MapKept.run_findKey hd hn,Result.andThen]
def twoE:List MapEntry:=[⟨.int .i64 5,.func (.func 202) #[] #[],0⟩,⟨.int .i64 6,.func (.func 201) #[] #[],1⟩,⟨.int .i64 7,.func (.func 203) #[] #[],2⟩,⟨.int .i64 8,.func (.func 204) #[] #[],3⟩,⟨.int .i64 9,.func (.func 205) #[] #[],4⟩]
theorem z2kr(op:Int)(i:Nat)(v:Value)(hn:Instr.findNow (.int .i64) (.int .i64 op) twoE 0=some (some (i,v)))(w:World):Calls Tryz.prog 162 #[.int .i64 op] w fun e w'=>e=.returned v∧Ext w w':=by
 have mixed:Tryz.prog.follows .mixedOrders=true:=by kernel_rfl
 have hmm:=@run_makeMap Tryz.prog;have hm:Tryz.prog.underlying 192=some (.map 3 102):=by kernel_rfl
 have u1:=updM hm w #[] 0 5 (.func (.func 202) #[] #[]) rfl;have u2:=updM hm w #[⟨.int .i64 5,.func (.func 202) #[] #[],0⟩] 1 6 (.func (.func 201) #[] #[]) rfl;have u3:=updM hm w #[⟨.int .i64 5,.func (.func 202) #[] #[],0⟩,⟨.int .i64 6,.func (.func 201) #[] #[],1⟩] 2 7 (.func (.func 203) #[] #[]) rfl;have u4:=updM hm w #[⟨.int .i64 5,.func (.func 202) #[] #[],0⟩,⟨.int .i64 6,.func (.func 201) #[] #[],1⟩,⟨.int .i64 7,.func (.func 203) #[] #[],2⟩] 3 8 (.func (.func 204) #[] #[]) rfl;have u5:=updM hm w #[⟨.int .i64 5,.func (.func 202) #[] #[],0⟩,⟨.int .i64 6,.func (.func 201) #[] #[],1⟩,⟨.int .i64 7,.func (.func 203) #[] #[],2⟩,⟨.int .i64 8,.func (.func 204) #[] #[],3⟩] 4 9 (.func (.func 205) #[] #[]) rfl;have lk:=z2po hm w #[⟨.int .i64 5,.func (.func 202) #[] #[],0⟩,⟨.int .i64 6,.func (.func 201) #[] #[],1⟩,⟨.int .i64 7,.func (.func 203) #[] #[],2⟩,⟨.int .i64 8,.func (.func 204) #[] #[],3⟩,⟨.int .i64 9,.func (.func 205) #[] #[],4⟩] 5 op i v hn
 go_enter Tryz.func162,Tryz.ntmps162
 go_wp2
 go_ret;exact⟨rfl,(Ext.refl w).alloc _⟩
theorem zwf{f:FuncId}{F:FnC Un}(g:Int→Int→Int×Bool)(op:Int)(hg:∀a b,twoN op a b=g a b)(hb:z32 Tryz.prog f)(hok:FnOK f F)
  (hF:∀a b,F [.d (.v (.s (.int .i64 a))),.d (.v (.s (.int .i64 b)))]=some ([],[.c (.s (.int .i64 (g a b).1)),.c (.s (.bool (g a b).2))],[])):FvOK f (twoF op):=by
 refine⟨hb,fun args ob rs h hob=>?_⟩;unfold twoF at h;split at h
 ·simp only[y7,y8,ym]at h;obtain⟨a,e0,b,e1,rfl,rfl⟩:=h;simp only[yy,y1o];rw[z17 e0,z17 e1,hg];exact Contract.data (hok _ [] _ _ (hF a b) (by simp)).1
 ·simp at h
theorem z20p:FnOK 162 zwe:=by
 have k5:FvOK 202 (twoF 5):=zwf z11x 5 (fun _ _=>rfl) (zk Tryz.func202 (by kernel_rfl) (by kernel_rfl)) z2dl (fun a b=>rfl);have k6:FvOK 201 (twoF 6):=zwf zhi 6 (fun _ _=>rfl) (zk Tryz.func201 (by kernel_rfl) (by kernel_rfl)) z1pe (fun a b=>rfl);have k7:FvOK 203 (twoF 7):=zwf z11y 7 (fun _ _=>rfl) (zk Tryz.func203 (by kernel_rfl) (by kernel_rfl)) z2dr (fun a b=>rfl);have k8:FvOK 204 (twoF 8):=zwf z11z 8 (fun _ _=>rfl) (zk Tryz.func204 (by kernel_rfl) (by kernel_rfl)) z2dt (fun a b=>rfl);have k9:FvOK 205 (twoF 9):=zwf z120 9 (fun _ _=>rfl) (zk Tryz.func205 (by kernel_rfl) (by kernel_rfl)) z2dv (fun a b=>rfl);intro args ob rs os h hob;unfold zwe at h;split at h
 ·rename_i x0;simp only[y7,y8,ym]at h;obtain⟨op,e0,rfl,rfl,rfl⟩:=h;obtain rfl:=z17 e0;refine⟨?_,zk Tryz.func162 (by kernel_rfl) (by kernel_rfl)⟩;have hr:=hob _ (yi.2 rfl);have fin:∀(f:FuncId)(i:Nat),FvOK f (twoF op)→Instr.findNow (.int .i64) (.int .i64 op) twoE 0=some (some (i,.func (.func f) #[] #[]))→Contract Tryz.prog En 162 [.d (.v (.s (.int .i64 op)))] [.c (.fv (twoF op))] []:=by
   intro f i hk hn w St vs hbd hvs hld
   match vs,hvs with
   |[v0],⟨h0,_⟩=>
    obtain⟨rfl,-⟩:=zw3 h0;refine(z2kr op i _ hn w).mono ?_;rintro e w' ⟨rfl,hx⟩;let gg:G:={β:=fun _=>0,lb:=fun _=>False,ω:=fun _ _=>none,tk:=fun _=>(none,0)};exact⟨_,rfl,hx,gg,fun _ h=>h,fun b o x _ h=>by simp[gg]at h,fun b o x h=>by simp[gg]at h,z2nb hk,fun k o h=>by simp at h⟩
  have hc:op=5∨op=6∨op=7∨op=8∨op=9:=by omega
  rcases hc with rfl|rfl|rfl|rfl|rfl
  ·exact fin _ 0 k5 rfl
  ·exact fin _ 1 k6 rfl
  ·exact fin _ 2 k7 rfl
  ·exact fin _ 3 k8 rfl
  ·exact fin _ 4 k9 rfl
 ·simp at h
end B
namespace B
open Go Go.RowKit
set_option maxRecDepth 1000000
def aggV(a:Val):Value:=.agg #[.int .i64 a.kind,.int .i64 a.n,.string a.s]
theorem zkl{w w1:World}{x y z:Obj}(h:Ext (((w.alloc x).alloc y).alloc z) w1):w1.heap[w.heap.size+1+1]?=some z:=by
 have e:(((w.alloc x).alloc y).alloc z).heap=((w.heap.push x).push y).push z:=rfl;have hs:((w.heap.push x).push y).size=w.heap.size+1+1:=by rw[y2y,y2y]
 refine(h.block (by rw[e,y2y,hs];omega)).trans ?_;rw[e,←hs];exact y4x
theorem zdc{w:World}{b:Nat}{x y z:Value}{t:TypeId}(h:w.heap[b]?=some (.cells #[x,y,z] t)):w.cell? ⟨b,0,none⟩=some x∧w.cell? ⟨b,1,none⟩=some y∧w.cell? ⟨b,2,none⟩=some z∧∀o,w.frozen? ⟨b,o,none⟩=false:=by
 refine⟨?_,?_,?_,fun o=>?_⟩
 ·unfold World.cell?;simp only[h];rfl
 ·unfold World.cell?;simp only[h];rfl
 ·unfold World.cell?;simp only[h];rfl
 ·unfold World.frozen?;simp only[h];simp
theorem z20q(op:Int)(a b:Val)(w:World)(hn:(cmpV a b).2=false)(hld:Laid w)(hc:∀W,Laid W→Calls Tryz.prog 152 #[aggV a,aggV b] W fun e w'=>e=.returned (.tuple #[.int .i64 (cmpV a b).1,.bool false])∧Ext W w'):
  Calls Tryz.prog 164 #[.int .i64 op,aggV a,aggV b] w fun e w'=>e=.returned (aggV z7)∧Ext w w':=by
 unfold aggV at hc ⊢;have mixed:Tryz.prog.follows .mixedOrders=true:=by kernel_rfl
 have hmm:=@run_makeMap Tryz.prog
 go_enter Tryz.func164,Tryz.ntmps164
 go_wp2_with (go_at_call 152;go_loud (refine(hc _ (hld.ext ((((Ext.refl w).alloc _).alloc _).alloc _))).mono ?_;rintro e w1 ⟨rfl,h1⟩;have hz:=zdc (zkl h1);obtain⟨z0,z1,z2,q0⟩:=hz))
 refine bodyPost_ret (v:=.agg #[.int .i64 0,.int .i64 0,.string ⟨#[]⟩]) (by unfold results;go_simp) rfl ?_;refine⟨rfl,?_⟩;have hx:Ext w w1:=((((Ext.refl w).alloc _).alloc _).alloc _).trans h1;exact((hx.setCell (by show w.heap.size≤w.heap.size+1+1;omega) _).setCell (by show w.heap.size≤w.heap.size+1+1;omega) _).setCell (by show w.heap.size≤w.heap.size+1+1;omega) _
theorem zql:∀(os:List Obj)(w:World),os.foldl World.alloc w={w with heap:=w.heap++os.toArray}
 |[],w=>by simp
 |o::os,w=>by
  rw[yx,zql os];unfold World.alloc;simp
theorem z1pv(os:List Obj)(w:World)(m:Obj):(os.foldl World.alloc (w.alloc m)).heap=w.heap.push m++os.toArray:=by
 rw[zql];rfl
theorem z1ya(os:List Obj)(w:World)(m:Obj):(os.foldl World.alloc (w.alloc m)).heap[w.heap.size]?=some m:=by
 rw[z1pv,y3t (by rw[y2y];omega)];exact y4x
theorem z2hz(os:List Obj)(w:World)(m m':Obj):{os.foldl World.alloc (w.alloc m)with heap:=(os.foldl World.alloc (w.alloc m)).heap.setIfInBounds w.heap.size m'}=os.foldl World.alloc (w.alloc m'):=by
 rw[zql,zql];unfold World.alloc;simp only;congr 1;apply y37;simp[y2x]
theorem updC{mt et:TypeId}(hm:Tryz.prog.underlying mt=some (.map 3 et))(os:List Obj)(w:World)(es:Array MapEntry)(c:Nat)(k:Int)(v:Value)(hn:Instr.findNow (.int .i64) (.int .i64 k) es.toList 0=some none):
  (Instr.mapUpdate mt (.map (some w.heap.size)) (.int .i64 k) v).run Tryz.prog (os.foldl World.alloc (w.alloc (.map es c)))=.ok () (os.foldl World.alloc (w.alloc (.map (es.push {key:=.int .i64 k,val:=v,born:=c}) (c+1)))):=by
 have hd:Tryz.prog.underlying 3=some (.int .i64):=by kernel_rfl
 have hb:=z1ya os w (.map es c);have hk:MapKept.IsKey (.int .i64) (.int .i64 k):=by simp[MapKept.IsKey]
 have hs:=z2hz os w (.map es c) (.map (es.push {key:=.int .i64 k,val:=v,born:=c}) (c+1));simp[Instr.mapUpdate,run_underlying hm,MapKept.run_getObj_map hb,MapKept.run_checkKey hd hk,MapKept.run_findKey hd hn,MapKept.run_setObj_map _ hb,Result.andThen];exact hs
theorem z1dl{mt et:TypeId}(hm:Tryz.prog.underlying mt=some (.map 3 et))(os:List Obj)(w:World)(es:Array MapEntry)(c:Nat)(k:Int)(i:Nat)(v:Value)(hn:Instr.findNow (.int .i64) (.int .i64 k) es.toList 0=some (some (i,v))):
  (Instr.lookup mt (.map (some w.heap.size)) (.int .i64 k) false).run Tryz.prog (os.foldl World.alloc (w.alloc (.map es c)))=.ok v (os.foldl World.alloc (w.alloc (.map es c))):=by
 have hd:Tryz.prog.underlying 3=some (.int .i64):=by kernel_rfl
 have hb:=z1ya os w (.map es c);have hk:MapKept.IsKey (.int .i64) (.int .i64 k):=by simp[MapKept.IsKey]
 simp[Instr.lookup,run_underlying hm,MapKept.run_getObj_map hb,MapKept.run_checkKey hd hk,MapKept.run_findKey hd hn,Result.andThen]
def sgn(w:World):List (Int×Nat×List Int):=[(11,w.heap.size+1,[0]),(12,w.heap.size+1+1,[-1,1]),(13,w.heap.size+1+1+1,[-1]),(14,w.heap.size+1+1+1+1,[-1,0]),(15,w.heap.size+1+1+1+1+1,[1]),(16,w.heap.size+1+1+1+1+1+1,[0,1])]
def ent(w:World)(n:Nat):List MapEntry:=((sgn w).take n).zipIdx.map fun x=>⟨.int .i64 x.1.1,.slice (some ⟨x.1.2.1,0,none⟩) x.1.2.2.length x.1.2.2.length,x.2⟩
def rowO(l:List Int):Obj:=.cells (l.map (Value.int .i64)).toArray 3
theorem zl6(os:List Obj)(w:World)(m:Obj)(q:Nat)(o:Obj)(h:os[q]?=some o):(os.foldl World.alloc (w.alloc m)).heap[w.heap.size+1+q]?=some o:=by
 rw[z1pv,Array.getElem?_append_right (by rw[y2y];omega),y2y];rw[show w.heap.size+1+q- (w.heap.size+1)=q by omega,List.getElem?_toArray];exact h
theorem zl7{W:World}{blk:Nat}{zs:List Int}(h:W.heap[blk]?=some (rowO zs)):∀j,j<zs.length→W.cell? ⟨blk,0+j,none⟩=some (.int .i64 (zs.getD j 0)):=by
 intro j hj;unfold World.cell?;simp only[h,rowO];simp[hj,yd]
theorem zl8(os:List Obj)(w:World)(m:Obj):Ext w (os.foldl World.alloc (w.alloc m)):=by
 have:∀(os:List Obj)(u:World),Ext w u→Ext w (os.foldl World.alloc u):=by
  intro os
  induction os with
  |nil=>intro u h;exact h
  |cons o os ih=>intro u h;exact ih _ (h.alloc o)
 exact this os _ ((Ext.refl w).alloc m)
theorem z2pp(c:Int):(List.take 1 ([0]:List Int)).contains c=soB 11 c:=by
 simp only[y20,y21,y2z,y30,y31];unfold soB;rw[if_pos rfl,y27];simp only[y1g,beq_iff_eq,decide_eq_true_eq]
set_option maxHeartbeats 2000000 in
theorem z29p(a b:Val)(w:World)(hld:Laid w)(hc:∀W,Laid W→Calls Tryz.prog 152 #[aggV a,aggV b] W fun e w'=>e=.returned (.tuple #[.int .i64 (cmpV a b).1,.bool true])∧Ext W w')
  (hB:∀W x,Laid W→Calls Tryz.prog 39 #[.bool x] W fun e w'=>e=.returned (.agg #[.int .i64 (z1z x).kind,.int .i64 (z1z x).n,.string (z1z x).s])∧Ext W w'):
  Calls Tryz.prog 164 #[.int .i64 11,aggV a,aggV b] w fun e w'=>e=.returned (aggV (z1z (soB 11 (cmpV a b).1)))∧Ext w w':=by
 unfold aggV at hc ⊢;have mixed:Tryz.prog.follows .mixedOrders=true:=by kernel_rfl
 have hmm:=@run_makeMap Tryz.prog;have hm:Tryz.prog.underlying 193=some (.map 3 42):=by kernel_rfl
 go_enter Tryz.func164,Tryz.ntmps164
 go_wp2_with (first
  |(go_at_call 152;refine(hc _ (hld.ext ((((Ext.refl w).alloc _).alloc _).alloc _))).mono ?_;rintro e w1 ⟨rfl,h1⟩;have hz:=zkl h1;obtain⟨z0,z1,z2,q0⟩:=zdc hz;have hx:Ext w w1:=((((Ext.refl w).alloc _).alloc _).alloc _).trans h1;have u1:=updC hm [rowO [0]] w1 (ent w1 0).toArray 0 11 (.slice (some ⟨w1.heap.size+1,0,none⟩) 1 1) rfl;have u2:=updC hm [rowO [0],rowO [-1,1]] w1 (ent w1 1).toArray 1 12 (.slice (some ⟨w1.heap.size+1+1,0,none⟩) 2 2) rfl;have u3:=updC hm [rowO [0],rowO [-1,1],rowO [-1]] w1 (ent w1 2).toArray 2 13 (.slice (some ⟨w1.heap.size+1+1+1,0,none⟩) 1 1) rfl;have u4:=updC hm [rowO [0],rowO [-1,1],rowO [-1],rowO [-1,0]] w1 (ent w1 3).toArray 3 14 (.slice (some ⟨w1.heap.size+1+1+1+1,0,none⟩) 2 2) rfl;have u5:=updC hm [rowO [0],rowO [-1,1],rowO [-1],rowO [-1,0],rowO [1]] w1 (ent w1 4).toArray 4 15 (.slice (some ⟨w1.heap.size+1+1+1+1+1,0,none⟩) 1 1) rfl;have u6:=updC hm [rowO [0],rowO [-1,1],rowO [-1],rowO [-1,0],rowO [1],rowO [0,1]] w1 (ent w1 5).toArray 5 16 (.slice (some ⟨w1.heap.size+1+1+1+1+1+1,0,none⟩) 2 2) rfl;have lk:=z1dl hm [rowO [0],rowO [-1,1],rowO [-1],rowO [-1,0],rowO [1],rowO [0,1]] w1 (ent w1 6).toArray 6 11 0 (.slice (some ⟨w1.heap.size+1,0,none⟩) 1 1) rfl;have hro:=zl7 (zl6 [rowO [0],rowO [-1,1],rowO [-1],rowO [-1,0],rowO [1],rowO [0,1]] w1 (.map (ent w1 6).toArray 6) 0 (rowO [0]) rfl);have hce:=zl8 [rowO [0],rowO [-1,1],rowO [-1],rowO [-1,0],rowO [1],rowO [0,1]] w1 (.map (ent w1 6).toArray 6);simp only[yx,y2m,ent,sgn,rowO,y21,y20,y32,y33,yy,y1o,yt,y1r,y34,y15,yw,y16,Nat.reduceAdd]at u1 u2 u3 u4 u5 u6 lk hro hce)
  |(go_at_call 206;refine(Tryz.slices_Contains_int (w1.heap.size+1) 0 1 1 [0] (cmpV a b).1 _ (by decide) (by decide) (fun j hj=>by rw[y16];exact hro j hj)).mono ?_;rintro e w2 ⟨rfl,rfl⟩;simp only[z2pp])
  |(go_at_call 39;refine(hB _ _ (hld.ext (hx.trans hce))).mono ?_;rintro e w3 ⟨rfl,h3⟩;have hlt:w.heap.size+1+1<w1.heap.size:=z6j (p:=⟨w.heap.size+1+1,0,none⟩) z0;have h4:=hce.trans h3;have hz3:=(h4.block hlt).trans hz;obtain⟨y0,y1,y2,p0⟩:=zdc hz3))
 refine bodyPost_ret (v:=.agg #[.int .i64 (z1z (soB 11 (cmpV a b).1)).kind,.int .i64 (z1z (soB 11 (cmpV a b).1)).n,.string (z1z (soB 11 (cmpV a b).1)).s]) (by unfold results;go_simp) rfl ?_;refine⟨rfl,?_⟩;have h5:=hx.trans h4;exact((h5.setCell (by show w.heap.size≤w.heap.size+1+1;omega) _).setCell (by show w.heap.size≤w.heap.size+1+1;omega) _).setCell (by show w.heap.size≤w.heap.size+1+1;omega) _
theorem z2pq(c:Int):(List.take 2 ([-1,1]:List Int)).contains c=soB 12 c:=by
 simp only[y20,y21,y2z,y30,y31];unfold soB;rw[if_neg (by decide),if_pos rfl,y27];simp only[y1g,beq_iff_eq,decide_eq_true_eq]
set_option maxHeartbeats 2000000 in
theorem z29q(a b:Val)(w:World)(hld:Laid w)(hc:∀W,Laid W→Calls Tryz.prog 152 #[aggV a,aggV b] W fun e w'=>e=.returned (.tuple #[.int .i64 (cmpV a b).1,.bool true])∧Ext W w')
  (hB:∀W x,Laid W→Calls Tryz.prog 39 #[.bool x] W fun e w'=>e=.returned (.agg #[.int .i64 (z1z x).kind,.int .i64 (z1z x).n,.string (z1z x).s])∧Ext W w'):
  Calls Tryz.prog 164 #[.int .i64 12,aggV a,aggV b] w fun e w'=>e=.returned (aggV (z1z (soB 12 (cmpV a b).1)))∧Ext w w':=by
 unfold aggV at hc ⊢;have mixed:Tryz.prog.follows .mixedOrders=true:=by kernel_rfl
 have hmm:=@run_makeMap Tryz.prog;have hm:Tryz.prog.underlying 193=some (.map 3 42):=by kernel_rfl
 go_enter Tryz.func164,Tryz.ntmps164
 go_wp2_with (first
  |(go_at_call 152;refine(hc _ (hld.ext ((((Ext.refl w).alloc _).alloc _).alloc _))).mono ?_;rintro e w1 ⟨rfl,h1⟩;have hz:=zkl h1;obtain⟨z0,z1,z2,q0⟩:=zdc hz;have hx:Ext w w1:=((((Ext.refl w).alloc _).alloc _).alloc _).trans h1;have u1:=updC hm [rowO [0]] w1 (ent w1 0).toArray 0 11 (.slice (some ⟨w1.heap.size+1,0,none⟩) 1 1) rfl;have u2:=updC hm [rowO [0],rowO [-1,1]] w1 (ent w1 1).toArray 1 12 (.slice (some ⟨w1.heap.size+1+1,0,none⟩) 2 2) rfl;have u3:=updC hm [rowO [0],rowO [-1,1],rowO [-1]] w1 (ent w1 2).toArray 2 13 (.slice (some ⟨w1.heap.size+1+1+1,0,none⟩) 1 1) rfl;have u4:=updC hm [rowO [0],rowO [-1,1],rowO [-1],rowO [-1,0]] w1 (ent w1 3).toArray 3 14 (.slice (some ⟨w1.heap.size+1+1+1+1,0,none⟩) 2 2) rfl;have u5:=updC hm [rowO [0],rowO [-1,1],rowO [-1],rowO [-1,0],rowO [1]] w1 (ent w1 4).toArray 4 15 (.slice (some ⟨w1.heap.size+1+1+1+1+1,0,none⟩) 1 1) rfl;have u6:=updC hm [rowO [0],rowO [-1,1],rowO [-1],rowO [-1,0],rowO [1],rowO [0,1]] w1 (ent w1 5).toArray 5 16 (.slice (some ⟨w1.heap.size+1+1+1+1+1+1,0,none⟩) 2 2) rfl;have lk:=z1dl hm [rowO [0],rowO [-1,1],rowO [-1],rowO [-1,0],rowO [1],rowO [0,1]] w1 (ent w1 6).toArray 6 12 1 (.slice (some ⟨w1.heap.size+1+1,0,none⟩) 2 2) rfl;have hro:=zl7 (zl6 [rowO [0],rowO [-1,1],rowO [-1],rowO [-1,0],rowO [1],rowO [0,1]] w1 (.map (ent w1 6).toArray 6) 1 (rowO [-1,1]) rfl);have hce:=zl8 [rowO [0],rowO [-1,1],rowO [-1],rowO [-1,0],rowO [1],rowO [0,1]] w1 (.map (ent w1 6).toArray 6);simp only[yx,y2m,ent,sgn,rowO,y21,y20,y32,y33,yy,y1o,yt,y1r,y34,y15,yw,y16,Nat.reduceAdd]at u1 u2 u3 u4 u5 u6 lk hro hce)
  |(go_at_call 206;refine(Tryz.slices_Contains_int (w1.heap.size+1+1) 0 2 2 [-1,1] (cmpV a b).1 _ (by decide) (by decide) (fun j hj=>by rw[y16];exact hro j hj)).mono ?_;rintro e w2 ⟨rfl,rfl⟩;simp only[z2pq])
  |(go_at_call 39;refine(hB _ _ (hld.ext (hx.trans hce))).mono ?_;rintro e w3 ⟨rfl,h3⟩;have hlt:w.heap.size+1+1<w1.heap.size:=z6j (p:=⟨w.heap.size+1+1,0,none⟩) z0;have h4:=hce.trans h3;have hz3:=(h4.block hlt).trans hz;obtain⟨y0,y1,y2,p0⟩:=zdc hz3))
 refine bodyPost_ret (v:=.agg #[.int .i64 (z1z (soB 12 (cmpV a b).1)).kind,.int .i64 (z1z (soB 12 (cmpV a b).1)).n,.string (z1z (soB 12 (cmpV a b).1)).s]) (by unfold results;go_simp) rfl ?_;refine⟨rfl,?_⟩;have h5:=hx.trans h4;exact((h5.setCell (by show w.heap.size≤w.heap.size+1+1;omega) _).setCell (by show w.heap.size≤w.heap.size+1+1;omega) _).setCell (by show w.heap.size≤w.heap.size+1+1;omega) _
theorem z2pr(c:Int):(List.take 1 ([-1]:List Int)).contains c=soB 13 c:=by
 simp only[y20,y21,y2z,y30,y31];unfold soB;rw[if_neg (by decide),if_neg (by decide),if_pos rfl,y27];simp only[y1g,beq_iff_eq,decide_eq_true_eq]
set_option maxHeartbeats 2000000 in
theorem z29r(a b:Val)(w:World)(hld:Laid w)(hc:∀W,Laid W→Calls Tryz.prog 152 #[aggV a,aggV b] W fun e w'=>e=.returned (.tuple #[.int .i64 (cmpV a b).1,.bool true])∧Ext W w')
  (hB:∀W x,Laid W→Calls Tryz.prog 39 #[.bool x] W fun e w'=>e=.returned (.agg #[.int .i64 (z1z x).kind,.int .i64 (z1z x).n,.string (z1z x).s])∧Ext W w'):
  Calls Tryz.prog 164 #[.int .i64 13,aggV a,aggV b] w fun e w'=>e=.returned (aggV (z1z (soB 13 (cmpV a b).1)))∧Ext w w':=by
 unfold aggV at hc ⊢;have mixed:Tryz.prog.follows .mixedOrders=true:=by kernel_rfl
 have hmm:=@run_makeMap Tryz.prog;have hm:Tryz.prog.underlying 193=some (.map 3 42):=by kernel_rfl
 go_enter Tryz.func164,Tryz.ntmps164
 go_wp2_with (first
  |(go_at_call 152;refine(hc _ (hld.ext ((((Ext.refl w).alloc _).alloc _).alloc _))).mono ?_;rintro e w1 ⟨rfl,h1⟩;have hz:=zkl h1;obtain⟨z0,z1,z2,q0⟩:=zdc hz;have hx:Ext w w1:=((((Ext.refl w).alloc _).alloc _).alloc _).trans h1;have u1:=updC hm [rowO [0]] w1 (ent w1 0).toArray 0 11 (.slice (some ⟨w1.heap.size+1,0,none⟩) 1 1) rfl;have u2:=updC hm [rowO [0],rowO [-1,1]] w1 (ent w1 1).toArray 1 12 (.slice (some ⟨w1.heap.size+1+1,0,none⟩) 2 2) rfl;have u3:=updC hm [rowO [0],rowO [-1,1],rowO [-1]] w1 (ent w1 2).toArray 2 13 (.slice (some ⟨w1.heap.size+1+1+1,0,none⟩) 1 1) rfl;have u4:=updC hm [rowO [0],rowO [-1,1],rowO [-1],rowO [-1,0]] w1 (ent w1 3).toArray 3 14 (.slice (some ⟨w1.heap.size+1+1+1+1,0,none⟩) 2 2) rfl;have u5:=updC hm [rowO [0],rowO [-1,1],rowO [-1],rowO [-1,0],rowO [1]] w1 (ent w1 4).toArray 4 15 (.slice (some ⟨w1.heap.size+1+1+1+1+1,0,none⟩) 1 1) rfl;have u6:=updC hm [rowO [0],rowO [-1,1],rowO [-1],rowO [-1,0],rowO [1],rowO [0,1]] w1 (ent w1 5).toArray 5 16 (.slice (some ⟨w1.heap.size+1+1+1+1+1+1,0,none⟩) 2 2) rfl;have lk:=z1dl hm [rowO [0],rowO [-1,1],rowO [-1],rowO [-1,0],rowO [1],rowO [0,1]] w1 (ent w1 6).toArray 6 13 2 (.slice (some ⟨w1.heap.size+1+1+1,0,none⟩) 1 1) rfl;have hro:=zl7 (zl6 [rowO [0],rowO [-1,1],rowO [-1],rowO [-1,0],rowO [1],rowO [0,1]] w1 (.map (ent w1 6).toArray 6) 2 (rowO [-1]) rfl);have hce:=zl8 [rowO [0],rowO [-1,1],rowO [-1],rowO [-1,0],rowO [1],rowO [0,1]] w1 (.map (ent w1 6).toArray 6);simp only[yx,y2m,ent,sgn,rowO,y21,y20,y32,y33,yy,y1o,yt,y1r,y34,y15,yw,y16,Nat.reduceAdd]at u1 u2 u3 u4 u5 u6 lk hro hce)
  |(go_at_call 206;refine(Tryz.slices_Contains_int (w1.heap.size+1+1+1) 0 1 1 [-1] (cmpV a b).1 _ (by decide) (by decide) (fun j hj=>by rw[y16];exact hro j hj)).mono ?_;rintro e w2 ⟨rfl,rfl⟩;simp only[z2pr])
  |(go_at_call 39;refine(hB _ _ (hld.ext (hx.trans hce))).mono ?_;rintro e w3 ⟨rfl,h3⟩;have hlt:w.heap.size+1+1<w1.heap.size:=z6j (p:=⟨w.heap.size+1+1,0,none⟩) z0;have h4:=hce.trans h3;have hz3:=(h4.block hlt).trans hz;obtain⟨y0,y1,y2,p0⟩:=zdc hz3))
 refine bodyPost_ret (v:=.agg #[.int .i64 (z1z (soB 13 (cmpV a b).1)).kind,.int .i64 (z1z (soB 13 (cmpV a b).1)).n,.string (z1z (soB 13 (cmpV a b).1)).s]) (by unfold results;go_simp) rfl ?_;refine⟨rfl,?_⟩;have h5:=hx.trans h4;exact((h5.setCell (by show w.heap.size≤w.heap.size+1+1;omega) _).setCell (by show w.heap.size≤w.heap.size+1+1;omega) _).setCell (by show w.heap.size≤w.heap.size+1+1;omega) _
theorem z2ps(c:Int):(List.take 2 ([-1,0]:List Int)).contains c=soB 14 c:=by
 simp only[y20,y21,y2z,y30,y31];unfold soB;rw[if_neg (by decide),if_neg (by decide),if_neg (by decide),if_pos rfl,y27];simp only[y1g,beq_iff_eq,decide_eq_true_eq]
set_option maxHeartbeats 2000000 in
theorem z29s(a b:Val)(w:World)(hld:Laid w)(hc:∀W,Laid W→Calls Tryz.prog 152 #[aggV a,aggV b] W fun e w'=>e=.returned (.tuple #[.int .i64 (cmpV a b).1,.bool true])∧Ext W w')
  (hB:∀W x,Laid W→Calls Tryz.prog 39 #[.bool x] W fun e w'=>e=.returned (.agg #[.int .i64 (z1z x).kind,.int .i64 (z1z x).n,.string (z1z x).s])∧Ext W w'):
  Calls Tryz.prog 164 #[.int .i64 14,aggV a,aggV b] w fun e w'=>e=.returned (aggV (z1z (soB 14 (cmpV a b).1)))∧Ext w w':=by
 unfold aggV at hc ⊢;have mixed:Tryz.prog.follows .mixedOrders=true:=by kernel_rfl
 have hmm:=@run_makeMap Tryz.prog;have hm:Tryz.prog.underlying 193=some (.map 3 42):=by kernel_rfl
 go_enter Tryz.func164,Tryz.ntmps164
 go_wp2_with (first
  |(go_at_call 152;refine(hc _ (hld.ext ((((Ext.refl w).alloc _).alloc _).alloc _))).mono ?_;rintro e w1 ⟨rfl,h1⟩;have hz:=zkl h1;obtain⟨z0,z1,z2,q0⟩:=zdc hz;have hx:Ext w w1:=((((Ext.refl w).alloc _).alloc _).alloc _).trans h1;have u1:=updC hm [rowO [0]] w1 (ent w1 0).toArray 0 11 (.slice (some ⟨w1.heap.size+1,0,none⟩) 1 1) rfl;have u2:=updC hm [rowO [0],rowO [-1,1]] w1 (ent w1 1).toArray 1 12 (.slice (some ⟨w1.heap.size+1+1,0,none⟩) 2 2) rfl;have u3:=updC hm [rowO [0],rowO [-1,1],rowO [-1]] w1 (ent w1 2).toArray 2 13 (.slice (some ⟨w1.heap.size+1+1+1,0,none⟩) 1 1) rfl;have u4:=updC hm [rowO [0],rowO [-1,1],rowO [-1],rowO [-1,0]] w1 (ent w1 3).toArray 3 14 (.slice (some ⟨w1.heap.size+1+1+1+1,0,none⟩) 2 2) rfl;have u5:=updC hm [rowO [0],rowO [-1,1],rowO [-1],rowO [-1,0],rowO [1]] w1 (ent w1 4).toArray 4 15 (.slice (some ⟨w1.heap.size+1+1+1+1+1,0,none⟩) 1 1) rfl;have u6:=updC hm [rowO [0],rowO [-1,1],rowO [-1],rowO [-1,0],rowO [1],rowO [0,1]] w1 (ent w1 5).toArray 5 16 (.slice (some ⟨w1.heap.size+1+1+1+1+1+1,0,none⟩) 2 2) rfl;have lk:=z1dl hm [rowO [0],rowO [-1,1],rowO [-1],rowO [-1,0],rowO [1],rowO [0,1]] w1 (ent w1 6).toArray 6 14 3 (.slice (some ⟨w1.heap.size+1+1+1+1,0,none⟩) 2 2) rfl;have hro:=zl7 (zl6 [rowO [0],rowO [-1,1],rowO [-1],rowO [-1,0],rowO [1],rowO [0,1]] w1 (.map (ent w1 6).toArray 6) 3 (rowO [-1,0]) rfl);have hce:=zl8 [rowO [0],rowO [-1,1],rowO [-1],rowO [-1,0],rowO [1],rowO [0,1]] w1 (.map (ent w1 6).toArray 6);simp only[yx,y2m,ent,sgn,rowO,y21,y20,y32,y33,yy,y1o,yt,y1r,y34,y15,yw,y16,Nat.reduceAdd]at u1 u2 u3 u4 u5 u6 lk hro hce)
  |(go_at_call 206;refine(Tryz.slices_Contains_int (w1.heap.size+1+1+1+1) 0 2 2 [-1,0] (cmpV a b).1 _ (by decide) (by decide) (fun j hj=>by rw[y16];exact hro j hj)).mono ?_;rintro e w2 ⟨rfl,rfl⟩;simp only[z2ps])
  |(go_at_call 39;refine(hB _ _ (hld.ext (hx.trans hce))).mono ?_;rintro e w3 ⟨rfl,h3⟩;have hlt:w.heap.size+1+1<w1.heap.size:=z6j (p:=⟨w.heap.size+1+1,0,none⟩) z0;have h4:=hce.trans h3;have hz3:=(h4.block hlt).trans hz;obtain⟨y0,y1,y2,p0⟩:=zdc hz3))
 refine bodyPost_ret (v:=.agg #[.int .i64 (z1z (soB 14 (cmpV a b).1)).kind,.int .i64 (z1z (soB 14 (cmpV a b).1)).n,.string (z1z (soB 14 (cmpV a b).1)).s]) (by unfold results;go_simp) rfl ?_;refine⟨rfl,?_⟩;have h5:=hx.trans h4;exact((h5.setCell (by show w.heap.size≤w.heap.size+1+1;omega) _).setCell (by show w.heap.size≤w.heap.size+1+1;omega) _).setCell (by show w.heap.size≤w.heap.size+1+1;omega) _
theorem z2pt(c:Int):(List.take 1 ([1]:List Int)).contains c=soB 15 c:=by
 simp only[y20,y21,y2z,y30,y31];unfold soB;rw[if_neg (by decide),if_neg (by decide),if_neg (by decide),if_neg (by decide),if_pos rfl,y27];simp only[y1g,beq_iff_eq,decide_eq_true_eq]
set_option maxHeartbeats 2000000 in
theorem z29t(a b:Val)(w:World)(hld:Laid w)(hc:∀W,Laid W→Calls Tryz.prog 152 #[aggV a,aggV b] W fun e w'=>e=.returned (.tuple #[.int .i64 (cmpV a b).1,.bool true])∧Ext W w')
  (hB:∀W x,Laid W→Calls Tryz.prog 39 #[.bool x] W fun e w'=>e=.returned (.agg #[.int .i64 (z1z x).kind,.int .i64 (z1z x).n,.string (z1z x).s])∧Ext W w'):
  Calls Tryz.prog 164 #[.int .i64 15,aggV a,aggV b] w fun e w'=>e=.returned (aggV (z1z (soB 15 (cmpV a b).1)))∧Ext w w':=by
 unfold aggV at hc ⊢;have mixed:Tryz.prog.follows .mixedOrders=true:=by kernel_rfl
 have hmm:=@run_makeMap Tryz.prog;have hm:Tryz.prog.underlying 193=some (.map 3 42):=by kernel_rfl
 go_enter Tryz.func164,Tryz.ntmps164
 go_wp2_with (first
  |(go_at_call 152;refine(hc _ (hld.ext ((((Ext.refl w).alloc _).alloc _).alloc _))).mono ?_;rintro e w1 ⟨rfl,h1⟩;have hz:=zkl h1;obtain⟨z0,z1,z2,q0⟩:=zdc hz;have hx:Ext w w1:=((((Ext.refl w).alloc _).alloc _).alloc _).trans h1;have u1:=updC hm [rowO [0]] w1 (ent w1 0).toArray 0 11 (.slice (some ⟨w1.heap.size+1,0,none⟩) 1 1) rfl;have u2:=updC hm [rowO [0],rowO [-1,1]] w1 (ent w1 1).toArray 1 12 (.slice (some ⟨w1.heap.size+1+1,0,none⟩) 2 2) rfl;have u3:=updC hm [rowO [0],rowO [-1,1],rowO [-1]] w1 (ent w1 2).toArray 2 13 (.slice (some ⟨w1.heap.size+1+1+1,0,none⟩) 1 1) rfl;have u4:=updC hm [rowO [0],rowO [-1,1],rowO [-1],rowO [-1,0]] w1 (ent w1 3).toArray 3 14 (.slice (some ⟨w1.heap.size+1+1+1+1,0,none⟩) 2 2) rfl;have u5:=updC hm [rowO [0],rowO [-1,1],rowO [-1],rowO [-1,0],rowO [1]] w1 (ent w1 4).toArray 4 15 (.slice (some ⟨w1.heap.size+1+1+1+1+1,0,none⟩) 1 1) rfl;have u6:=updC hm [rowO [0],rowO [-1,1],rowO [-1],rowO [-1,0],rowO [1],rowO [0,1]] w1 (ent w1 5).toArray 5 16 (.slice (some ⟨w1.heap.size+1+1+1+1+1+1,0,none⟩) 2 2) rfl;have lk:=z1dl hm [rowO [0],rowO [-1,1],rowO [-1],rowO [-1,0],rowO [1],rowO [0,1]] w1 (ent w1 6).toArray 6 15 4 (.slice (some ⟨w1.heap.size+1+1+1+1+1,0,none⟩) 1 1) rfl;have hro:=zl7 (zl6 [rowO [0],rowO [-1,1],rowO [-1],rowO [-1,0],rowO [1],rowO [0,1]] w1 (.map (ent w1 6).toArray 6) 4 (rowO [1]) rfl);have hce:=zl8 [rowO [0],rowO [-1,1],rowO [-1],rowO [-1,0],rowO [1],rowO [0,1]] w1 (.map (ent w1 6).toArray 6);simp only[yx,y2m,ent,sgn,rowO,y21,y20,y32,y33,yy,y1o,yt,y1r,y34,y15,yw,y16,Nat.reduceAdd]at u1 u2 u3 u4 u5 u6 lk hro hce)
  |(go_at_call 206;refine(Tryz.slices_Contains_int (w1.heap.size+1+1+1+1+1) 0 1 1 [1] (cmpV a b).1 _ (by decide) (by decide) (fun j hj=>by rw[y16];exact hro j hj)).mono ?_;rintro e w2 ⟨rfl,rfl⟩;simp only[z2pt])
  |(go_at_call 39;refine(hB _ _ (hld.ext (hx.trans hce))).mono ?_;rintro e w3 ⟨rfl,h3⟩;have hlt:w.heap.size+1+1<w1.heap.size:=z6j (p:=⟨w.heap.size+1+1,0,none⟩) z0;have h4:=hce.trans h3;have hz3:=(h4.block hlt).trans hz;obtain⟨y0,y1,y2,p0⟩:=zdc hz3))
 refine bodyPost_ret (v:=.agg #[.int .i64 (z1z (soB 15 (cmpV a b).1)).kind,.int .i64 (z1z (soB 15 (cmpV a b).1)).n,.string (z1z (soB 15 (cmpV a b).1)).s]) (by unfold results;go_simp) rfl ?_;refine⟨rfl,?_⟩;have h5:=hx.trans h4;exact((h5.setCell (by show w.heap.size≤w.heap.size+1+1;omega) _).setCell (by show w.heap.size≤w.heap.size+1+1;omega) _).setCell (by show w.heap.size≤w.heap.size+1+1;omega) _
theorem z2pu(c:Int):(List.take 2 ([0,1]:List Int)).contains c=soB 16 c:=by
 simp only[y20,y21,y2z,y30,y31];unfold soB;rw[if_neg (by decide),if_neg (by decide),if_neg (by decide),if_neg (by decide),if_neg (by decide),y27];simp only[y1g,beq_iff_eq,decide_eq_true_eq]
set_option maxHeartbeats 2000000 in
theorem z29u(a b:Val)(w:World)(hld:Laid w)(hc:∀W,Laid W→Calls Tryz.prog 152 #[aggV a,aggV b] W fun e w'=>e=.returned (.tuple #[.int .i64 (cmpV a b).1,.bool true])∧Ext W w')
  (hB:∀W x,Laid W→Calls Tryz.prog 39 #[.bool x] W fun e w'=>e=.returned (.agg #[.int .i64 (z1z x).kind,.int .i64 (z1z x).n,.string (z1z x).s])∧Ext W w'):
  Calls Tryz.prog 164 #[.int .i64 16,aggV a,aggV b] w fun e w'=>e=.returned (aggV (z1z (soB 16 (cmpV a b).1)))∧Ext w w':=by
 unfold aggV at hc ⊢;have mixed:Tryz.prog.follows .mixedOrders=true:=by kernel_rfl
 have hmm:=@run_makeMap Tryz.prog;have hm:Tryz.prog.underlying 193=some (.map 3 42):=by kernel_rfl
 go_enter Tryz.func164,Tryz.ntmps164
 go_wp2_with (first
  |(go_at_call 152;refine(hc _ (hld.ext ((((Ext.refl w).alloc _).alloc _).alloc _))).mono ?_;rintro e w1 ⟨rfl,h1⟩;have hz:=zkl h1;obtain⟨z0,z1,z2,q0⟩:=zdc hz;have hx:Ext w w1:=((((Ext.refl w).alloc _).alloc _).alloc _).trans h1;have u1:=updC hm [rowO [0]] w1 (ent w1 0).toArray 0 11 (.slice (some ⟨w1.heap.size+1,0,none⟩) 1 1) rfl;have u2:=updC hm [rowO [0],rowO [-1,1]] w1 (ent w1 1).toArray 1 12 (.slice (some ⟨w1.heap.size+1+1,0,none⟩) 2 2) rfl;have u3:=updC hm [rowO [0],rowO [-1,1],rowO [-1]] w1 (ent w1 2).toArray 2 13 (.slice (some ⟨w1.heap.size+1+1+1,0,none⟩) 1 1) rfl;have u4:=updC hm [rowO [0],rowO [-1,1],rowO [-1],rowO [-1,0]] w1 (ent w1 3).toArray 3 14 (.slice (some ⟨w1.heap.size+1+1+1+1,0,none⟩) 2 2) rfl;have u5:=updC hm [rowO [0],rowO [-1,1],rowO [-1],rowO [-1,0],rowO [1]] w1 (ent w1 4).toArray 4 15 (.slice (some ⟨w1.heap.size+1+1+1+1+1,0,none⟩) 1 1) rfl;have u6:=updC hm [rowO [0],rowO [-1,1],rowO [-1],rowO [-1,0],rowO [1],rowO [0,1]] w1 (ent w1 5).toArray 5 16 (.slice (some ⟨w1.heap.size+1+1+1+1+1+1,0,none⟩) 2 2) rfl;have lk:=z1dl hm [rowO [0],rowO [-1,1],rowO [-1],rowO [-1,0],rowO [1],rowO [0,1]] w1 (ent w1 6).toArray 6 16 5 (.slice (some ⟨w1.heap.size+1+1+1+1+1+1,0,none⟩) 2 2) rfl;have hro:=zl7 (zl6 [rowO [0],rowO [-1,1],rowO [-1],rowO [-1,0],rowO [1],rowO [0,1]] w1 (.map (ent w1 6).toArray 6) 5 (rowO [0,1]) rfl);have hce:=zl8 [rowO [0],rowO [-1,1],rowO [-1],rowO [-1,0],rowO [1],rowO [0,1]] w1 (.map (ent w1 6).toArray 6);simp only[yx,y2m,ent,sgn,rowO,y21,y20,y32,y33,yy,y1o,yt,y1r,y34,y15,yw,y16,Nat.reduceAdd]at u1 u2 u3 u4 u5 u6 lk hro hce)
  |(go_at_call 206;refine(Tryz.slices_Contains_int (w1.heap.size+1+1+1+1+1+1) 0 2 2 [0,1] (cmpV a b).1 _ (by decide) (by decide) (fun j hj=>by rw[y16];exact hro j hj)).mono ?_;rintro e w2 ⟨rfl,rfl⟩;simp only[z2pu])
  |(go_at_call 39;refine(hB _ _ (hld.ext (hx.trans hce))).mono ?_;rintro e w3 ⟨rfl,h3⟩;have hlt:w.heap.size+1+1<w1.heap.size:=z6j (p:=⟨w.heap.size+1+1,0,none⟩) z0;have h4:=hce.trans h3;have hz3:=(h4.block hlt).trans hz;obtain⟨y0,y1,y2,p0⟩:=zdc hz3))
 refine bodyPost_ret (v:=.agg #[.int .i64 (z1z (soB 16 (cmpV a b).1)).kind,.int .i64 (z1z (soB 16 (cmpV a b).1)).n,.string (z1z (soB 16 (cmpV a b).1)).s]) (by unfold results;go_simp) rfl ?_;refine⟨rfl,?_⟩;have h5:=hx.trans h4;exact((h5.setCell (by show w.heap.size≤w.heap.size+1+1;omega) _).setCell (by show w.heap.size≤w.heap.size+1+1;omega) _).setCell (by show w.heap.size≤w.heap.size+1+1;omega) _
theorem z25i{St:Nat→Nat→Prop}{w:World}{v:Value}{a:Val}(h:DRel Tryz.prog En St w v (.d (.agg (enc .val a)))):v=aggV a∧WI a.kind∧WI a.n∧WStr a.s:=by
 obtain⟨arr,rfl,hall⟩:=h;have e:arr=arr.toList.toArray:=y4e.symm;rw[e];generalize arr.toList=l at hall
 match l,hall with
 |[x0,x1,x2],⟨h0,h1,h2,_⟩=>
  have g0:VRel En St w x0 (.s (.int .i64 a.kind)):=h0;have g1:VRel En St w x1 (.s (.int .i64 a.n)):=h1;have g2:VRel En St w x2 (.s (.string a.s)):=h2;cases g0 with
  |s _ k0=>cases g1 with
   |s _ k1=>cases g2 with
    |s _ k2=>exact⟨rfl,oneC_i64.1 k0,oneC_i64.1 k1,oneC_str.1 k2⟩
theorem z2bg{St:Nat→Nat→Prop}{w:World}{a:Val}(h1:WI a.kind)(h2:WI a.n)(h3:WStr a.s):DRel Tryz.prog En St w (aggV a) (.d (.agg (enc .val a))):=
 ⟨_,rfl,.s _ (oneC_i64.2 h1),.s _ (oneC_i64.2 h2),.s _ (oneC_str.2 h3),trivial⟩
theorem z20r{a b:Val}(ha:WI a.kind∧WI a.n∧WStr a.s)(hb:WI b.kind∧WI b.n∧WStr b.s)(W:World)(hlW:Laid W):Calls Tryz.prog 152 #[aggV a,aggV b] W fun e w'=>e=.returned (.tuple #[.int .i64 (cmpV a b).1,.bool (cmpV a b).2])∧Ext W w':=by
 have hF:z8l [.d (.agg (enc .val a)),.d (.agg (enc .val b))]=some ([],z4i (z1t a b),z4j (z1t a b)):=by
  unfold z8l;simp only[z114];rfl
 have hc:=(zkj _ _ _ _ hF (by simp)).1 W (fun _ _=>False) [aggV a,aggV b] (fun _ _ h=>h.elim) ⟨z2bg ha.1 ha.2.1 ha.2.2,z2bg hb.1 hb.2.1 hb.2.2,trivial⟩ hlW;refine hc.mono ?_;rintro e w' ⟨v,rfl,hx,g,_,_,_,hr,_⟩;refine⟨?_,hx⟩;rw[z1k8]at hr;obtain⟨arr,rfl,hall⟩:=hr;have e:arr=arr.toList.toArray:=y4e.symm;rw[e];generalize arr.toList=l at hall
 match l,hall with
 |[x0,x1],⟨h0,h1,_⟩=>
  obtain⟨rfl,_⟩:=h0;obtain⟨rfl,_⟩:=h1;rfl
theorem zhk(W:World)(x:Bool)(hlW:Laid W):Calls Tryz.prog 39 #[.bool x] W fun e w'=>e=.returned (.agg #[.int .i64 (z1z x).kind,.int .i64 (z1z x).n,.string (z1z x).s])∧Ext W w':=by
 have hF:zdb [.d (.v (cb x))]=some ([],zwb (z2z x),zwc (z2z x)):=by
  unfold zdb;simp only[z2pi];rfl
 have hc:=(zsq _ _ _ _ hF (by simp)).1 W (fun _ _=>False) [.bool x] (fun _ _ h=>h.elim) ⟨.s _ rfl,trivial⟩ hlW;refine hc.mono ?_;rintro e w' ⟨v,rfl,hx,g,_,_,_,hr,_⟩;refine⟨?_,hx⟩;rw[zy1]at hr;obtain⟨arr,rfl,hall⟩:=hr;have e:arr=arr.toList.toArray:=y4e.symm;rw[e];generalize arr.toList=l at hall
 match l,hall with
 |[x0,x1,x2],⟨h0,h1,h2,_⟩=>
  obtain⟨rfl,_⟩:=h0;obtain⟨rfl,_⟩:=h1;obtain⟨rfl,_⟩:=h2;rfl
theorem z2eb(op:Int)(a b:Val):WI (cmpO op a b).kind∧WI (cmpO op a b).n∧WStr (cmpO op a b).s:=by
 unfold cmpO z1z z7;split
 ·refine⟨by simp only;omega,?_,by show(0:Nat)≤_;omega⟩;simp only;split<;>omega
 ·exact⟨by simp only;omega,by simp only;omega,by show(0:Nat)≤_;omega⟩
theorem zru:FnOK 164 zck:=by
 intro args ob rs os h hob;unfold zck at h;split at h
 ·rename_i x0 x1 x2;simp only[y7,y8,ym]at h;obtain⟨op,e0,a,e1,b,e2,rfl,rfl,rfl⟩:=h;obtain rfl:=z17 e0;obtain rfl:=zt e1;obtain rfl:=zt e2;refine⟨?_,zk Tryz.func164 (by kernel_rfl) (by kernel_rfl)⟩;have hr:=hob _ (yi.2 rfl);intro w St vs hbd hvs hld
  match vs,hvs with
  |[v0,v1,v2],⟨h0,h1,h2,_⟩=>
   obtain⟨rfl,-⟩:=zw3 h0;obtain⟨rfl,ha⟩:=z25i h1;obtain⟨rfl,hb⟩:=z25i h2;have hc:=z20r ha hb;have main:Calls Tryz.prog 164 #[.int .i64 op,aggV a,aggV b] w fun e w'=>e=.returned (aggV (cmpO op a b))∧Ext w w':=by
    unfold cmpO;cases hk:(cmpV a b).2
    ·rw[if_neg (by decide)];rw[hk]at hc;exact z20q op a b w hk hld hc
    ·rw[if_pos rfl];rw[hk]at hc;have hcase:op=11∨op=12∨op=13∨op=14∨op=15∨op=16:=by omega
     rcases hcase with rfl|rfl|rfl|rfl|rfl|rfl
     ·exact z29p a b w hld hc zhk
     ·exact z29q a b w hld hc zhk
     ·exact z29r a b w hld hc zhk
     ·exact z29s a b w hld hc zhk
     ·exact z29t a b w hld hc zhk
     ·exact z29u a b w hld hc zhk
   refine main.mono ?_;rintro e w' ⟨rfl,hx⟩;obtain⟨k0,k1,k2⟩:=z2eb op a b;let gg:G:={β:=fun _=>0,lb:=fun _=>False,ω:=fun _ _=>none,tk:=fun _=>(none,0)};exact⟨_,rfl,hx,gg,fun _ h=>h,fun b o x _ h=>by simp[gg]at h,fun b o x h=>by simp[gg]at h,⟨_,rfl,⟨rfl,oneC_i64.2 k0⟩,⟨rfl,oneC_i64.2 k1⟩,⟨rfl,oneC_str.2 k2⟩,trivial⟩,fun k o h=>by simp at h⟩
 ·simp at h
end B
namespace B
open Go Go.RowKit
set_option maxRecDepth 1000000
def zwg(s:ByteArray)(j:Nat):UInt8:=s.data.toList.getD j 0
structure RowT(w:World)(s:ByteArray)(f b:Int)(k:Nat)(wr:World):Prop where
 ext:Ext w wr
 cell:∀j,j<s.size→wr.cell? ⟨w.heap.size,j,none⟩=some (.int .u8 ((if j<k then zu9 f b (zwg s j)else zwg s j).toNat:Nat))
 fr:∀j,j<s.size→wr.frozen? ⟨w.heap.size,j,none⟩=false
theorem z2i0(w:World)(e:TypeId)(s:ByteArray):Ext w (Lib.bytesWorld w e s):=by
 have h:Ext w ((w.drew.alloc (.cells (Lib.bytesCells w e s) e))):=((Ext.refl w).drew).alloc _;have hs:=Lib.bytesWorld_size w e s;refine⟨rfl,rfl,rfl,by omega,fun k hk=>Lib.bytesWorld_at_old w e s k hk⟩
theorem z2ec(w:World)(e:TypeId)(s:ByteArray)(f b:Int):RowT w s f b 0 (Lib.bytesWorld w e s) where
 ext:=z2i0 w e s
 cell j hj:=by
  rw[Lib.bytesWorld_cell w e s j hj,if_neg (by omega)];rfl
 fr j hj:=by
  unfold World.frozen?;simp only[Lib.bytesWorld_at_new];have:s.size≤(Lib.bytesCells w e s).size:=by
   unfold Lib.bytesCells;rw[Array.size_append,Array.size_map];exact y46 _ _
  simp only[Bool.and_eq_false_iff,decide_eq_false_iff_not];omega
theorem RowT.step{w wr:World}{s:ByteArray}{f b:Int}{k:Nat}(h:RowT w s f b k wr)(hk:k<s.size)(v:Value)(hv:v=.int .u8 ((zu9 f b (zwg s k)).toNat:Nat)):RowT w s f b (k+1) (wr.setCell ⟨w.heap.size,k,none⟩ v) where
 ext:=h.ext.setCell (y6 _) _
 cell j hj:=by
  by_cases e:j=k
  ·subst e;rw[World.cell?_setCell_same _ _ _ (h.cell j hj),if_pos (by omega),hv]
  ·rw[World.cell?_setCell_other _ _ _ _ (by simp only[ne_eq,Addr.mk.injEq,not_and];omega),h.cell j hj];by_cases hjk:j<k
   ·rw[if_pos hjk,if_pos (by omega)]
   ·rw[if_neg hjk,if_neg (by omega)]
 fr j hj:=by rw[World.frozen?_setCell];exact h.fr j hj
theorem RowT.stay{w wr:World}{s:ByteArray}{f b:Int}{k:Nat}(h:RowT w s f b k wr)(hv:zu9 f b (zwg s k)=zwg s k):RowT w s f b (k+1) wr where
 ext:=h.ext
 cell j hj:=by
  rw[h.cell j hj];by_cases e:j=k
  ·subst e;rw[if_neg (by omega),if_pos (by omega),hv]
  ·by_cases hjk:j<k
   ·rw[if_pos hjk,if_pos (by omega)]
   ·rw[if_neg hjk,if_neg (by omega)]
 fr:=h.fr
theorem z29v(s:ByteArray)(f b:Int)(w:World)(hs:s.size≤2000000):Calls Tryz.prog 212 #[.string s,.int .u8 f,.int .i64 b] w fun e w'=>e=.returned (.string (zne s f b))∧Ext w w':=by
 have h9:Tryz.prog.underlying 9=some .string:=by kernel_rfl
 have hB:Tryz.prog.underlying 201=some (.slice 5):=by kernel_rfl
 have h5:Tryz.prog.underlying 5=some (.int .u8):=by kernel_rfl
 have hconv:=Lib.run_convert_string_bytes (P:=Tryz.prog) w 9 201 5 s h9 hB h5;have hst:=Lib.hid (z2ec w 5 s f b);generalize Lib.bytesWorld w 5 s=w1 at hconv hst;generalize grownCap w s.size 0 5=cp at hconv
 go_enter Tryz.func212,Tryz.ntmps212
 go_wp2_with fail
 go_loopw [14] (fun i wr=>∃k:Nat,k≤s.size∧i=.int .i64 k∧RowT w s f b k wr) (fun i _=>s.size- (intOf i).toNat)
 case atStart=>exact⟨0,by omega,rfl,hst.out⟩
 case round=>
  obtain⟨k,hk,rfl,hr⟩:=hrel;by_cases hlt:k<s.size
  ·have e1:=hr.cell k hlt;have e2:=hr.fr k hlt;rw[if_neg (y4f _)]at e1;have HR:=Lib.hid hr;clear hr;generalize hc:zwg s k=c at e1
   go_wp2_with fail
   ·refine⟨⟨k+1,by omega,by simp,HR.out.step hlt _ ?_⟩,by simp[intOf];omega⟩;rename_i h1 h2;unfold zu9;rw[hc,if_pos ⟨h1,by rw[IntKind.wrap_u8];exact h2⟩,IntKind.wrap_u8];have e:IntKind.i64.wrap ((c.toNat:Int)+b)=wrap64 ((c.toNat:Int)+b):=by rw[IntKind.wrap_i64];unfold wrap64;rfl
    rw[e];generalize wrap64 ((c.toNat:Int)+b)=y;congr 1;have h3:(UInt8.ofNat (y % 256).toNat).toNat=(y % 256).toNat % 256:=UInt8.toNat_ofNat';rw[h3];omega
   ·refine⟨⟨k+1,by omega,by simp,HR.out.stay ?_⟩,by simp[intOf];omega⟩;unfold zu9;rw[hc,if_neg];rintro⟨_,h⟩;rw[IntKind.wrap_u8]at h;omega
   ·refine⟨⟨k+1,by omega,by simp,HR.out.stay ?_⟩,by simp[intOf];omega⟩;unfold zu9;rw[hc,if_neg];rintro⟨h,_⟩;omega
  ·have hke:k=s.size:=by omega
   subst hke
   have hback:=run_convert_bytes_back (P:=Tryz.prog) wr 201 9 5 ⟨w.heap.size,0,none⟩ cp (s.toList.map (zu9 f b)) hB h5 h9 (fun j hj=>by
    rw[yu,z39]at hj;have:=hr.cell j hj;rw[if_pos hj]at this;have ea:(⟨w.heap.size,0,none⟩:Addr).add j=⟨w.heap.size,j,none⟩:=by unfold Addr.add;split<;>simp_all
    rw[ea,this,y3p];congr 4;unfold zwg;rw[yd,ya (by rw[y1n];exact hj),y49]
    simp only[ByteArray.toList_eq])
   rw[yu,z39]at hback;have hx:=hr.ext;clear hr
   go_wp2_with fail
   go_ret;exact⟨rfl,hx⟩
theorem z1ke:FnOK 212 znf:=by
 intro args ob rs os h hob;unfold znf at h;split at h
 ·rename_i x0 x1 x2;simp only[y7,y8,ym]at h;obtain⟨s,e0,f,e1,b,e2,rfl,rfl,rfl⟩:=h;obtain rfl:=z3y e0;obtain rfl:=z17 e1;obtain rfl:=z17 e2;refine⟨?_,zk Tryz.func212 (by kernel_rfl) (by kernel_rfl)⟩;have hr:=hob _ (yi.2 rfl);intro w St vs hbd hvs hld
  match vs,hvs with
  |[v0,v1,v2],⟨h0,h1,h2,_⟩=>
   obtain⟨rfl,hs⟩:=zw2 h0;obtain⟨rfl,-⟩:=zw3 h1;obtain⟨rfl,-⟩:=zw3 h2;refine(z29v s f b w hr).mono ?_;rintro e w' ⟨rfl,hx⟩;let gg:G:={β:=fun _=>0,lb:=fun _=>False,ω:=fun _ _=>none,tk:=fun _=>(none,0)};exact⟨_,rfl,hx,gg,fun _ h=>h,fun b o x _ h=>by simp[gg]at h,fun b o x h=>by simp[gg]at h,⟨rfl,oneC_str.2 (by rw[z14w];exact hs)⟩,fun k o h=>by simp at h⟩
 ·simp at h
end B
namespace B
open Go Go.RowKit
set_option maxRecDepth 100000
noncomputable section
attribute [local irreducible] awp ctxK zw z1a retQ z1m awf ctxF z1l
def z1b8(s:ByteArray):Option (RF Un):=fnF_ z1f6 z286 Tryz.f163 0 [.d] [.d (.v (cs s))]
theorem z25j(s:ByteArray):z1b8 s=some (zzd ({kind:=(3:Int),n:=(0:Int),s:=s})):=by kernel_rfl
def z9m(s:ByteArray):Val:=
 ({kind:=(3:Int),n:=(0:Int),s:=s})
theorem z25k(s:ByteArray):z1b8 s=some (zzd (z9m s)):=by rw[z25j];unfold z9m;simp only[z8];repeat(first|rfl|split)
def z10c:FnC Un:=fnF1 dStr fun s=>([],zzd (z9m s))
theorem z1b9:FnOK 163 z10c:=fnK1 z3y (M:=z1f6) rfl trivial trivial trivial trivial trivial Tryz.func163 fun s=>GiF.r fun _ _=>z25k s
def z1yb(v:Val)(kind:Int):Option (RF Un):=fnF_ z1f6 z286 Tryz.f200 0 [.d] [.d (.agg (enc Ty.val v)),.box [.v (.s (.int .i64 kind))]]
theorem z2i1(v:Val)(kind:Int):z1yb v kind=some (z9b (v.kind !=kind)):=by kernel_rfl
def zng(v:Val)(kind:Int):Bool:=v.kind !=kind
theorem z29x(v:Val)(kind:Int)(_hv:WS .val v)(_hk:WI kind)(_h:True):z1yb v kind=some (z9b (zng v kind)):=by
 rw[z2i1];rfl
def z1kf:List (List (DC Un))→Option (FV Un):=fun dl=>match dl with
 |[b0]=>(bI .i64 b0).bind fun kind=>some (zy (fun v=>True) (fun v=>zng v kind))
 |_=>none
theorem z2ed:ClOK 200 z1kf:=by
 refine⟨zk Tryz.func200 (by kernel_rfl) (by kernel_rfl),fun dl φ args ob rs hF hφ hob=>?_⟩;unfold z1kf at hF;split at hF
 ·simp only[y7,y8]at hF;obtain⟨kind,g0,hE⟩:=hF;subst hE;obtain rfl:=z2pj g0;unfold zy at hφ;split at hφ
  ·simp only[y7,y8,ym]at hφ;obtain⟨v,e0,rfl,rfl⟩:=hφ;simp only[yy,y1o,y15,yw];rw[zt e0];exact Contract.data (z2d (M:=z1f6) rfl (z4o (l1:=[]) (l2:=[]) (l3:=[]) (l4:=[]) (l5:=[]) trivial trivial trivial trivial trivial) Tryz.func200 (by kernel_rfl) z286 0 [.d] (fun hwf=>(z29x v kind (z57 hwf (a:=.d (.agg (enc Ty.val v))) (ye (i:=0) rfl)) (z57 hwf (a:=.box [.v (.s (.int .i64 kind))]) (ye (i:=1) rfl)) (hob _ (ye (i:=0) rfl)))))
  ·simp at hφ
 ·simp at hF
def z122:Mc Un:=mcF_ [(199,z10a)] [] [(200,z1kf)] [] []
def zy2(l:List Val)(kind:Int):Option (RF Un):=fnF_ z122 z286 Tryz.f157 0 [.d] [.d (.v (.dat (U:=Un) Ty.val l)),.d (.v (.s (.int .i64 kind)))]
theorem z1pw(l:List Val)(kind:Int):zy2 l kind=obO ((zy (fun v=>True) fun v=>zng v kind)=zy (z18 (zy (fun v=>True) fun v=>zng v kind)) (z1n (zy (fun v=>True) fun v=>zng v kind))) (obO (zbr (z18 (zy (fun v=>True) fun v=>zng v kind)) l) (some (z9b (!zl5 l (z18 (zy (fun v=>True) fun v=>zng v kind)) (z1n (zy (fun v=>True) fun v=>zng v kind)))))):=by kernel_rfl
def z4v(l:List Val)(kind:Int):Bool:=l.all fun v=>v.kind==kind
theorem z1eb(l:List Val)(kind:Int)(_hl:WL .val l)(_hk:WI kind):zy2 l kind=some (z9b (z4v l kind)):=by
 rw[z1pw];simp only[zk9,zk8];rw[z6 trivial,z6 (show zbr _ l from fun _ _=>trivial)];unfold z4v zl5 zng;congr 2;clear _hl
 induction l with
 |nil=>rfl
 |cons x l ih=>rw[List.any_cons,y1h,Bool.not_or,ih];simp[bne]
def z123:FnC Un:=fnF2 (dL .val) (dI .i64) fun l kind=>([],z9b (z4v l kind))
theorem z1px:FnOK 157 z123:=fnK2 zr z17 (M:=z122) rfl ⟨z25h,trivial⟩ trivial ⟨z2ed,trivial⟩ trivial trivial Tryz.func157 fun l kind=>GiF.r fun w _=>z1eb l kind (wfA_ w 0) (wfA_ w 1)
def z16r:Mc Un:=mcF_ [(32,zer)] [] [] [] []
def z124(n:Int)(ok:Bool):Option (RF Un):=fnF_ z16r z286 Tryz.f158 0 [.d] [.d (.v (.s (.int .i64 n))),.d (.v (cb ok))]
theorem z1uk(n:Int)(ok:Bool):z124 n ok=cndO (!ok) (some (zzd (z7))) (some (zzd (zh n))):=by kernel_rfl
def z4a(n:Int)(ok:Bool):Val:=
  if(!ok)=true then
   (z7)
  else
   (zh n)
theorem z1ul(n:Int)(ok:Bool):z124 n ok=some (zzd (z4a n ok)):=by rw[z1uk];unfold z4a;simp only[z8];repeat(first|rfl|split)
def zsr:FnC Un:=fnF2 (dI .i64) dB fun n ok=>([],zzd (z4a n ok))
theorem z125:FnOK 158 zsr:=fnK2 z17 z1d7 (M:=z16r) rfl ⟨zfs,trivial⟩ trivial trivial trivial trivial Tryz.func158 fun n ok=>GiF.r fun _ _=>z1ul n ok
def z16s:Mc Un:=mcF_ [(161,ze4),(155,zf5)] [] [] [] []
def z126(f:Int→Int→Int)(a:Val)(b:Val):Option (RF Un):=fnF_ z16s z286 Tryz.f165 0 [.d] [.fn (z1i f),.d (.agg (enc Ty.val a)),.d (.agg (enc Ty.val b))]
theorem z1um(f:Int→Int→Int)(a:Val)(b:Val):z126 f a b=some (zwd (z66 (f (z2k a) (z2k b)))):=by kernel_rfl
def z6e(f:Int→Int→Int)(a b:Val):Val:=z66 (f (z2k a) (z2k b))
theorem z1kg(f:Int→Int→Int)(a b:Val)(_ha:WS .val a)(_hb:WS .val b):z126 f a b=some (zwd (z6e f a b)):=by
 rw[z1um];rfl
def zss:FnC Un:=fun args=>match args with
 |[x0,x1,x2]=>(dF x0).bind fun f=>(dS .val x1).bind fun a=>(dS .val x2).bind fun b=>some ([f=(z1i (z11 f))],zwb (z6e (z11 f) a b),zwc (z6e (z11 f) a b))
 |_=>none
theorem z1un:FnOK 165 zss:=by
 intro args ob rs os h hob;unfold zss at h;split at h
 ·simp only[y7,y8,ym]at h;obtain⟨f,e0,a,e1,b,e2,rfl,rfl,rfl⟩:=h;obtain rfl:=zpb e0;obtain rfl:=zt e1;obtain rfl:=zt e2;have hfv0:=hob _ (ye (i:=0) rfl);generalize z11 f=pp0 at*;subst hfv0;exact⟨z2d (M:=z16s) rfl (z4o (l1:=[(161,ze4),(155,zf5)]) (l2:=[]) (l3:=[]) (l4:=[]) (l5:=[]) ⟨ziu,zna,trivial⟩ trivial trivial trivial trivial) Tryz.func165 (by kernel_rfl) z286 0 [.d] (fun hwf=>(z1kg pp0 a b (z57 hwf (a:=.d (.agg (enc Ty.val a))) (ye (i:=1) rfl)) (z57 hwf (a:=.d (.agg (enc Ty.val b))) (ye (i:=2) rfl)))),zk Tryz.func165 (by kernel_rfl) (by kernel_rfl)⟩
 ·simp at h
def zhl:Mc Un:=mcF_ [(164,zck),(161,ze4),(208,z1y9),(155,zf5)] [] [] [] []
def zoq:Nat→NS:=nsF_ [(3,{ts:=bl 25 1844,bs:=bl 25 20,nm:=[(.sl 5,100)]})] false
def z8m(v:Val)(l:List Val)(v0:Int)(v1:List Int):S Un:=(st 25 25 101 0 [(2,ax 2),(4,ax 4),(5,ao 100),(8,al .val l),(9,ai (↑l.length:Int)),(10,ai v0)] [(2,bg .val v),(4,bg .val z7)] [(100,some ⟨(0:Nat),Ty.int,v1,some (0:Nat),true⟩)])
def zfe:S Un→Option (EX Un):=lpF_ zhl zoq Tryz.f168 [1,1,0,1,2,2] 3
def zy3:Exit→S Un→Option (RF Un):=cxF_ zhl zoq Tryz.f168 [1,1,0,1,2] [.d]
def zy4(v:Val)(l:List Val):Option (RF Un):=fnF_ zhl zoq Tryz.f168 1 [.d] [.d (.agg (enc Ty.val v)),.d (.v (.dat (U:=Un) Ty.val l))]
theorem z1py(v:Val)(l:List Val):zy4 v l=(zfe (z8m v l (0:Int) ([]))).bind (zd zy3):=by kernel_rfl
theorem zy5(v:Val)(l:List Val)(v0:Int)(v1:List Int):zfe (z8m v l v0 v1)=cndO (decide (v0<(↑l.length:Int))) (obO (0≤v0∧v0<(↑l.length:Int)) (obO ((11:Int)≤(11:Int)∧(11:Int)≤(16:Int)) (obO ((v1.length+[z2k (cmpO (11:Int) v (l.getD v0.toNat z7))].length)*(8:Nat)≤ze) (zfe (z8m v l (IntKind.i64.wrap (v0+1)) (v1++[z2k (cmpO (11:Int) v (l.getD v0.toNat z7))])))))) (some (.exit 0,(z8m v l v0 v1))):=lpQ_ (by kernel_rfl)
theorem z1ba(v:Val)(l:List Val)(v0:Int)(v1:List Int):zy3 (.exit 0) (z8m v l v0 v1)=some (zzd (z66 (z1dk v1))):=by kernel_rfl
def zgk(v:Val)(l:List Val):Val:=z66 (z1dk (l.map fun x=>z2k (cmpO 11 v x)))
theorem zgl{α β:Type}(f:α→β):∀(l:List α)(o:List β),l.foldl (fun o x=>o++[f x]) o=o++l.map f
 |[],o=>by simp
 |x::l,o=>by rw[yx,zgl f l];simp
theorem z1ec(v:Val)(l:List Val)(_hv:WS .val v)(hl:WL .val l)(h:l.length≤2000000):zy4 v l=some (zzd (zgk v l)):=by
 obtain⟨lp,_⟩:=z1j (e:=.exit 0) (L:=zfe) (st:=fun(o:List Int) i=>z8m v l i o) (l:=l) (d:=z7) (g:=fun o x=>o++[z2k (cmpO 11 v x)]) (fun i o=>o.length=i) hl.len
  (fun o i x hi hx hI=>by
   have hI':o.length=i:=hI;refine⟨by show(o++[_]).length=i+1;rw[y9,yf];omega,?_⟩;rw[zy5];simp only[z8,hi,decide_true,if_true,and_true,y5,hx]
   rw[z6 (by omega),z6 (by omega),z6 (by unfold ze;rw[yf];omega)])
  (fun o _=>by rw[zy5];simp[z8]) [] rfl
 rw[zgl,yw]at lp;rw[z1py];refine(zj lp).trans ?_;rw[z1ba];rfl
def z127:FnC Un:=fnF2 (dS .val) (dL .val) fun v l=>([l.length≤2000000],zzd (zgk v l))
theorem z1pz:FnOK 168 z127:=fnK2 zt zr (M:=zhl) rfl ⟨zru,ziu,z2e7,zna,trivial⟩ trivial trivial trivial trivial Tryz.func168 fun v l=>GiF.r fun w o=>z1ec v l (wfA_ w 0) (wfA_ w 1) (obA_ o 0)
def zhm:Mc Un:=mcF_ [(161,ze4)] [] [] [] []
def zor:Nat→NS:=nsF_ [(1,{ts:=bl 23 5,bs:=bl 23 4,nm:=[],gb:=[2]})] false
def z1v(b2:Val)(v0:List Val):S Un:=(st 23 23 92 0 [(0,al .val v0),(2,ax 2)] [(2,bg .val b2)] [])
def z4k:S Un→Option (EX Un):=lpF_ zhm zor Tryz.f169 [1,0,2,2] 1
def zff:Exit→S Un→Option (RF Un):=cxF_ zhm zor Tryz.f169 [1,0,2] [.d]
def zy6(l:List Val):Option (RF Un):=fnF_ zhm zor Tryz.f169 0 [.d] [.d (.v (.dat (U:=Un) Ty.val l))]
theorem z1q0(l:List Val):zy6 l=(z4k (z1v z7 l)).bind (zd zff):=by kernel_rfl
theorem zfg(b2:Val)(v0:List Val):z4k (z1v b2 v0)=cndO (decide ((↑v0.length:Int)>(1:Int))) (obO ((0:Int)≤(0:Int)∧(0:Int)<(↑v0.length:Int)) (cndO (z2k (v0.getD 0 z7)==2) (obO ((0:Int)≤(1:Int)∧(1:Int)<(↑v0.length:Int)) (some (.ret,(z1v (v0.getD 1 z7) v0)))) (obO ((0:Int)≤(2:Int)∧(2:Int)≤(↑v0.length:Int)) (z4k (z1v b2 (List.drop 2 v0)))))) (some (.exit 0,(z1v b2 v0))):=lpQ_ (by kernel_rfl)
theorem z17u(b2:Val)(v0:List Val):zff .ret (z1v b2 v0)=some (zzd (b2)):=by kernel_rfl
theorem zrv(b2:Val)(v0:List Val):zff (.exit 0) (z1v b2 v0)=cndO ((↑v0.length:Int)==(1:Int)) (obO ((0:Int)≤(0:Int)∧(0:Int)<(↑v0.length:Int)) (some (zzd (v0.getD 0 z7)))) (some (zzd (z7))):=by kernel_rfl
def zwh:List Val→Val
 |[]=>z7
 |[x]=>x
 |c::v::r=>if z2k c=2 then v else zwh r
def znh(l:List Val):Val:=zwh l
theorem z2ee:∀(n:Nat)(l:List Val),l.length≤n→(z4k (z1v z7 l)).bind (zd zff)=some (zzd (zwh l)):=by
 intro n
 induction n using Nat.strongRecOn with
 |ind n ih=>
  intro l hn
  match l,hn with
  |[],_=>
   have e:z4k (z1v z7 [])=some (.exit 0,z1v z7 []):=by rw[zfg];rfl
   rw[zj e,zrv];rfl
  |[x],_=>
   have e:z4k (z1v z7 [x])=some (.exit 0,z1v z7 [x]):=by rw[zfg];rfl
   rw[zj e,zrv,z8,if_pos (by simp),z6 (by simp)];rfl
  |c::v::r,hn=>
   simp only[yt]at hn;have hg0:(c::v::r).getD 0 z7=c:=rfl;have hg1:(c::v::r).getD 1 z7=v:=rfl;have hd:List.drop 2 (c::v::r)=r:=rfl;have hl:((c::v::r).length:Int)=(r.length:Int)+2:=by simp only[yt];omega
   by_cases h:z2k c=2
   ·have e:z4k (z1v z7 (c::v::r))=some (.ret,z1v v (c::v::r)):=by
     rw[zfg,hg0,hg1,hl,z8,if_pos (by simp;omega),z6 (by omega),z8,if_pos (by simpa using h),z6 (by omega)]
    rw[zj e,z17u];simp only[zwh];rw[if_pos h]
   ·have e:z4k (z1v z7 (c::v::r))=z4k (z1v z7 r):=by
     rw[zfg,hg0,hg1,hl,hd,z8,if_pos (by simp;omega),z6 (by omega),z8,if_neg (by simpa using h),z6 (by omega)]
    rw[e,ih r.length (by omega) r (y6 _)];simp only[zwh];rw[if_neg h]
theorem z1ed(l:List Val)(_hl:WL .val l):zy6 l=some (zzd (znh l)):=by
 rw[z1q0];exact z2ee _ l (y6 _)
def z128:FnC Un:=fnF1 (dL .val) fun l=>([],zzd (znh l))
theorem z1q1:FnOK 169 z128:=fnK1 zr (M:=zhm) rfl ⟨ziu,trivial⟩ trivial trivial trivial trivial Tryz.func169 fun l=>GiF.r fun w _=>z1ed l (wfA_ w 0)
def z1q2(v:Val):Option (RF Un):=fnF_ z1f6 z286 Tryz.f210 0 [.d] [.d (.agg (enc Ty.val v))]
theorem z2ef(v:Val):z1q2 v=some (z1h7 (v.kind !=0)):=by kernel_rfl
def zf6(v:Val):Bool:=
 (v.kind !=(0:Int))
theorem z2eg(v:Val):z1q2 v=some (z1h7 (zf6 v)):=by rw[z2ef];unfold zf6;simp only[z8];repeat(first|rfl|split)
def zy7:FnC Un:=fun args=>match args with
 |[x0]=>(dS .val x0).bind fun v=>some ([],zv8 (zf6 v),zv9 (zf6 v))
 |_=>none
theorem z2eh:FnOK 210 zy7:=by
 intro args ob rs os h hob;unfold zy7 at h;split at h
 ·simp only[y7,y8,ym]at h;obtain⟨v,e0,rfl,rfl,rfl⟩:=h;obtain rfl:=zt e0;exact⟨z2d (M:=z1f6) rfl (z4o (l1:=[]) (l2:=[]) (l3:=[]) (l4:=[]) (l5:=[]) trivial trivial trivial trivial trivial) Tryz.func210 (by kernel_rfl) z286 0 [.d] (fun hwf=>(z2eg v)),zk Tryz.func210 (by kernel_rfl) (by kernel_rfl)⟩
 ·simp at h
def z2n:FV Un:=zy (fun v=>True) (fun v=>zf6 v)
theorem z29y:FvOK 210 z2n:=by
 refine⟨zk Tryz.func210 (by kernel_rfl) (by kernel_rfl),fun args ob rs h hob=>?_⟩;unfold z2n zy at h;split at h
 ·simp only[y7,y8,ym]at h;obtain⟨v,e0,rfl,rfl⟩:=h;simp only[yy,y1o];rw[zt e0];refine Contract.data (z2eh _ ([]) _ _ (?_:zy7 _=some _) (by simp)).1;unfold zy7;simp only[z114];rfl
 ·simp at h
def zy8:Mc Un:=mcF_ [(209,ziv),(152,z8l),(159,z1at),(158,zsr),(211,zc2),(32,zer),(212,znf),(163,z10c)] [(210,z2n)] [] [] []
def zwi(name:ByteArray)(l:List Val):Option (RF Un):=fnF_ zy8 z286 Tryz.f170 0 [.d] [.d (.v (cs name)),.d (.v (.dat (U:=Un) Ty.val l))]
def ze5(name:ByteArray)(l:List Val):Option (RF Un):=obO ((0:Int)≤(0:Int)∧(0:Int)<(↑l.length:Int)) (cndO ((l.getD 0 z7).kind !=3) (some (zzd (z7))) (cndO (name.toList==(ByteArray.mk #[108,101,110,103,116,104]).toList) (obO ((0:Int)≤(0:Int)∧(0:Int)<(↑l.length:Int)) (some (zzd (zh (↑(l.getD 0 z7).s.size:Int))))) (cndO (name.toList==(ByteArray.mk #[108,111,119,101,114]).toList) (obO ((0:Int)≤(0:Int)∧(0:Int)<(↑l.length:Int)) (obO ((l.getD 0 z7).s.size≤(2000000:Nat)) (some (zzd (z9m (zne (l.getD 0 z7).s (65:Int) (32:Int))))))) (cndO (name.toList==(ByteArray.mk #[117,112,112,101,114]).toList) (obO ((0:Int)≤(0:Int)∧(0:Int)<(↑l.length:Int)) (obO ((l.getD 0 z7).s.size≤(2000000:Nat)) (some (zzd (z9m (zne (l.getD 0 z7).s (97:Int) (-32:Int))))))) (some (zzd (z7)))))))
def ze6(name:ByteArray)(l:List Val):Option (RF Un):=cndO ((↑l.length:Int) !=(1:Int)) (some (zzd (z7))) (cndO (name.toList==(ByteArray.mk #[97,98,115]).toList) (obO ((0:Int)≤(0:Int)∧(0:Int)<(↑l.length:Int)) (cndO ((l.getD 0 z7).kind ==2) (obO ((0:Int)≤(0:Int)∧(0:Int)<(↑l.length:Int)) (cndO (decide ((l.getD 0 z7).n<0)) (some (zzd (z4a (zd9 (l.getD 0 z7).n).fst (zd9 (l.getD 0 z7).n).snd))) (some (zzd (z4a (l.getD 0 z7).n (z1o (l.getD 0 z7).n)))))) (ze5 name l))) (ze5 name l))
theorem z1kh(name:ByteArray)(l:List Val):zwi name l=cndO (name.toList==(ByteArray.mk #[99,111,97,108,101,115,99,101]).toList) (obO (z2n=zy (z18 z2n) (z1n z2n)) (obO (zbr (z18 z2n) l) (cndO (decide (z3h l (z18 z2n) (z1n z2n)≥0)) (obO (0≤z3h l (z18 z2n) (z1n z2n)∧z3h l (z18 z2n) (z1n z2n)<(↑l.length:Int)) (some (zzd (l.getD (z3h l (z18 z2n) (z1n z2n)).toNat z7)))) (some (zzd (z7)))))) (cndO (name.toList==(ByteArray.mk #[110,117,108,108,105,102]).toList) (cndO ((↑l.length:Int)==(2:Int)) (obO ((0:Int)≤(0:Int)∧(0:Int)<(↑l.length:Int)) (obO ((0:Int)≤(1:Int)∧(1:Int)<(↑l.length:Int)) (cndO (!(z1t (l.getD 0 z7) (l.getD 1 z7)).snd) (obO ((0:Int)≤(0:Int)∧(0:Int)<(↑l.length:Int)) (some (zzd (l.getD 0 z7)))) (cndO ((z1t (l.getD 0 z7) (l.getD 1 z7)).fst !=0) (obO ((0:Int)≤(0:Int)∧(0:Int)<(↑l.length:Int)) (some (zzd (l.getD 0 z7)))) (some (zzd (z7))))))) (ze6 name l)) (ze6 name l)):=by kernel_rfl
def txts(l:List Val):Prop:=l.length≤2000000∧∀x∈l,x.s.size≤2000000
def nmB(name:ByteArray)(x:ByteArray):Bool:=name.toList==x.toList
def z1dm(name:ByteArray)(x:Val):Val:=
 if x.kind≠3 then z7
 else if nmB name ⟨#[108,101,110,103,116,104]⟩=true then zh (x.s.size:Int)
 else if nmB name ⟨#[108,111,119,101,114]⟩=true then z9m (zne x.s 65 32)
 else if nmB name ⟨#[117,112,112,101,114]⟩=true then z9m (zne x.s 97 (-32))
 else z7
def z1dn(name:ByteArray)(l:List Val):Val:=
 if l.length≠1 then z7
 else if nmB name ⟨#[97,98,115]⟩=true∧(l.getD 0 z7).kind=2 then(if(l.getD 0 z7).n<0 then z4a (zd9 (l.getD 0 z7).n).1 (zd9 (l.getD 0 z7).n).2 else z4a (l.getD 0 z7).n (z1o (l.getD 0 z7).n))
 else z1dm name (l.getD 0 z7)
def z25o(l:List Val):Val:=if 0≤z3h l (fun _=>True) zf6 then l.getD (z3h l (fun _=>True) zf6).toNat z7 else z7
def z8u(name:ByteArray)(l:List Val):Val:=
 if nmB name ⟨#[99,111,97,108,101,115,99,101]⟩=true then z25o l
 else if nmB name ⟨#[110,117,108,108,105,102]⟩=true∧l.length=2 then(if(z1t (l.getD 0 z7) (l.getD 1 z7)).2=true∧(z1t (l.getD 0 z7) (l.getD 1 z7)).1=0 then z7 else l.getD 0 z7)
 else z1dn name l
theorem z25p(s:List Val)(o:Val→Prop)(f:Val→Bool):z3h s o f<(s.length:Int)∨z3h s o f=-1:=by
 unfold z3h;cases h:s.findIdx? f with
 |none=>exact .inr rfl
 |some i=>
  obtain⟨h1,_,_⟩:=y2b.1 h;exact .inl (by show(i:Int)<_;omega)
theorem z1q4{β:Type}(x y:Option β):cndO false x y=y:=rfl
theorem z1q5{β:Type}(x y:Option β):cndO true x y=x:=rfl
theorem z2i2(name:ByteArray)(l:List Val)(hl:l.length=1)(h:txts l):ze5 name l=some (zzd (z1dm name (l.getD 0 z7))):=by
 have hm:(l.getD 0 z7).s.size≤2000000:=h.2 _ (by rw[yd,ya (by omega)];exact y1z _);unfold ze5 z1dm nmB;generalize l.getD 0 z7=x at hm;have p0:∀y:Option (RF Un),obO ((0:Int)≤(0:Int)∧(0:Int)<(l.length:Int)) y=y:=fun y=>z6 (by omega);have p1:∀y:Option (RF Un),obO (x.s.size≤2000000) y=y:=fun y=>z6 hm;simp only[p0,p1];generalize(name.toList==(ByteArray.mk #[108,101,110,103,116,104]).toList)=q1;generalize(name.toList==(ByteArray.mk #[108,111,119,101,114]).toList)=q2;generalize(name.toList==(ByteArray.mk #[117,112,112,101,114]).toList)=q3;by_cases h3:x.kind=3
 ·have e3:(x.kind !=3)=false:=by simp[h3]
  rw[e3,z1q4,if_neg (fun e=>e h3)];cases q1<;>cases q2<;>cases q3<;>rfl
 ·have e3:(x.kind !=3)=true:=by simp[h3]
  rw[e3,z1q5,if_pos h3]
theorem z2i3(name:ByteArray)(l:List Val)(h:txts l):ze6 name l=some (zzd (z1dn name l)):=by
 unfold ze6 z1dn;by_cases hl:l.length=1
 ·have e0:((l.length:Int) !=1)=false:=by rw[hl];rfl
  rw[e0,z1q4,if_neg (fun e=>e hl),z2i2 name l hl h];have hb:(name.toList==(ByteArray.mk #[97,98,115]).toList)=nmB name ⟨#[97,98,115]⟩:=rfl;rw[hb];cases nmB name ⟨#[97,98,115]⟩
  ·rw[z1q4,if_neg (fun e=>by simp at e)]
  ·rw[z1q5,z6 (by omega)];by_cases hk:(l.getD 0 z7).kind=2
   ·have ek:((l.getD 0 z7).kind ==2)=true:=by rw[hk];rfl
    rw[ek,z1q5,z6 (by omega),if_pos ⟨rfl,hk⟩,z8];by_cases hn:(l.getD 0 z7).n<0
    ·rw[if_pos (decide_eq_true hn),if_pos hn]
    ·rw[if_neg (fun e=>hn (of_decide_eq_true e)),if_neg hn]
   ·have ek:((l.getD 0 z7).kind ==2)=false:=by rw[beq_eq_false_iff_ne];exact hk
    rw[ek,z1q4,if_neg (fun e=>hk e.2)]
 ·have e0:((l.length:Int) !=1)=true:=by simp;omega
  rw[e0,z1q5,if_pos hl]
theorem z1bb(name:ByteArray)(l:List Val)(_hn:WStr name)(_hl:WL .val l)(h:txts l):zwi name l=some (zzd (z8u name l)):=by
 have o1:z18 z2n=fun _=>True:=by unfold z2n;exact zk9 _ _
 have o2:z1n z2n=zf6:=by unfold z2n;exact zk8 _ _
 have o3:z2n=zy (z18 z2n) (z1n z2n):=by rw[o1,o2];rfl
 rw[z1kh,z6 o3,o1,o2,z6 (show zbr _ l from fun _ _=>trivial),z2i3 name l h];unfold z8u z25o;have hb:(name.toList==(ByteArray.mk #[99,111,97,108,101,115,99,101]).toList)=nmB name ⟨#[99,111,97,108,101,115,99,101]⟩:=rfl;have hb2:(name.toList==(ByteArray.mk #[110,117,108,108,105,102]).toList)=nmB name ⟨#[110,117,108,108,105,102]⟩:=rfl;rw[hb,hb2];generalize nmB name ⟨#[99,111,97,108,101,115,99,101]⟩=q1;generalize nmB name ⟨#[110,117,108,108,105,102]⟩=q2;cases q1
 ·rw[z8,if_neg (by decide),if_neg (by decide)];cases q2
  ·rw[z8,if_neg (by decide),if_neg (fun e=>by simp at e)]
  ·rw[z8,if_pos rfl,z8];by_cases h2:l.length=2
   ·rw[if_pos (by simp;omega),if_pos ⟨rfl,h2⟩,z6 (by omega),z6 (by omega),z6 (by omega)];cases(z1t (l.getD 0 z7) (l.getD 1 z7)).2
    ·rw[if_neg (fun e=>by simp at e)];rfl
    ·simp only[z8,y4c,bne_iff_ne,ne_eq];by_cases h5:(z1t (l.getD 0 z7) (l.getD 1 z7)).1=0
     ·rw[if_neg (by decide),if_neg (fun e=>e h5),if_pos ⟨trivial,h5⟩]
     ·rw[if_neg (by decide),if_pos h5,if_neg (fun e=>h5 e.2)]
   ·rw[if_neg (by simp;omega),if_neg (fun e=>h2 e.2)]
 ·rw[z8,if_pos rfl,if_pos rfl,z8];have hlt:=z25p l (fun _=>True) zf6;by_cases h3:0≤z3h l (fun _=>True) zf6
  ·rw[if_pos (decide_eq_true h3),if_pos h3,z6 (by omega)]
  ·rw[if_neg (fun e=>h3 (of_decide_eq_true e)),if_neg h3]
def zy9:FnC Un:=fnF2 dStr (dL .val) fun name l=>([txts l],zzd (z8u name l))
theorem z1ki:FnOK 170 zy9:=fnK2 z3y zr (M:=zy8) rfl ⟨z1b4,zkj,z1pg,z125,zbf,zfs,z1ke,z1b9,trivial⟩ ⟨z29y,trivial⟩ trivial trivial trivial Tryz.func170 fun name l=>GiF.r fun w o=>z1bb name l (wfA_ w 0) (wfA_ w 1) (obA_ o 0)
end
end B
namespace B
open Go Go.RowKit
set_option maxRecDepth 100000
noncomputable section
attribute [local irreducible] awp ctxK zw z1a retQ z1m awf ctxF z1l
def z1q6(op:Int)(name:ByteArray)(l:List Val):Val:=
 if op=3 then(if z4v l 2=true then z4a (zd9 (l.getD 0 z7).n).1 (zd9 (l.getD 0 z7).n).2 else z7)
 else if op=4 then z66 (z121 (z2k (l.getD 0 z7)))
 else if op=19 then z2z ((l.getD 0 z7).kind ==0)
 else if op=5∨op=6∨op=7∨op=8∨op=9 then(if z4v l 2=true then z4a (twoN op (l.getD 0 z7).n (l.getD 1 z7).n).1 (twoN op (l.getD 0 z7).n (l.getD 1 z7).n).2 else z7)
 else if op=10 then(if z4v l 3=true then(if(l.getD 0 z7).s.size+(l.getD 1 z7).s.size≤100 then z9m ((l.getD 0 z7).s++(l.getD 1 z7).s)else z7)else z7)
 else if op=11∨op=12∨op=13∨op=14∨op=15∨op=16 then cmpO op (l.getD 0 z7) (l.getD 1 z7)
 else if op=17 then z6e zl4 (l.getD 0 z7) (l.getD 1 z7)
 else if op=18 then z6e z91 (l.getD 0 z7) (l.getD 1 z7)
 else if op=20 then(if z4v l 3=true then z2z (znc (l.getD 0 z7).s (l.getD 1 z7).s)else z7)
 else if op=21 then zgk (l.getD 0 z7) (l.drop 1)
 else if op=22 then z6e zl4 (cmpO 16 (l.getD 0 z7) (l.getD 1 z7)) (cmpO 14 (l.getD 0 z7) (l.getD 2 z7))
 else if op=23 then znh l
 else if op=24 then z8u name l
 else z7
def cntN(op:Int):Int×Bool:=if op=3∨op=4∨op=19 then(1,false)else if op=22 then(3,false)else if op=21∨op=23 then(2,true)else if op=24 then(0,true)else(2,false)
def zya(op:Int):Option (RF Un):=fnF_ z1f6 z28d Tryz.f156 0 [.d,.d] [.d (.v (.s (.int .i64 op)))]
theorem z1q7(op:Int):zya op=cndO (op==3) (some (zmj ((1:Int),false))) (cndO (op==4) (some (zmj ((1:Int),false))) (cndO (op==19) (some (zmj ((1:Int),false))) (cndO (op==22) (some (zmj ((3:Int),false))) (cndO (op==21) (some (zmj ((2:Int),true))) (cndO (op==23) (some (zmj ((2:Int),true))) (cndO (op==24) (some (zmj ((0:Int),true))) (some (zmj ((2:Int),false))))))))):=by kernel_rfl
def zaj(op:Int):Int×Bool:=cntN op
theorem z1ee(op:Int)(_h:WI op):zya op=some (zmj (zaj op)):=by
 rw[z1q7];unfold zaj cntN;simp only[z8,y1g,beq_iff_eq];grind
def z12a:FnC Un:=fnF1 (dI .i64) fun op=>([],zmj (zaj op))
theorem z1q8:FnOK 156 z12a:=fnK1 z17 (M:=z1f6) rfl trivial trivial trivial trivial trivial Tryz.func156 fun op=>GiF.r fun w _=>z1ee op (wfA_ w 0)
def z12b:Mc Un:=mcF_ [(156,z12a),(157,z123),(159,z1at),(158,zsr),(161,ze4),(160,z1y2),(155,zf5),(39,zdb),(162,zwe),(163,z10c),(164,zck),(165,zss),(167,z1b2),(168,z127),(169,z128),(170,zy9)] [(166,z77),(153,ze3)] [] [] []
def zyb(op:Int)(l:List Val):=z4a (twoN op (l.getD 0 z7).n (l.getD 1 z7).n).fst (twoN op (l.getD 0 z7).n (l.getD 1 z7).n).snd
def zyc(l:List Val):=z6e (z11 z77) (l.getD 0 z7) (l.getD 1 z7)
def zyd(l:List Val):=z6e (z11 ze3) (l.getD 0 z7) (l.getD 1 z7)
def zye(l:List Val):=z6e (z11 z77) (cmpO (16:Int) (l.getD 0 z7) (l.getD 1 z7)) (cmpO (14:Int) (l.getD 0 z7) (l.getD 2 z7))
def zyf(op:Int)(name:ByteArray)(l:List Val):Option (RF Un):=fnF_ z12b z28d Tryz.f120 0 [.d] [.d (.v (.s (.int .i64 op))),.d (.v (cs name)),.d (.v (.dat (U:=Un) Ty.val l))]
def z8n(op:Int)(l:List Val):Option (RF Un):=cndO (z4v l (2:Int)) (obO (5≤op∧op≤9) (obO ((0:Int)≤(0:Int)∧(0:Int)<(↑l.length:Int)) (obO ((0:Int)≤(1:Int)∧(1:Int)<(↑l.length:Int)) (some (zzd (zyb op l)))))) (some (zzd (z7)))
def z6u(op:Int)(l:List Val):Option (RF Un):=obO ((0:Int)≤(0:Int)∧(0:Int)<(↑l.length:Int)) (obO ((0:Int)≤(1:Int)∧(1:Int)<(↑l.length:Int)) (obO (11≤op∧op≤16) (some (zzd (cmpO op (l.getD 0 z7) (l.getD 1 z7))))))
def zfh(op:Int)(name:ByteArray)(l:List Val):Option (RF Un):=cndO (op==3) (cndO (z4v l (2:Int)) (obO ((0:Int)≤(0:Int)∧(0:Int)<(↑l.length:Int)) (some (zzd (z4a (zd9 (l.getD 0 z7).n).fst (zd9 (l.getD 0 z7).n).snd)))) (some (zzd (z7)))) (cndO (op==4) (obO ((0:Int)≤(0:Int)∧(0:Int)<(↑l.length:Int)) (some (zzd (z66 (z121 (z2k (l.getD 0 z7))))))) (cndO (op==19) (obO ((0:Int)≤(0:Int)∧(0:Int)<(↑l.length:Int)) (some (zzd (z2z ((l.getD 0 z7).kind ==0))))) (cndO (op==5) (z8n op l) (cndO (op==6) (z8n op l) (cndO (op==7) (z8n op l) (cndO (op==8) (z8n op l) (cndO (op==9) (z8n op l) (cndO (op==10) (cndO (z4v l (3:Int)) (obO ((0:Int)≤(0:Int)∧(0:Int)<(↑l.length:Int)) (obO ((0:Int)≤(1:Int)∧(1:Int)<(↑l.length:Int)) (cndO (decide (IntKind.i64.wrap ((↑(l.getD 0 z7).s.size:Int)+(↑(l.getD 1 z7).s.size:Int))≤100)) (obO ((0:Int)≤(0:Int)∧(0:Int)<(↑l.length:Int)) (obO ((0:Int)≤(1:Int)∧(1:Int)<(↑l.length:Int)) (obO ((l.getD 0 z7).s.size+(l.getD 1 z7).s.size≤(9223372036854775807:Nat)) (some (zzd (z9m ((l.getD 0 z7).s++(l.getD 1 z7).s))))))) (some (zzd (z7)))))) (some (zzd (z7)))) (cndO (op==11) (z6u op l) (cndO (op==12) (z6u op l) (cndO (op==13) (z6u op l) (cndO (op==14) (z6u op l) (cndO (op==15) (z6u op l) (cndO (op==16) (z6u op l) (cndO (op==17) (obO ((0:Int)≤(0:Int)∧(0:Int)<(↑l.length:Int)) (obO ((0:Int)≤(1:Int)∧(1:Int)<(↑l.length:Int)) (obO (z77=z1i (z11 z77)) (some (zzd (zyc l)))))) (cndO (op==18) (obO ((0:Int)≤(0:Int)∧(0:Int)<(↑l.length:Int)) (obO ((0:Int)≤(1:Int)∧(1:Int)<(↑l.length:Int)) (obO (ze3=z1i (z11 ze3)) (some (zzd (zyd l)))))) (cndO (op==20) (cndO (z4v l (3:Int)) (obO ((0:Int)≤(0:Int)∧(0:Int)<(↑l.length:Int)) (obO ((0:Int)≤(1:Int)∧(1:Int)<(↑l.length:Int)) (obO ((l.getD 0 z7).s.size≤(2000000:Nat)) (obO ((l.getD 1 z7).s.size≤(2000000:Nat)) (some (zzd (z2z (znc (l.getD 0 z7).s (l.getD 1 z7).s)))))))) (some (zzd (z7)))) (cndO (op==21) (obO ((0:Int)≤(0:Int)∧(0:Int)<(↑l.length:Int)) (obO ((0:Int)≤(1:Int)∧(1:Int)≤(↑l.length:Int)) (obO ((List.drop 1 l).length≤(2000000:Nat)) (some (zzd (zgk (l.getD 0 z7) (List.drop 1 l))))))) (cndO (op==22) (obO ((0:Int)≤(0:Int)∧(0:Int)<(↑l.length:Int)) (obO ((0:Int)≤(1:Int)∧(1:Int)<(↑l.length:Int)) (obO ((11:Int)≤(16:Int)∧(16:Int)≤(16:Int)) (obO ((0:Int)≤(0:Int)∧(0:Int)<(↑l.length:Int)) (obO ((0:Int)≤(2:Int)∧(2:Int)<(↑l.length:Int)) (obO ((11:Int)≤(14:Int)∧(14:Int)≤(16:Int)) (obO (z77=z1i (z11 z77)) (some (zzd (zye l)))))))))) (cndO (op==23) (some (zzd (znh l))) (cndO (op==24) (obO (txts l) (some (zzd (z8u name l)))) (some (zzd (z7))))))))))))))))))))))))
theorem z1q9(op:Int)(name:ByteArray)(l:List Val):zyf op name l=cndO (decide ((↑l.length:Int)<(zaj op).fst)) (some (zzd (z7))) (cndO (!(zaj op).snd) (cndO (decide ((↑l.length:Int)>(zaj op).fst)) (some (zzd (z7))) (zfh op name l)) (zfh op name l)):=by kernel_rfl
def z1y(op:Int)(name:ByteArray)(l:List Val):Val:=if(l.length:Int)<(cntN op).1∨((cntN op).2=false∧(l.length:Int)>(cntN op).1)then z7 else z1q6 op name l
theorem z1bc(op:Int)(name:ByteArray)(l:List Val)(h:txts l)(hn:¬((l.length:Int)<(cntN op).1∨((cntN op).2=false∧(l.length:Int)>(cntN op).1))):zfh op name l=some (zzd (z1q6 op name l)):=by
 have hlen:=h.1;have ht:∀i,i<l.length→(l.getD i z7).s.size≤2000000:=fun i hi=>h.2 _ (by grind);have hvA:z77=z1i (z11 z77):=by rfl
 have hfA:z11 z77=zl4:=by rfl
 have hvO:ze3=z1i (z11 ze3):=by rfl
 have hfO:z11 ze3=z91:=by rfl
 unfold zfh z1q6;simp only[z119];simp only[z8,y1g,beq_iff_eq];by_cases h3:op=3
 ·have hc:l.length=1:=by have:cntN 3=(1,false):=rfl;grind
  grind[z6]
 rw[if_neg h3,if_neg h3];by_cases h4:op=4
 ·have hc:l.length=1:=by have:cntN 4=(1,false):=rfl;grind
  simp_all[if_pos,z6]
 rw[if_neg h4,if_neg h4];by_cases h19:op=19
 ·have hc:l.length=1:=by have:cntN 19=(1,false):=rfl;grind
  simp_all[if_pos,z6]
 by_cases h5:op=5∨op=6∨op=7∨op=8∨op=9
 ·have hc:l.length=2:=by
   have:cntN op=(2,false):=by unfold cntN;grind
   grind
  grind[z8n,zyb,z8,z6]
 rw[if_neg (by omega),if_neg h5];by_cases h10:op=10
 ·have hc:l.length=2:=by have:cntN 10=(2,false):=rfl;grind
  have a0:=ht 0 (by omega);have a1:=ht 1 (by omega);rw[if_pos h10,if_pos h10];split
  ·rw[z6 (by omega),z6 (by omega),z1f (by omega)];by_cases hs:(l.getD 0 z7).s.size+(l.getD 1 z7).s.size≤100
   ·rw[if_pos (by grind),if_pos hs,z6 (by omega),z6 (by omega),z6 (by omega)]
   grind
  rfl
 by_cases h11:op=11∨op=12∨op=13∨op=14∨op=15∨op=16
 ·have hc:l.length=2:=by
   have:cntN op=(2,false):=by unfold cntN;grind
   grind
  grind[z6u,z6]
 by_cases h17:op=17
 ·have hc:l.length=2:=by have:cntN 17=(2,false):=rfl;grind
  simp_all[if_pos,z6,zyc]
 by_cases h18:op=18
 ·have hc:l.length=2:=by have:cntN 18=(2,false):=rfl;grind
  simp_all[if_pos,z6,zyd]
 by_cases h20:op=20
 ·have hc:l.length=2:=by have:cntN 20=(2,false):=rfl;grind
  grind[z6]
 by_cases h21:op=21
 ·have hc:2≤l.length:=by have:cntN 21=(2,true):=rfl;grind
  grind[z6,List.length_drop]
 by_cases h22:op=22
 ·have hc:l.length=3:=by have:cntN 22=(3,false):=rfl;grind
  simp_all[if_pos,z6,trans,zye]
 by_cases h23:op=23
 ·grind
 by_cases h24:op=24
 all_goals simp_all[if_pos,z6,if_neg]
theorem z1ef(op:Int)(name:ByteArray)(l:List Val)(_ho:WI op)(_hn:WStr name)(_hl:WL .val l)(h:txts l):zyf op name l=some (zzd (z1y op name l)):=by
 rw[z1q9];unfold z1y zaj;by_cases h1:(l.length:Int)<(cntN op).1
 ·simp_all[z8,if_pos,decide_eq_true]
 by_cases h2:(cntN op).2=false∧(l.length:Int)>(cntN op).1
 ·simp_all[if_pos,z8,decide_eq_true]
 ·rw[if_neg (fun e=>e.elim h1 h2),z1bc op name l h (fun e=>e.elim h1 h2)]
  all_goals simp_all[z8,if_pos,if_neg,of_decide_eq_true]
def zos:FnC Un:=fnF3 (dI .i64) dStr (dL .val) fun op name l=>([txts l],zzd (z1y op name l))
theorem zyg:FnOK 120 zos:=fnK3 z17 z3y zr (M:=z12b) rfl ⟨z1q8,z1px,z1pg,z125,ziu,z2e0,zna,zsq,z20p,z1b9,zru,z1un,z20m,z1pz,z1q1,z1ki,trivial⟩ ⟨z29l,z2e4,trivial⟩ trivial trivial trivial Tryz.func120 fun op name l=>GiF.r fun w o=>z1ef op name l (wfA_ w 0) (wfA_ w 1) (wfA_ w 2) (obA_ o 0)
end
end B
namespace B
open Go Go.RowKit
set_option maxRecDepth 100000
noncomputable section
attribute [local irreducible] awp ctxK zw z1a retQ z1m awf ctxF z1l
def colV(depth at_:Int)(env:List (List Val)):Val:=if 0≤depth∧depth<(env.length:Int)∧0≤at_∧at_<((env.getD depth.toNat []).length:Int)then(env.getD depth.toNat []).getD at_.toNat z7 else z7
mutual
def zyh(ap:Int→ByteArray→List Val→Val)(env:List (List Val)):Term→Val
 | .mk op v depth at_ name kids _ _=>if op=1 then v else if op=2 then colV depth at_ env else if op=26∨op=27∨op=28 then z7 else ap op name (ziw ap env kids)
def ziw(ap:Int→ByteArray→List Val→Val)(env:List (List Val)):List Term→List Val
 |[]=>[]
 |t::l=>zyh ap env t::ziw ap env l
end
theorem z2ks(ap:Int→ByteArray→List Val→Val)(env:List (List Val))(t:Term):zyh ap env t=if t.op=1 then t.v else if t.op=2 then colV t.depth t.at_ env else if t.op=26∨t.op=27∨t.op=28 then z7 else ap t.op t.name (ziw ap env t.kids):=by cases t;simp only[zyh];rfl
theorem z14x(ap:Int→ByteArray→List Val→Val)(env:List (List Val)):∀l:List Term,ziw ap env l=l.map (zyh ap env)
 |[]=>rfl
 |t::l=>by simp only[ziw,yy,z14x ap env l]
end
end B
end Go.Proofs.YtjfpbchdcbhfgaaGreat
