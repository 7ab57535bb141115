/- Part 12 of the proof: Svals Svbool Lscal Lscal2 Lscal3 Sscal1 Sscal2n Sevalg. -/
import Derived.MapKept
import Derived.Carry
import Derived.Lib.ConvBytes
import Derived.Laws.IdiomStrings
import Derived.Test.YtjfpbchdcbhfgaaGreatNse11
set_option linter.unusedVariables false
set_option linter.unusedSimpArgs false
namespace Go.Proofs.YtjfpbchdcbhfgaaGreat
namespace B
open Go Go.RowKit
set_option maxRecDepth 100000
noncomputable section
attribute [local irreducible] awp ctxK zu z1a retQ z1m awf ctxF z1k
def zpr:Nat→NS:=nsF_ [(2,{ts:=bl 19 403,bs:=bl 19 0,nm:=[]})] false
def z4u(s:List Val)(f_o:Val→Prop)(f:Val→Bool)(v0:Int):S Un:=(st 19 19 76 0 [(0,al .val s),(1,AV.one (A.c (C.fv (zy f_o f)))),(4,ai (0:Int)),(7,ai (↑s.length:Int)),(8,ai v0)] [] [])
def zk1(s:List Val)(f_o:Val→Prop)(f:Val→Bool)(v0:Int)(v1:Int):S Un:=(st 19 19 76 0 [(0,al .val s),(1,AV.one (A.c (C.fv (zy f_o f)))),(4,ai v1),(7,ai (↑s.length:Int)),(8,ai v0)] [] [])
def z83:S Un→Option (EX Un):=lpF_ z1dq zpr Tryz.f209 [1,0,1,2,2] 2
def zmo:Exit→S Un→Option (RF Un):=cxF_ z1dq zpr Tryz.f209 [1,0,1,2] [.d]
def z19r(s:List Val)(f_o:Val→Prop)(f:Val→Bool):Option (RF Un):=fnF_ z1dq zpr Tryz.f209 0 [.d] [.d (.v (.dat (U:=Un) Ty.val s)),.fn (zy f_o f)]
theorem z23g(s:List Val)(f_o:Val→Prop)(f:Val→Bool):z19r s f_o f=(z83 (z4u s f_o f (0:Int))).bind (zd zmo):=by kernel_rfl
theorem zve(s:List Val)(f_o:Val→Prop)(f:Val→Bool)(v0:Int):z83 (z4u s f_o f v0)=cndO (decide (v0<(↑s.length:Int))) (obO (0≤v0∧v0<(↑s.length:Int)) (obO (f_o (s.getD v0.toNat z7)) (cndO (f (s.getD v0.toNat z7)) (some (.ret,(zk1 s f_o f v0 v0))) (z83 (z4u s f_o f (IntKind.i64.wrap (v0+1))))))) (some (.exit 0,(z4u s f_o f v0))):=lpQ_ (by kernel_rfl)
theorem z1iu(s:List Val)(f_o:Val→Prop)(f:Val→Bool)(v0:Int)(v1:Int):zmo .ret (zk1 s f_o f v0 v1)=some (z19f (v1)):=by kernel_rfl
theorem z1o7(s:List Val)(f_o:Val→Prop)(f:Val→Bool)(v0:Int):zmo (.exit 0) (z4u s f_o f v0)=some (z19f ((-1:Int))):=by kernel_rfl
def zbc(o:Val→Prop)(s:List Val):Prop:=∀x∈s,o x
def z3f(s:List Val)(_o:Val→Prop)(f:Val→Bool):Int:=match s.findIdx? f with|some i=>(i:Int)|none=>-1
theorem z1iv(s:List Val)(o:Val→Prop)(f:Val→Bool):0≤z3f s o f↔s.any f=true:=by
 grind[z3f,List.findIdx?_eq_none_iff,List.any_eq_true,absurd,List.findIdx?_eq_some_iff_getElem,List.getElem_mem]
theorem z1ss(s:List Val)(o:Val→Prop)(f:Val→Bool)(hs:WL .val s)(ho:zbc o s):z19r s o f=some (z19f (z3f s o f)):=by
 have key:∀(r:List Val)(i:Nat),s.drop i=r→i≤s.length→(z83 (z4u s o f i)).bind (zd zmo)=some (z19f (match r.findIdx? f with|some k=>((i+k:Nat):Int)|none=>-1)):=by
  intro r
  induction r with
  |nil=>
   intro i hr hi;have:s.length≤i:=by simp_all
   have e:z83 (z4u s o f i)=some (.exit 0,z4u s o f i):=by rw[zve,z8,if_neg (by grind)]
   rw[zg e,z1o7];rfl
  |cons x r ih=>
   intro i hr hi;obtain⟨a1,a2,a3,hm⟩:=z32 hr;have hx:s.getD i z7=x:=a2 z7;by_cases hf:f x=true
   ·have e:z83 (z4u s o f i)=some (.ret,zk1 s o f i i):=by
     rw[zve,z8,if_pos (by grind),z6 (by omega),y5,hx,z6 (ho x hm),z8,if_pos hf]
    rw[zg e,z1iu];simp[y2s,hf]
   ·have e:z83 (z4u s o f i)=z83 (z4u s o f ((i+1:Nat):Int)):=by
     rw[zve,z8,if_pos (by grind),z6 (by omega),y5,hx,z6 (ho x hm),z8,if_neg hf,z3e a1 hs.len]
    rw[e,ih (i+1) a3 (by omega)];congr 2;grind
 rw[z23g];have:=key s 0 rfl (yb _);refine Eq.trans this ?_;simp[z3f]
def zie:FnC Un:=fun args=>match args with
 |[x0,x1]=>(dL .val x0).bind fun s=>(dF x1).bind fun f=>some ([f=(zy (z18 f) (z1o f)),zbc (z18 f) s],zag (z3f s (z18 f) (z1o f)),zah (z3f s (z18 f) (z1o f)))
 |_=>none
theorem z19s:FnOK 209 zie:=by
 intro args ob rs os h hob;unfold zie at h;split at h
 ·simp only[y6,y8,yl]at h;obtain⟨s,e0,f,e1,rfl,rfl,rfl⟩:=h;obtain rfl:=zx e0;obtain rfl:=zok e1;have hfv0:=hob _ (yd (i:=0) rfl);generalize z1o f=pp0 at*;generalize z18 f=qq0 at*;subst hfv0;exact⟨z2c (M:=z1dq) rfl (z4p (l1:=[]) (l2:=[]) (l3:=[]) (l4:=[]) (l5:=[]) trivial trivial trivial trivial trivial) Tryz.func209 (by rfl) zpr 0 [.d] (fun hwf=>(z1ss s qq0 pp0 (z46 hwf (a:=.d (.v (.dat (U:=Un) Ty.val s))) (yd (i:=0) rfl)) (hob _ (yd (i:=1) rfl)))),zk Tryz.func209 (by rfl) (by rfl)⟩
 grind
def z1fm:Mc Un:=mcF_ [(209,zie)] [] [] [] []
def z1fp(r:Bool):RF Un:=(zuc r,zud r)
def z19t(s:List Val)(f_o:Val→Prop)(f:Val→Bool):Option (RF Un):=fnF_ z1fm z266 Tryz.f199 0 [.d] [.d (.v (.dat (U:=Un) Ty.val s)),.fn (zy f_o f)]
theorem z23h(s:List Val)(f_o:Val→Prop)(f:Val→Bool):z19t s f_o f=obO (zy f_o f=zy (z18 (zy f_o f)) (z1o (zy f_o f))) (obO (zbc (z18 (zy f_o f)) s) (some (z1fp (decide (z3f s (z18 (zy f_o f)) (z1o (zy f_o f))≥0))))):=by kernel_rfl
def zkj(s:List Val)(_o:Val→Prop)(f:Val→Bool):Bool:=s.any f
theorem z1st(s:List Val)(o:Val→Prop)(f:Val→Bool)(_hs:WL .val s)(ho:zbc o s):z19t s o f=some (z1fp (zkj s o f)):=by
 rw[z23h];simp only[zjq,zjp];rw[z6 trivial,z6 ho];grind[zkj,z1iv,z3f]
def zzf:FnC Un:=fun args=>match args with
 |[x0,x1]=>(dL .val x0).bind fun s=>(dF x1).bind fun f=>some ([f=(zy (z18 f) (z1o f)),zbc (z18 f) s],zuc (zkj s (z18 f) (z1o f)),zud (zkj s (z18 f) (z1o f)))
 |_=>none
theorem z23i:FnOK 199 zzf:=by
 intro args ob rs os h hob;unfold zzf at h;split at h
 ·simp only[y6,y8,yl]at h;obtain⟨s,e0,f,e1,rfl,rfl,rfl⟩:=h;obtain rfl:=zx e0;obtain rfl:=zok e1;have hfv0:=hob _ (yd (i:=0) rfl);generalize z1o f=pp0 at*;generalize z18 f=qq0 at*;subst hfv0;exact⟨z2c (M:=z1fm) rfl (z4p (l1:=[(209,zie)]) (l2:=[]) (l3:=[]) (l4:=[]) (l5:=[]) ⟨z19s,trivial⟩ trivial trivial trivial trivial) Tryz.func199 (by rfl) z266 0 [.d] (fun hwf=>(z1st s qq0 pp0 (z46 hwf (a:=.d (.v (.dat (U:=Un) Ty.val s))) (yd (i:=0) rfl)) (hob _ (yd (i:=1) rfl)))),zk Tryz.func199 (by rfl) (by rfl)⟩
 grind
end
end B
namespace B
open Go Go.RowKit
set_option maxRecDepth 100000
noncomputable section
attribute [local irreducible] awp ctxK zu z1a retQ z1m awf ctxF z1k
def zvf(r:Val):List (A Un):=[.agg (encC Ty.val r)]
def zvg(_r:Val):List (Ob Un):=[]
def zvh(r:Val):RF Un:=(zvf r,zvg r)
def z15e(b:Bool):Option (RF Un):=fnF_ z1dq z266 Tryz.f39 0 [.d] [.d (.v (cb b))]
theorem z1yu(b:Bool):z15e b=cndO (b) (some (zvh ({kind:=(1:Int),n:=(1:Int),s:=(ByteArray.mk #[])}))) (some (zvh ({kind:=(1:Int),n:=(0:Int),s:=(ByteArray.mk #[])}))):=by kernel_rfl
def z2v(b:Bool):Val:=
  if(b)=true then
   ({kind:=(1:Int),n:=(1:Int),s:=(ByteArray.mk #[])})
  else
   ({kind:=(1:Int),n:=(0:Int),s:=(ByteArray.mk #[])})
theorem z1yv(b:Bool):z15e b=some (zvh (z2v b)):=by rw[z1yu];unfold z2v;simp only[z8];repeat(first|rfl|split)
def zcr:FnC Un:=fun args=>match args with
 |[x0]=>(dB x0).bind fun b=>some ([],zvf (z2v b),zvg (z2v b))
 |_=>none
theorem zrt:FnOK 39 zcr:=by
 intro args ob rs os h hob;unfold zcr at h;split at h
 ·simp only[y6,y8,yl]at h;obtain⟨b,e0,rfl,rfl,rfl⟩:=h;obtain rfl:=z1kw e0;exact⟨z2c (M:=z1dq) rfl (z4p (l1:=[]) (l2:=[]) (l3:=[]) (l4:=[]) (l5:=[]) trivial trivial trivial trivial trivial) Tryz.func39 (by kernel_rfl) z266 0 [.d] (fun hwf=>(z1yv b)),zk Tryz.func39 (by kernel_rfl) (by kernel_rfl)⟩
 ·simp at h
def z1y(b:Bool):Val:=⟨1,if b=true then 1 else 0,⟨#[]⟩⟩
@[simp] theorem zx4(b:Bool):z2v b=z1y b:=by unfold z2v z1y;cases b<;>rfl
end
end B
namespace B
open Go Go.RowKit
set_option maxRecDepth 1000000
def twoN(op a b:Int):Int×Bool:=if op=5 then z10z a b else if op=6 then zh1 a b else if op=7 then z110 a b else if op=8 then z111 a b else z112 a b
def twoF(op:Int):FV Un:=fun args=>match args with
 |[x0,x1]=>(dI .i64 (.d x0)).bind fun a=>(dI .i64 (.d x1)).bind fun b=>some ([],[.v (.s (.int .i64 (twoN op a b).1)),.v (.s (.bool (twoN op a b).2))])
 |_=>none
def zvi:FnC Un:=fun args=>match args with
 |[x0]=>(dI .i64 x0).bind fun op=>some ([5≤op∧op≤9],[.c (.fv (twoF op))],[])
 |_=>none
def soB(op c:Int):Bool:=if op=11 then decide (c=0)else if op=12 then decide (c=-1∨c=1)else if op=13 then decide (c=-1)else if op=14 then decide (c=-1∨c=0)else if op=15 then decide (c=1)else decide (c=0∨c=1)
def cmpO(op:Int)(a b:Val):Val:=if(cmpV a b).2=true then z1y (soB op (cmpV a b).1)else z7
def zc2:FnC Un:=fun args=>match args with
 |[x0,x1,x2]=>(dI .i64 x0).bind fun op=>(dS .val x1).bind fun a=>(dS .val x2).bind fun b=>some ([11≤op∧op≤16],[.agg (encC Ty.val (cmpO op a b))],[])
 |_=>none
def zta(f b:Int)(c:UInt8):UInt8:=if(c.toNat:Int)≥f∧(c.toNat:Int)<IntKind.u8.wrap (f+26)then UInt8.ofNat (IntKind.u8.wrap (IntKind.i64.wrap ((c.toNat:Int)+b))).toNat else c
def zmp(s:ByteArray)(f b:Int):ByteArray:=⟨(s.toList.map (zta f b)).toArray⟩
theorem z13p(s:ByteArray)(f b:Int):(zmp s f b).size=s.size:=by
 unfold zmp;show(s.toList.map (zta f b)).toArray.size=s.size;rw[List.size_toArray,yz,z38]
def zmq:FnC Un:=fun args=>match args with
 |[x0,x1,x2]=>(dStr x0).bind fun s=>(dI .u8 x1).bind fun f=>(dI .i64 x2).bind fun b=>some ([s.size≤2000000],[.c (.s (.string (zmp s f b)))],[])
 |_=>none
theorem z2l4{f:FuncId}{φ:FV Un}(h:FvOK f φ){St:Nat→Nat→Prop}{w:World}:FunRel Tryz.prog En St w (.func (.func f) #[] #[]) φ:=by
 refine⟨f,#[],rfl,h.1,fun St' w' hk hb hld args ob rs hφ hob vs hvs=>?_⟩;have hc:=h.2 args ob rs hφ hob w' St' vs hb (All2.map_right D.d (fun _ _ h=>h) hvs) hld;rw[Array.append_empty];exact hc
theorem updM{mt et:TypeId}(hm:Tryz.prog.underlying mt=some (.map 3 et))(w:World)(es:Array MapEntry)(c:Nat)(k:Int)(v:Value)(hn:Instr.findNow (.int .i64) (.int .i64 k) es.toList 0=some none):
  (Instr.mapUpdate mt (.map (some w.heap.size)) (.int .i64 k) v).run Tryz.prog (w.alloc (.map es c))=.ok () (w.alloc (.map (es.push {key:=.int .i64 k,val:=v,born:=c}) (c+1))):=by
 have hd:Tryz.prog.underlying 3=some (.int .i64):=by kernel_rfl
 have hb:(w.alloc (.map es c)).heap[w.heap.size]?=some (.map es c):=by unfold World.alloc;simp
 have hk:MapKept.IsKey (.int .i64) (.int .i64 k):=by simp[MapKept.IsKey]
 simp[Instr.mapUpdate,run_underlying hm,MapKept.run_getObj_map hb,MapKept.run_checkKey hd hk,MapKept.run_findKey hd hn,MapKept.run_setObj_map _ hb,Result.andThen];unfold World.alloc;simp only;congr 1;apply y33;simp[y2t]
theorem z2ne{mt et:TypeId}(hm:Tryz.prog.underlying mt=some (.map 3 et))(w:World)(es:Array MapEntry)(c:Nat)(k:Int)(i:Nat)(v:Value)(hn:Instr.findNow (.int .i64) (.int .i64 k) es.toList 0=some (some (i,v))):
  (Instr.lookup mt (.map (some w.heap.size)) (.int .i64 k) false).run Tryz.prog (w.alloc (.map es c))=.ok v (w.alloc (.map es c)):=by
 have hd:Tryz.prog.underlying 3=some (.int .i64):=by kernel_rfl
 have hb:(w.alloc (.map es c)).heap[w.heap.size]?=some (.map es c):=by unfold World.alloc;simp
 have hk:MapKept.IsKey (.int .i64) (.int .i64 k):=by simp[MapKept.IsKey]
 simp[Instr.lookup,run_underlying hm,MapKept.run_getObj_map hb,MapKept.run_checkKey hd hk,MapKept.run_findKey hd hn,Result.andThen]
def twoE:List MapEntry:=[⟨.int .i64 5,.func (.func 202) #[] #[],0⟩,⟨.int .i64 6,.func (.func 201) #[] #[],1⟩,⟨.int .i64 7,.func (.func 203) #[] #[],2⟩,⟨.int .i64 8,.func (.func 204) #[] #[],3⟩,⟨.int .i64 9,.func (.func 205) #[] #[],4⟩]
theorem z2im(op:Int)(i:Nat)(v:Value)(hn:Instr.findNow (.int .i64) (.int .i64 op) twoE 0=some (some (i,v)))(w:World):Calls Tryz.prog 162 #[.int .i64 op] w fun e w'=>e=.returned v∧Ext w w':=by
 have mixed:Tryz.prog.follows .mixedOrders=true:=by kernel_rfl
 have hmm:=@run_makeMap Tryz.prog;have hm:Tryz.prog.underlying 192=some (.map 3 102):=by kernel_rfl
 have u1:=updM hm w #[] 0 5 (.func (.func 202) #[] #[]) rfl;have u2:=updM hm w #[⟨.int .i64 5,.func (.func 202) #[] #[],0⟩] 1 6 (.func (.func 201) #[] #[]) rfl;have u3:=updM hm w #[⟨.int .i64 5,.func (.func 202) #[] #[],0⟩,⟨.int .i64 6,.func (.func 201) #[] #[],1⟩] 2 7 (.func (.func 203) #[] #[]) rfl;have u4:=updM hm w #[⟨.int .i64 5,.func (.func 202) #[] #[],0⟩,⟨.int .i64 6,.func (.func 201) #[] #[],1⟩,⟨.int .i64 7,.func (.func 203) #[] #[],2⟩] 3 8 (.func (.func 204) #[] #[]) rfl;have u5:=updM hm w #[⟨.int .i64 5,.func (.func 202) #[] #[],0⟩,⟨.int .i64 6,.func (.func 201) #[] #[],1⟩,⟨.int .i64 7,.func (.func 203) #[] #[],2⟩,⟨.int .i64 8,.func (.func 204) #[] #[],3⟩] 4 9 (.func (.func 205) #[] #[]) rfl;have lk:=z2ne hm w #[⟨.int .i64 5,.func (.func 202) #[] #[],0⟩,⟨.int .i64 6,.func (.func 201) #[] #[],1⟩,⟨.int .i64 7,.func (.func 203) #[] #[],2⟩,⟨.int .i64 8,.func (.func 204) #[] #[],3⟩,⟨.int .i64 9,.func (.func 205) #[] #[],4⟩] 5 op i v hn
 go_enter Tryz.func162,Tryz.ntmps162
 go_wp2
 go_ret;exact⟨rfl,(Ext.refl w).alloc _⟩
theorem zvj{f:FuncId}{F:FnC Un}(g:Int→Int→Int×Bool)(op:Int)(hg:∀a b,twoN op a b=g a b)(hb:z2z Tryz.prog f)(hok:FnOK f F)
  (hF:∀a b,F [.d (.v (.s (.int .i64 a))),.d (.v (.s (.int .i64 b)))]=some ([],[.c (.s (.int .i64 (g a b).1)),.c (.s (.bool (g a b).2))],[])):FvOK f (twoF op):=by
 refine⟨hb,fun args ob rs h hob=>?_⟩;unfold twoF at h;split at h
 ·simp only[y6,y8,yl]at h;obtain⟨a,e0,b,e1,rfl,rfl⟩:=h;simp only[yw,y1n];rw[z1c e0,z1c e1,hg];exact Contract.data (hok _ [] _ _ (hF a b) (by simp)).1
 ·simp at h
theorem z1yw:FnOK 162 zvi:=by
 have k5:FvOK 202 (twoF 5):=zvj z10z 5 (fun _ _=>rfl) (zk Tryz.func202 (by kernel_rfl) (by kernel_rfl)) z2bk (fun a b=>rfl);have k6:FvOK 201 (twoF 6):=zvj zh1 6 (fun _ _=>rfl) (zk Tryz.func201 (by kernel_rfl) (by kernel_rfl)) z1nr (fun a b=>rfl);have k7:FvOK 203 (twoF 7):=zvj z110 7 (fun _ _=>rfl) (zk Tryz.func203 (by kernel_rfl) (by kernel_rfl)) z2bq (fun a b=>rfl);have k8:FvOK 204 (twoF 8):=zvj z111 8 (fun _ _=>rfl) (zk Tryz.func204 (by kernel_rfl) (by kernel_rfl)) z2bs (fun a b=>rfl);have k9:FvOK 205 (twoF 9):=zvj z112 9 (fun _ _=>rfl) (zk Tryz.func205 (by kernel_rfl) (by kernel_rfl)) z2bu (fun a b=>rfl);intro args ob rs os h hob;unfold zvi at h;split at h
 ·rename_i x0;simp only[y6,y8,yl]at h;obtain⟨op,e0,rfl,rfl,rfl⟩:=h;obtain rfl:=z1c e0;refine⟨?_,zk Tryz.func162 (by kernel_rfl) (by kernel_rfl)⟩;have hr:=hob _ (yh.2 rfl);have fin:∀(f:FuncId)(i:Nat),FvOK f (twoF op)→Instr.findNow (.int .i64) (.int .i64 op) twoE 0=some (some (i,.func (.func f) #[] #[]))→Contract Tryz.prog En 162 [.d (.v (.s (.int .i64 op)))] [.c (.fv (twoF op))] []:=by
   intro f i hk hn w St vs hbd hvs hld
   match vs,hvs with
   |[v0],⟨h0,_⟩=>
    obtain⟨rfl,-⟩:=zv7 h0;refine(z2im op i _ hn w).mono ?_;rintro e w' ⟨rfl,hx⟩;let gg:G:={β:=fun _=>0,lb:=fun _=>False,ω:=fun _ _=>none,tk:=fun _=>(none,0)};exact⟨_,rfl,hx,gg,fun _ h=>h,fun b o x _ h=>by simp[gg]at h,fun b o x h=>by simp[gg]at h,z2l4 hk,fun k o h=>by simp at h⟩
  have hc:op=5∨op=6∨op=7∨op=8∨op=9:=by omega
  rcases hc with rfl|rfl|rfl|rfl|rfl
  ·exact fin _ 0 k5 rfl
  ·exact fin _ 1 k6 rfl
  ·exact fin _ 2 k7 rfl
  ·exact fin _ 3 k8 rfl
  ·exact fin _ 4 k9 rfl
 ·simp at h
end B
namespace B
open Go Go.RowKit
set_option maxRecDepth 1000000
def aggV(a:Val):Value:=.agg #[.int .i64 a.kind,.int .i64 a.n,.string a.s]
theorem zk2{w w1:World}{x y z:Obj}(h:Ext (((w.alloc x).alloc y).alloc z) w1):w1.heap[w.heap.size+1+1]?=some z:=by
 have e:(((w.alloc x).alloc y).alloc z).heap=((w.heap.push x).push y).push z:=rfl;have hs:((w.heap.push x).push y).size=w.heap.size+1+1:=by rw[y2u,y2u]
 refine(h.block (by rw[e,y2u,hs];omega)).trans ?_;rw[e,←hs];exact y4t
theorem zcs{w:World}{b:Nat}{x y z:Value}{t:TypeId}(h:w.heap[b]?=some (.cells #[x,y,z] t)):w.cell? ⟨b,0,none⟩=some x∧w.cell? ⟨b,1,none⟩=some y∧w.cell? ⟨b,2,none⟩=some z∧∀o,w.frozen? ⟨b,o,none⟩=false:=by
 refine⟨?_,?_,?_,fun o=>?_⟩
 ·unfold World.cell?;simp only[h];rfl
 ·unfold World.cell?;simp only[h];rfl
 ·unfold World.cell?;simp only[h];rfl
 ·unfold World.frozen?;simp only[h];simp
theorem z1yx(op:Int)(a b:Val)(w:World)(hn:(cmpV a b).2=false)(hld:Laid w)(hc:∀W,Laid W→Calls Tryz.prog 152 #[aggV a,aggV b] W fun e w'=>e=.returned (.tuple #[.int .i64 (cmpV a b).1,.bool false])∧Ext W w'):
  Calls Tryz.prog 164 #[.int .i64 op,aggV a,aggV b] w fun e w'=>e=.returned (aggV z7)∧Ext w w':=by
 unfold aggV at hc ⊢;have mixed:Tryz.prog.follows .mixedOrders=true:=by kernel_rfl
 have hmm:=@run_makeMap Tryz.prog
 go_enter Tryz.func164,Tryz.ntmps164
 go_wp2_with (go_at_call 152;go_loud (refine(hc _ (hld.ext ((((Ext.refl w).alloc _).alloc _).alloc _))).mono ?_;rintro e w1 ⟨rfl,h1⟩;have hz:=zcs (zk2 h1);obtain⟨z0,z1,z2,q0⟩:=hz))
 refine bodyPost_ret (v:=.agg #[.int .i64 0,.int .i64 0,.string ⟨#[]⟩]) (by unfold results;go_simp) rfl ?_;refine⟨rfl,?_⟩;have hx:Ext w w1:=((((Ext.refl w).alloc _).alloc _).alloc _).trans h1;exact((hx.setCell (by show w.heap.size≤w.heap.size+1+1;omega) _).setCell (by show w.heap.size≤w.heap.size+1+1;omega) _).setCell (by show w.heap.size≤w.heap.size+1+1;omega) _
theorem zps:∀(os:List Obj)(w:World),os.foldl World.alloc w={w with heap:=w.heap++os.toArray}
 |[],w=>by simp
 |o::os,w=>by
  rw[yt,zps os];unfold World.alloc;simp
theorem z1o8(os:List Obj)(w:World)(m:Obj):(os.foldl World.alloc (w.alloc m)).heap=w.heap.push m++os.toArray:=by
 rw[zps];rfl
theorem z1wk(os:List Obj)(w:World)(m:Obj):(os.foldl World.alloc (w.alloc m)).heap[w.heap.size]?=some m:=by
 rw[z1o8,y3q (by rw[y2u];omega)];exact y4t
theorem z2fz(os:List Obj)(w:World)(m m':Obj):{os.foldl World.alloc (w.alloc m)with heap:=(os.foldl World.alloc (w.alloc m)).heap.setIfInBounds w.heap.size m'}=os.foldl World.alloc (w.alloc m'):=by
 rw[zps,zps];unfold World.alloc;simp only;congr 1;apply y33;simp[y2t]
theorem updC{mt et:TypeId}(hm:Tryz.prog.underlying mt=some (.map 3 et))(os:List Obj)(w:World)(es:Array MapEntry)(c:Nat)(k:Int)(v:Value)(hn:Instr.findNow (.int .i64) (.int .i64 k) es.toList 0=some none):
  (Instr.mapUpdate mt (.map (some w.heap.size)) (.int .i64 k) v).run Tryz.prog (os.foldl World.alloc (w.alloc (.map es c)))=.ok () (os.foldl World.alloc (w.alloc (.map (es.push {key:=.int .i64 k,val:=v,born:=c}) (c+1)))):=by
 have hd:Tryz.prog.underlying 3=some (.int .i64):=by kernel_rfl
 have hb:=z1wk os w (.map es c);have hk:MapKept.IsKey (.int .i64) (.int .i64 k):=by simp[MapKept.IsKey]
 have hs:=z2fz os w (.map es c) (.map (es.push {key:=.int .i64 k,val:=v,born:=c}) (c+1));simp[Instr.mapUpdate,run_underlying hm,MapKept.run_getObj_map hb,MapKept.run_checkKey hd hk,MapKept.run_findKey hd hn,MapKept.run_setObj_map _ hb,Result.andThen];exact hs
theorem z1c6{mt et:TypeId}(hm:Tryz.prog.underlying mt=some (.map 3 et))(os:List Obj)(w:World)(es:Array MapEntry)(c:Nat)(k:Int)(i:Nat)(v:Value)(hn:Instr.findNow (.int .i64) (.int .i64 k) es.toList 0=some (some (i,v))):
  (Instr.lookup mt (.map (some w.heap.size)) (.int .i64 k) false).run Tryz.prog (os.foldl World.alloc (w.alloc (.map es c)))=.ok v (os.foldl World.alloc (w.alloc (.map es c))):=by
 have hd:Tryz.prog.underlying 3=some (.int .i64):=by kernel_rfl
 have hb:=z1wk os w (.map es c);have hk:MapKept.IsKey (.int .i64) (.int .i64 k):=by simp[MapKept.IsKey]
 simp[Instr.lookup,run_underlying hm,MapKept.run_getObj_map hb,MapKept.run_checkKey hd hk,MapKept.run_findKey hd hn,Result.andThen]
def sgn(w:World):List (Int×Nat×List Int):=[(11,w.heap.size+1,[0]),(12,w.heap.size+1+1,[-1,1]),(13,w.heap.size+1+1+1,[-1]),(14,w.heap.size+1+1+1+1,[-1,0]),(15,w.heap.size+1+1+1+1+1,[1]),(16,w.heap.size+1+1+1+1+1+1,[0,1])]
def ent(w:World)(n:Nat):List MapEntry:=((sgn w).take n).zipIdx.map fun x=>⟨.int .i64 x.1.1,.slice (some ⟨x.1.2.1,0,none⟩) x.1.2.2.length x.1.2.2.length,x.2⟩
def rowO(l:List Int):Obj:=.cells (l.map (Value.int .i64)).toArray 3
theorem zkk(os:List Obj)(w:World)(m:Obj)(q:Nat)(o:Obj)(h:os[q]?=some o):(os.foldl World.alloc (w.alloc m)).heap[w.heap.size+1+q]?=some o:=by
 rw[z1o8,Array.getElem?_append_right (by rw[y2u];omega),y2u];rw[show w.heap.size+1+q- (w.heap.size+1)=q by omega,List.getElem?_toArray];exact h
theorem zkl{W:World}{blk:Nat}{zs:List Int}(h:W.heap[blk]?=some (rowO zs)):∀j,j<zs.length→W.cell? ⟨blk,0+j,none⟩=some (.int .i64 (zs.getD j 0)):=by
 intro j hj;unfold World.cell?;simp only[h,rowO];simp[hj,ye]
theorem zkm(os:List Obj)(w:World)(m:Obj):Ext w (os.foldl World.alloc (w.alloc m)):=by
 have:∀(os:List Obj)(u:World),Ext w u→Ext w (os.foldl World.alloc u):=by
  intro os
  induction os with
  |nil=>intro u h;exact h
  |cons o os ih=>intro u h;exact ih _ (h.alloc o)
 exact this os _ ((Ext.refl w).alloc m)
theorem z2nf(c:Int):(List.take 1 ([0]:List Int)).contains c=soB 11 c:=by
 simp only[y20,y21,y2v,y2w,y2x];unfold soB;rw[if_pos rfl,y26];simp only[y1h,beq_iff_eq,decide_eq_true_eq]
set_option maxHeartbeats 2000000 in
theorem z27o(a b:Val)(w:World)(hld:Laid w)(hc:∀W,Laid W→Calls Tryz.prog 152 #[aggV a,aggV b] W fun e w'=>e=.returned (.tuple #[.int .i64 (cmpV a b).1,.bool true])∧Ext W w')
  (hB:∀W x,Laid W→Calls Tryz.prog 39 #[.bool x] W fun e w'=>e=.returned (.agg #[.int .i64 (z1y x).kind,.int .i64 (z1y x).n,.string (z1y x).s])∧Ext W w'):
  Calls Tryz.prog 164 #[.int .i64 11,aggV a,aggV b] w fun e w'=>e=.returned (aggV (z1y (soB 11 (cmpV a b).1)))∧Ext w w':=by
 unfold aggV at hc ⊢;have mixed:Tryz.prog.follows .mixedOrders=true:=by kernel_rfl
 have hmm:=@run_makeMap Tryz.prog;have hm:Tryz.prog.underlying 193=some (.map 3 42):=by kernel_rfl
 go_enter Tryz.func164,Tryz.ntmps164
 go_wp2_with (first
  |(go_at_call 152;refine(hc _ (hld.ext ((((Ext.refl w).alloc _).alloc _).alloc _))).mono ?_;rintro e w1 ⟨rfl,h1⟩;have hz:=zk2 h1;obtain⟨z0,z1,z2,q0⟩:=zcs hz;have hx:Ext w w1:=((((Ext.refl w).alloc _).alloc _).alloc _).trans h1;have u1:=updC hm [rowO [0]] w1 (ent w1 0).toArray 0 11 (.slice (some ⟨w1.heap.size+1,0,none⟩) 1 1) rfl;have u2:=updC hm [rowO [0],rowO [-1,1]] w1 (ent w1 1).toArray 1 12 (.slice (some ⟨w1.heap.size+1+1,0,none⟩) 2 2) rfl;have u3:=updC hm [rowO [0],rowO [-1,1],rowO [-1]] w1 (ent w1 2).toArray 2 13 (.slice (some ⟨w1.heap.size+1+1+1,0,none⟩) 1 1) rfl;have u4:=updC hm [rowO [0],rowO [-1,1],rowO [-1],rowO [-1,0]] w1 (ent w1 3).toArray 3 14 (.slice (some ⟨w1.heap.size+1+1+1+1,0,none⟩) 2 2) rfl;have u5:=updC hm [rowO [0],rowO [-1,1],rowO [-1],rowO [-1,0],rowO [1]] w1 (ent w1 4).toArray 4 15 (.slice (some ⟨w1.heap.size+1+1+1+1+1,0,none⟩) 1 1) rfl;have u6:=updC hm [rowO [0],rowO [-1,1],rowO [-1],rowO [-1,0],rowO [1],rowO [0,1]] w1 (ent w1 5).toArray 5 16 (.slice (some ⟨w1.heap.size+1+1+1+1+1+1,0,none⟩) 2 2) rfl;have lk:=z1c6 hm [rowO [0],rowO [-1,1],rowO [-1],rowO [-1,0],rowO [1],rowO [0,1]] w1 (ent w1 6).toArray 6 11 0 (.slice (some ⟨w1.heap.size+1,0,none⟩) 1 1) rfl;have hro:=zkl (zkk [rowO [0],rowO [-1,1],rowO [-1],rowO [-1,0],rowO [1],rowO [0,1]] w1 (.map (ent w1 6).toArray 6) 0 (rowO [0]) rfl);have hce:=zkm [rowO [0],rowO [-1,1],rowO [-1],rowO [-1,0],rowO [1],rowO [0,1]] w1 (.map (ent w1 6).toArray 6);simp only[yt,y2j,ent,sgn,rowO,y21,y20,y2y,y2z,yw,y1n,yr,y1v,y30,y15,yx,y16,Nat.reduceAdd]at u1 u2 u3 u4 u5 u6 lk hro hce)
  |(go_at_call 206;refine(Tryz.slices_Contains_int (w1.heap.size+1) 0 1 1 [0] (cmpV a b).1 _ (by decide) (by decide) (fun j hj=>by rw[y16];exact hro j hj)).mono ?_;rintro e w2 ⟨rfl,rfl⟩;simp only[z2nf])
  |(go_at_call 39;refine(hB _ _ (hld.ext (hx.trans hce))).mono ?_;rintro e w3 ⟨rfl,h3⟩;have hlt:w.heap.size+1+1<w1.heap.size:=z6f (p:=⟨w.heap.size+1+1,0,none⟩) z0;have h4:=hce.trans h3;have hz3:=(h4.block hlt).trans hz;obtain⟨y0,y1,y2,p0⟩:=zcs hz3))
 refine bodyPost_ret (v:=.agg #[.int .i64 (z1y (soB 11 (cmpV a b).1)).kind,.int .i64 (z1y (soB 11 (cmpV a b).1)).n,.string (z1y (soB 11 (cmpV a b).1)).s]) (by unfold results;go_simp) rfl ?_;refine⟨rfl,?_⟩;have h5:=hx.trans h4;exact((h5.setCell (by show w.heap.size≤w.heap.size+1+1;omega) _).setCell (by show w.heap.size≤w.heap.size+1+1;omega) _).setCell (by show w.heap.size≤w.heap.size+1+1;omega) _
theorem z2ng(c:Int):(List.take 2 ([-1,1]:List Int)).contains c=soB 12 c:=by
 simp only[y20,y21,y2v,y2w,y2x];unfold soB;rw[if_neg (by decide),if_pos rfl,y26];simp only[y1h,beq_iff_eq,decide_eq_true_eq]
set_option maxHeartbeats 2000000 in
theorem z27p(a b:Val)(w:World)(hld:Laid w)(hc:∀W,Laid W→Calls Tryz.prog 152 #[aggV a,aggV b] W fun e w'=>e=.returned (.tuple #[.int .i64 (cmpV a b).1,.bool true])∧Ext W w')
  (hB:∀W x,Laid W→Calls Tryz.prog 39 #[.bool x] W fun e w'=>e=.returned (.agg #[.int .i64 (z1y x).kind,.int .i64 (z1y x).n,.string (z1y x).s])∧Ext W w'):
  Calls Tryz.prog 164 #[.int .i64 12,aggV a,aggV b] w fun e w'=>e=.returned (aggV (z1y (soB 12 (cmpV a b).1)))∧Ext w w':=by
 unfold aggV at hc ⊢;have mixed:Tryz.prog.follows .mixedOrders=true:=by kernel_rfl
 have hmm:=@run_makeMap Tryz.prog;have hm:Tryz.prog.underlying 193=some (.map 3 42):=by kernel_rfl
 go_enter Tryz.func164,Tryz.ntmps164
 go_wp2_with (first
  |(go_at_call 152;refine(hc _ (hld.ext ((((Ext.refl w).alloc _).alloc _).alloc _))).mono ?_;rintro e w1 ⟨rfl,h1⟩;have hz:=zk2 h1;obtain⟨z0,z1,z2,q0⟩:=zcs hz;have hx:Ext w w1:=((((Ext.refl w).alloc _).alloc _).alloc _).trans h1;have u1:=updC hm [rowO [0]] w1 (ent w1 0).toArray 0 11 (.slice (some ⟨w1.heap.size+1,0,none⟩) 1 1) rfl;have u2:=updC hm [rowO [0],rowO [-1,1]] w1 (ent w1 1).toArray 1 12 (.slice (some ⟨w1.heap.size+1+1,0,none⟩) 2 2) rfl;have u3:=updC hm [rowO [0],rowO [-1,1],rowO [-1]] w1 (ent w1 2).toArray 2 13 (.slice (some ⟨w1.heap.size+1+1+1,0,none⟩) 1 1) rfl;have u4:=updC hm [rowO [0],rowO [-1,1],rowO [-1],rowO [-1,0]] w1 (ent w1 3).toArray 3 14 (.slice (some ⟨w1.heap.size+1+1+1+1,0,none⟩) 2 2) rfl;have u5:=updC hm [rowO [0],rowO [-1,1],rowO [-1],rowO [-1,0],rowO [1]] w1 (ent w1 4).toArray 4 15 (.slice (some ⟨w1.heap.size+1+1+1+1+1,0,none⟩) 1 1) rfl;have u6:=updC hm [rowO [0],rowO [-1,1],rowO [-1],rowO [-1,0],rowO [1],rowO [0,1]] w1 (ent w1 5).toArray 5 16 (.slice (some ⟨w1.heap.size+1+1+1+1+1+1,0,none⟩) 2 2) rfl;have lk:=z1c6 hm [rowO [0],rowO [-1,1],rowO [-1],rowO [-1,0],rowO [1],rowO [0,1]] w1 (ent w1 6).toArray 6 12 1 (.slice (some ⟨w1.heap.size+1+1,0,none⟩) 2 2) rfl;have hro:=zkl (zkk [rowO [0],rowO [-1,1],rowO [-1],rowO [-1,0],rowO [1],rowO [0,1]] w1 (.map (ent w1 6).toArray 6) 1 (rowO [-1,1]) rfl);have hce:=zkm [rowO [0],rowO [-1,1],rowO [-1],rowO [-1,0],rowO [1],rowO [0,1]] w1 (.map (ent w1 6).toArray 6);simp only[yt,y2j,ent,sgn,rowO,y21,y20,y2y,y2z,yw,y1n,yr,y1v,y30,y15,yx,y16,Nat.reduceAdd]at u1 u2 u3 u4 u5 u6 lk hro hce)
  |(go_at_call 206;refine(Tryz.slices_Contains_int (w1.heap.size+1+1) 0 2 2 [-1,1] (cmpV a b).1 _ (by decide) (by decide) (fun j hj=>by rw[y16];exact hro j hj)).mono ?_;rintro e w2 ⟨rfl,rfl⟩;simp only[z2ng])
  |(go_at_call 39;refine(hB _ _ (hld.ext (hx.trans hce))).mono ?_;rintro e w3 ⟨rfl,h3⟩;have hlt:w.heap.size+1+1<w1.heap.size:=z6f (p:=⟨w.heap.size+1+1,0,none⟩) z0;have h4:=hce.trans h3;have hz3:=(h4.block hlt).trans hz;obtain⟨y0,y1,y2,p0⟩:=zcs hz3))
 refine bodyPost_ret (v:=.agg #[.int .i64 (z1y (soB 12 (cmpV a b).1)).kind,.int .i64 (z1y (soB 12 (cmpV a b).1)).n,.string (z1y (soB 12 (cmpV a b).1)).s]) (by unfold results;go_simp) rfl ?_;refine⟨rfl,?_⟩;have h5:=hx.trans h4;exact((h5.setCell (by show w.heap.size≤w.heap.size+1+1;omega) _).setCell (by show w.heap.size≤w.heap.size+1+1;omega) _).setCell (by show w.heap.size≤w.heap.size+1+1;omega) _
theorem z2nh(c:Int):(List.take 1 ([-1]:List Int)).contains c=soB 13 c:=by
 simp only[y20,y21,y2v,y2w,y2x];unfold soB;rw[if_neg (by decide),if_neg (by decide),if_pos rfl,y26];simp only[y1h,beq_iff_eq,decide_eq_true_eq]
set_option maxHeartbeats 2000000 in
theorem z27q(a b:Val)(w:World)(hld:Laid w)(hc:∀W,Laid W→Calls Tryz.prog 152 #[aggV a,aggV b] W fun e w'=>e=.returned (.tuple #[.int .i64 (cmpV a b).1,.bool true])∧Ext W w')
  (hB:∀W x,Laid W→Calls Tryz.prog 39 #[.bool x] W fun e w'=>e=.returned (.agg #[.int .i64 (z1y x).kind,.int .i64 (z1y x).n,.string (z1y x).s])∧Ext W w'):
  Calls Tryz.prog 164 #[.int .i64 13,aggV a,aggV b] w fun e w'=>e=.returned (aggV (z1y (soB 13 (cmpV a b).1)))∧Ext w w':=by
 unfold aggV at hc ⊢;have mixed:Tryz.prog.follows .mixedOrders=true:=by kernel_rfl
 have hmm:=@run_makeMap Tryz.prog;have hm:Tryz.prog.underlying 193=some (.map 3 42):=by kernel_rfl
 go_enter Tryz.func164,Tryz.ntmps164
 go_wp2_with (first
  |(go_at_call 152;refine(hc _ (hld.ext ((((Ext.refl w).alloc _).alloc _).alloc _))).mono ?_;rintro e w1 ⟨rfl,h1⟩;have hz:=zk2 h1;obtain⟨z0,z1,z2,q0⟩:=zcs hz;have hx:Ext w w1:=((((Ext.refl w).alloc _).alloc _).alloc _).trans h1;have u1:=updC hm [rowO [0]] w1 (ent w1 0).toArray 0 11 (.slice (some ⟨w1.heap.size+1,0,none⟩) 1 1) rfl;have u2:=updC hm [rowO [0],rowO [-1,1]] w1 (ent w1 1).toArray 1 12 (.slice (some ⟨w1.heap.size+1+1,0,none⟩) 2 2) rfl;have u3:=updC hm [rowO [0],rowO [-1,1],rowO [-1]] w1 (ent w1 2).toArray 2 13 (.slice (some ⟨w1.heap.size+1+1+1,0,none⟩) 1 1) rfl;have u4:=updC hm [rowO [0],rowO [-1,1],rowO [-1],rowO [-1,0]] w1 (ent w1 3).toArray 3 14 (.slice (some ⟨w1.heap.size+1+1+1+1,0,none⟩) 2 2) rfl;have u5:=updC hm [rowO [0],rowO [-1,1],rowO [-1],rowO [-1,0],rowO [1]] w1 (ent w1 4).toArray 4 15 (.slice (some ⟨w1.heap.size+1+1+1+1+1,0,none⟩) 1 1) rfl;have u6:=updC hm [rowO [0],rowO [-1,1],rowO [-1],rowO [-1,0],rowO [1],rowO [0,1]] w1 (ent w1 5).toArray 5 16 (.slice (some ⟨w1.heap.size+1+1+1+1+1+1,0,none⟩) 2 2) rfl;have lk:=z1c6 hm [rowO [0],rowO [-1,1],rowO [-1],rowO [-1,0],rowO [1],rowO [0,1]] w1 (ent w1 6).toArray 6 13 2 (.slice (some ⟨w1.heap.size+1+1+1,0,none⟩) 1 1) rfl;have hro:=zkl (zkk [rowO [0],rowO [-1,1],rowO [-1],rowO [-1,0],rowO [1],rowO [0,1]] w1 (.map (ent w1 6).toArray 6) 2 (rowO [-1]) rfl);have hce:=zkm [rowO [0],rowO [-1,1],rowO [-1],rowO [-1,0],rowO [1],rowO [0,1]] w1 (.map (ent w1 6).toArray 6);simp only[yt,y2j,ent,sgn,rowO,y21,y20,y2y,y2z,yw,y1n,yr,y1v,y30,y15,yx,y16,Nat.reduceAdd]at u1 u2 u3 u4 u5 u6 lk hro hce)
  |(go_at_call 206;refine(Tryz.slices_Contains_int (w1.heap.size+1+1+1) 0 1 1 [-1] (cmpV a b).1 _ (by decide) (by decide) (fun j hj=>by rw[y16];exact hro j hj)).mono ?_;rintro e w2 ⟨rfl,rfl⟩;simp only[z2nh])
  |(go_at_call 39;refine(hB _ _ (hld.ext (hx.trans hce))).mono ?_;rintro e w3 ⟨rfl,h3⟩;have hlt:w.heap.size+1+1<w1.heap.size:=z6f (p:=⟨w.heap.size+1+1,0,none⟩) z0;have h4:=hce.trans h3;have hz3:=(h4.block hlt).trans hz;obtain⟨y0,y1,y2,p0⟩:=zcs hz3))
 refine bodyPost_ret (v:=.agg #[.int .i64 (z1y (soB 13 (cmpV a b).1)).kind,.int .i64 (z1y (soB 13 (cmpV a b).1)).n,.string (z1y (soB 13 (cmpV a b).1)).s]) (by unfold results;go_simp) rfl ?_;refine⟨rfl,?_⟩;have h5:=hx.trans h4;exact((h5.setCell (by show w.heap.size≤w.heap.size+1+1;omega) _).setCell (by show w.heap.size≤w.heap.size+1+1;omega) _).setCell (by show w.heap.size≤w.heap.size+1+1;omega) _
theorem z2ni(c:Int):(List.take 2 ([-1,0]:List Int)).contains c=soB 14 c:=by
 simp only[y20,y21,y2v,y2w,y2x];unfold soB;rw[if_neg (by decide),if_neg (by decide),if_neg (by decide),if_pos rfl,y26];simp only[y1h,beq_iff_eq,decide_eq_true_eq]
set_option maxHeartbeats 2000000 in
theorem z27r(a b:Val)(w:World)(hld:Laid w)(hc:∀W,Laid W→Calls Tryz.prog 152 #[aggV a,aggV b] W fun e w'=>e=.returned (.tuple #[.int .i64 (cmpV a b).1,.bool true])∧Ext W w')
  (hB:∀W x,Laid W→Calls Tryz.prog 39 #[.bool x] W fun e w'=>e=.returned (.agg #[.int .i64 (z1y x).kind,.int .i64 (z1y x).n,.string (z1y x).s])∧Ext W w'):
  Calls Tryz.prog 164 #[.int .i64 14,aggV a,aggV b] w fun e w'=>e=.returned (aggV (z1y (soB 14 (cmpV a b).1)))∧Ext w w':=by
 unfold aggV at hc ⊢;have mixed:Tryz.prog.follows .mixedOrders=true:=by kernel_rfl
 have hmm:=@run_makeMap Tryz.prog;have hm:Tryz.prog.underlying 193=some (.map 3 42):=by kernel_rfl
 go_enter Tryz.func164,Tryz.ntmps164
 go_wp2_with (first
  |(go_at_call 152;refine(hc _ (hld.ext ((((Ext.refl w).alloc _).alloc _).alloc _))).mono ?_;rintro e w1 ⟨rfl,h1⟩;have hz:=zk2 h1;obtain⟨z0,z1,z2,q0⟩:=zcs hz;have hx:Ext w w1:=((((Ext.refl w).alloc _).alloc _).alloc _).trans h1;have u1:=updC hm [rowO [0]] w1 (ent w1 0).toArray 0 11 (.slice (some ⟨w1.heap.size+1,0,none⟩) 1 1) rfl;have u2:=updC hm [rowO [0],rowO [-1,1]] w1 (ent w1 1).toArray 1 12 (.slice (some ⟨w1.heap.size+1+1,0,none⟩) 2 2) rfl;have u3:=updC hm [rowO [0],rowO [-1,1],rowO [-1]] w1 (ent w1 2).toArray 2 13 (.slice (some ⟨w1.heap.size+1+1+1,0,none⟩) 1 1) rfl;have u4:=updC hm [rowO [0],rowO [-1,1],rowO [-1],rowO [-1,0]] w1 (ent w1 3).toArray 3 14 (.slice (some ⟨w1.heap.size+1+1+1+1,0,none⟩) 2 2) rfl;have u5:=updC hm [rowO [0],rowO [-1,1],rowO [-1],rowO [-1,0],rowO [1]] w1 (ent w1 4).toArray 4 15 (.slice (some ⟨w1.heap.size+1+1+1+1+1,0,none⟩) 1 1) rfl;have u6:=updC hm [rowO [0],rowO [-1,1],rowO [-1],rowO [-1,0],rowO [1],rowO [0,1]] w1 (ent w1 5).toArray 5 16 (.slice (some ⟨w1.heap.size+1+1+1+1+1+1,0,none⟩) 2 2) rfl;have lk:=z1c6 hm [rowO [0],rowO [-1,1],rowO [-1],rowO [-1,0],rowO [1],rowO [0,1]] w1 (ent w1 6).toArray 6 14 3 (.slice (some ⟨w1.heap.size+1+1+1+1,0,none⟩) 2 2) rfl;have hro:=zkl (zkk [rowO [0],rowO [-1,1],rowO [-1],rowO [-1,0],rowO [1],rowO [0,1]] w1 (.map (ent w1 6).toArray 6) 3 (rowO [-1,0]) rfl);have hce:=zkm [rowO [0],rowO [-1,1],rowO [-1],rowO [-1,0],rowO [1],rowO [0,1]] w1 (.map (ent w1 6).toArray 6);simp only[yt,y2j,ent,sgn,rowO,y21,y20,y2y,y2z,yw,y1n,yr,y1v,y30,y15,yx,y16,Nat.reduceAdd]at u1 u2 u3 u4 u5 u6 lk hro hce)
  |(go_at_call 206;refine(Tryz.slices_Contains_int (w1.heap.size+1+1+1+1) 0 2 2 [-1,0] (cmpV a b).1 _ (by decide) (by decide) (fun j hj=>by rw[y16];exact hro j hj)).mono ?_;rintro e w2 ⟨rfl,rfl⟩;simp only[z2ni])
  |(go_at_call 39;refine(hB _ _ (hld.ext (hx.trans hce))).mono ?_;rintro e w3 ⟨rfl,h3⟩;have hlt:w.heap.size+1+1<w1.heap.size:=z6f (p:=⟨w.heap.size+1+1,0,none⟩) z0;have h4:=hce.trans h3;have hz3:=(h4.block hlt).trans hz;obtain⟨y0,y1,y2,p0⟩:=zcs hz3))
 refine bodyPost_ret (v:=.agg #[.int .i64 (z1y (soB 14 (cmpV a b).1)).kind,.int .i64 (z1y (soB 14 (cmpV a b).1)).n,.string (z1y (soB 14 (cmpV a b).1)).s]) (by unfold results;go_simp) rfl ?_;refine⟨rfl,?_⟩;have h5:=hx.trans h4;exact((h5.setCell (by show w.heap.size≤w.heap.size+1+1;omega) _).setCell (by show w.heap.size≤w.heap.size+1+1;omega) _).setCell (by show w.heap.size≤w.heap.size+1+1;omega) _
theorem z2nj(c:Int):(List.take 1 ([1]:List Int)).contains c=soB 15 c:=by
 simp only[y20,y21,y2v,y2w,y2x];unfold soB;rw[if_neg (by decide),if_neg (by decide),if_neg (by decide),if_neg (by decide),if_pos rfl,y26];simp only[y1h,beq_iff_eq,decide_eq_true_eq]
set_option maxHeartbeats 2000000 in
theorem z27s(a b:Val)(w:World)(hld:Laid w)(hc:∀W,Laid W→Calls Tryz.prog 152 #[aggV a,aggV b] W fun e w'=>e=.returned (.tuple #[.int .i64 (cmpV a b).1,.bool true])∧Ext W w')
  (hB:∀W x,Laid W→Calls Tryz.prog 39 #[.bool x] W fun e w'=>e=.returned (.agg #[.int .i64 (z1y x).kind,.int .i64 (z1y x).n,.string (z1y x).s])∧Ext W w'):
  Calls Tryz.prog 164 #[.int .i64 15,aggV a,aggV b] w fun e w'=>e=.returned (aggV (z1y (soB 15 (cmpV a b).1)))∧Ext w w':=by
 unfold aggV at hc ⊢;have mixed:Tryz.prog.follows .mixedOrders=true:=by kernel_rfl
 have hmm:=@run_makeMap Tryz.prog;have hm:Tryz.prog.underlying 193=some (.map 3 42):=by kernel_rfl
 go_enter Tryz.func164,Tryz.ntmps164
 go_wp2_with (first
  |(go_at_call 152;refine(hc _ (hld.ext ((((Ext.refl w).alloc _).alloc _).alloc _))).mono ?_;rintro e w1 ⟨rfl,h1⟩;have hz:=zk2 h1;obtain⟨z0,z1,z2,q0⟩:=zcs hz;have hx:Ext w w1:=((((Ext.refl w).alloc _).alloc _).alloc _).trans h1;have u1:=updC hm [rowO [0]] w1 (ent w1 0).toArray 0 11 (.slice (some ⟨w1.heap.size+1,0,none⟩) 1 1) rfl;have u2:=updC hm [rowO [0],rowO [-1,1]] w1 (ent w1 1).toArray 1 12 (.slice (some ⟨w1.heap.size+1+1,0,none⟩) 2 2) rfl;have u3:=updC hm [rowO [0],rowO [-1,1],rowO [-1]] w1 (ent w1 2).toArray 2 13 (.slice (some ⟨w1.heap.size+1+1+1,0,none⟩) 1 1) rfl;have u4:=updC hm [rowO [0],rowO [-1,1],rowO [-1],rowO [-1,0]] w1 (ent w1 3).toArray 3 14 (.slice (some ⟨w1.heap.size+1+1+1+1,0,none⟩) 2 2) rfl;have u5:=updC hm [rowO [0],rowO [-1,1],rowO [-1],rowO [-1,0],rowO [1]] w1 (ent w1 4).toArray 4 15 (.slice (some ⟨w1.heap.size+1+1+1+1+1,0,none⟩) 1 1) rfl;have u6:=updC hm [rowO [0],rowO [-1,1],rowO [-1],rowO [-1,0],rowO [1],rowO [0,1]] w1 (ent w1 5).toArray 5 16 (.slice (some ⟨w1.heap.size+1+1+1+1+1+1,0,none⟩) 2 2) rfl;have lk:=z1c6 hm [rowO [0],rowO [-1,1],rowO [-1],rowO [-1,0],rowO [1],rowO [0,1]] w1 (ent w1 6).toArray 6 15 4 (.slice (some ⟨w1.heap.size+1+1+1+1+1,0,none⟩) 1 1) rfl;have hro:=zkl (zkk [rowO [0],rowO [-1,1],rowO [-1],rowO [-1,0],rowO [1],rowO [0,1]] w1 (.map (ent w1 6).toArray 6) 4 (rowO [1]) rfl);have hce:=zkm [rowO [0],rowO [-1,1],rowO [-1],rowO [-1,0],rowO [1],rowO [0,1]] w1 (.map (ent w1 6).toArray 6);simp only[yt,y2j,ent,sgn,rowO,y21,y20,y2y,y2z,yw,y1n,yr,y1v,y30,y15,yx,y16,Nat.reduceAdd]at u1 u2 u3 u4 u5 u6 lk hro hce)
  |(go_at_call 206;refine(Tryz.slices_Contains_int (w1.heap.size+1+1+1+1+1) 0 1 1 [1] (cmpV a b).1 _ (by decide) (by decide) (fun j hj=>by rw[y16];exact hro j hj)).mono ?_;rintro e w2 ⟨rfl,rfl⟩;simp only[z2nj])
  |(go_at_call 39;refine(hB _ _ (hld.ext (hx.trans hce))).mono ?_;rintro e w3 ⟨rfl,h3⟩;have hlt:w.heap.size+1+1<w1.heap.size:=z6f (p:=⟨w.heap.size+1+1,0,none⟩) z0;have h4:=hce.trans h3;have hz3:=(h4.block hlt).trans hz;obtain⟨y0,y1,y2,p0⟩:=zcs hz3))
 refine bodyPost_ret (v:=.agg #[.int .i64 (z1y (soB 15 (cmpV a b).1)).kind,.int .i64 (z1y (soB 15 (cmpV a b).1)).n,.string (z1y (soB 15 (cmpV a b).1)).s]) (by unfold results;go_simp) rfl ?_;refine⟨rfl,?_⟩;have h5:=hx.trans h4;exact((h5.setCell (by show w.heap.size≤w.heap.size+1+1;omega) _).setCell (by show w.heap.size≤w.heap.size+1+1;omega) _).setCell (by show w.heap.size≤w.heap.size+1+1;omega) _
theorem z2nk(c:Int):(List.take 2 ([0,1]:List Int)).contains c=soB 16 c:=by
 simp only[y20,y21,y2v,y2w,y2x];unfold soB;rw[if_neg (by decide),if_neg (by decide),if_neg (by decide),if_neg (by decide),if_neg (by decide),y26];simp only[y1h,beq_iff_eq,decide_eq_true_eq]
set_option maxHeartbeats 2000000 in
theorem z27t(a b:Val)(w:World)(hld:Laid w)(hc:∀W,Laid W→Calls Tryz.prog 152 #[aggV a,aggV b] W fun e w'=>e=.returned (.tuple #[.int .i64 (cmpV a b).1,.bool true])∧Ext W w')
  (hB:∀W x,Laid W→Calls Tryz.prog 39 #[.bool x] W fun e w'=>e=.returned (.agg #[.int .i64 (z1y x).kind,.int .i64 (z1y x).n,.string (z1y x).s])∧Ext W w'):
  Calls Tryz.prog 164 #[.int .i64 16,aggV a,aggV b] w fun e w'=>e=.returned (aggV (z1y (soB 16 (cmpV a b).1)))∧Ext w w':=by
 unfold aggV at hc ⊢;have mixed:Tryz.prog.follows .mixedOrders=true:=by kernel_rfl
 have hmm:=@run_makeMap Tryz.prog;have hm:Tryz.prog.underlying 193=some (.map 3 42):=by kernel_rfl
 go_enter Tryz.func164,Tryz.ntmps164
 go_wp2_with (first
  |(go_at_call 152;refine(hc _ (hld.ext ((((Ext.refl w).alloc _).alloc _).alloc _))).mono ?_;rintro e w1 ⟨rfl,h1⟩;have hz:=zk2 h1;obtain⟨z0,z1,z2,q0⟩:=zcs hz;have hx:Ext w w1:=((((Ext.refl w).alloc _).alloc _).alloc _).trans h1;have u1:=updC hm [rowO [0]] w1 (ent w1 0).toArray 0 11 (.slice (some ⟨w1.heap.size+1,0,none⟩) 1 1) rfl;have u2:=updC hm [rowO [0],rowO [-1,1]] w1 (ent w1 1).toArray 1 12 (.slice (some ⟨w1.heap.size+1+1,0,none⟩) 2 2) rfl;have u3:=updC hm [rowO [0],rowO [-1,1],rowO [-1]] w1 (ent w1 2).toArray 2 13 (.slice (some ⟨w1.heap.size+1+1+1,0,none⟩) 1 1) rfl;have u4:=updC hm [rowO [0],rowO [-1,1],rowO [-1],rowO [-1,0]] w1 (ent w1 3).toArray 3 14 (.slice (some ⟨w1.heap.size+1+1+1+1,0,none⟩) 2 2) rfl;have u5:=updC hm [rowO [0],rowO [-1,1],rowO [-1],rowO [-1,0],rowO [1]] w1 (ent w1 4).toArray 4 15 (.slice (some ⟨w1.heap.size+1+1+1+1+1,0,none⟩) 1 1) rfl;have u6:=updC hm [rowO [0],rowO [-1,1],rowO [-1],rowO [-1,0],rowO [1],rowO [0,1]] w1 (ent w1 5).toArray 5 16 (.slice (some ⟨w1.heap.size+1+1+1+1+1+1,0,none⟩) 2 2) rfl;have lk:=z1c6 hm [rowO [0],rowO [-1,1],rowO [-1],rowO [-1,0],rowO [1],rowO [0,1]] w1 (ent w1 6).toArray 6 16 5 (.slice (some ⟨w1.heap.size+1+1+1+1+1+1,0,none⟩) 2 2) rfl;have hro:=zkl (zkk [rowO [0],rowO [-1,1],rowO [-1],rowO [-1,0],rowO [1],rowO [0,1]] w1 (.map (ent w1 6).toArray 6) 5 (rowO [0,1]) rfl);have hce:=zkm [rowO [0],rowO [-1,1],rowO [-1],rowO [-1,0],rowO [1],rowO [0,1]] w1 (.map (ent w1 6).toArray 6);simp only[yt,y2j,ent,sgn,rowO,y21,y20,y2y,y2z,yw,y1n,yr,y1v,y30,y15,yx,y16,Nat.reduceAdd]at u1 u2 u3 u4 u5 u6 lk hro hce)
  |(go_at_call 206;refine(Tryz.slices_Contains_int (w1.heap.size+1+1+1+1+1+1) 0 2 2 [0,1] (cmpV a b).1 _ (by decide) (by decide) (fun j hj=>by rw[y16];exact hro j hj)).mono ?_;rintro e w2 ⟨rfl,rfl⟩;simp only[z2nk])
  |(go_at_call 39;refine(hB _ _ (hld.ext (hx.trans hce))).mono ?_;rintro e w3 ⟨rfl,h3⟩;have hlt:w.heap.size+1+1<w1.heap.size:=z6f (p:=⟨w.heap.size+1+1,0,none⟩) z0;have h4:=hce.trans h3;have hz3:=(h4.block hlt).trans hz;obtain⟨y0,y1,y2,p0⟩:=zcs hz3))
 refine bodyPost_ret (v:=.agg #[.int .i64 (z1y (soB 16 (cmpV a b).1)).kind,.int .i64 (z1y (soB 16 (cmpV a b).1)).n,.string (z1y (soB 16 (cmpV a b).1)).s]) (by unfold results;go_simp) rfl ?_;refine⟨rfl,?_⟩;have h5:=hx.trans h4;exact((h5.setCell (by show w.heap.size≤w.heap.size+1+1;omega) _).setCell (by show w.heap.size≤w.heap.size+1+1;omega) _).setCell (by show w.heap.size≤w.heap.size+1+1;omega) _
theorem z23j{St:Nat→Nat→Prop}{w:World}{v:Value}{a:Val}(h:DRel Tryz.prog En St w v (.d (.agg (enc .val a)))):v=aggV a∧WI a.kind∧WI a.n∧WStr a.s:=by
 obtain⟨arr,rfl,hall⟩:=h;have e:arr=arr.toList.toArray:=y4d.symm;rw[e];generalize arr.toList=l at hall
 match l,hall with
 |[x0,x1,x2],⟨h0,h1,h2,_⟩=>
  have g0:VRel En St w x0 (.s (.int .i64 a.kind)):=h0;have g1:VRel En St w x1 (.s (.int .i64 a.n)):=h1;have g2:VRel En St w x2 (.s (.string a.s)):=h2;cases g0 with
  |s _ k0=>cases g1 with
   |s _ k1=>cases g2 with
    |s _ k2=>exact⟨rfl,oneC_i64.1 k0,oneC_i64.1 k1,oneC_str.1 k2⟩
theorem z29d{St:Nat→Nat→Prop}{w:World}{a:Val}(h1:WI a.kind)(h2:WI a.n)(h3:WStr a.s):DRel Tryz.prog En St w (aggV a) (.d (.agg (enc .val a))):=
 ⟨_,rfl,.s _ (oneC_i64.2 h1),.s _ (oneC_i64.2 h2),.s _ (oneC_str.2 h3),trivial⟩
theorem z1yy{a b:Val}(ha:WI a.kind∧WI a.n∧WStr a.s)(hb:WI b.kind∧WI b.n∧WStr b.s)(W:World)(hlW:Laid W):Calls Tryz.prog 152 #[aggV a,aggV b] W fun e w'=>e=.returned (.tuple #[.int .i64 (cmpV a b).1,.bool (cmpV a b).2])∧Ext W w':=by
 have hF:z8c [.d (.agg (enc .val a)),.d (.agg (enc .val b))]=some ([],z4j (z1t a b),z4k (z1t a b)):=by
  unfold z8c;simp only[z107];rfl
 have hc:=(zk0 _ _ _ _ hF (by simp)).1 W (fun _ _=>False) [aggV a,aggV b] (fun _ _ h=>h.elim) ⟨z29d ha.1 ha.2.1 ha.2.2,z29d hb.1 hb.2.1 hb.2.2,trivial⟩ hlW;refine hc.mono ?_;rintro e w' ⟨v,rfl,hx,g,_,_,_,hr,_⟩;refine⟨?_,hx⟩;rw[z1iq]at hr;obtain⟨arr,rfl,hall⟩:=hr;have e:arr=arr.toList.toArray:=y4d.symm;rw[e];generalize arr.toList=l at hall
 match l,hall with
 |[x0,x1],⟨h0,h1,_⟩=>
  obtain⟨rfl,_⟩:=h0;obtain⟨rfl,_⟩:=h1;rfl
theorem zh3(W:World)(x:Bool)(hlW:Laid W):Calls Tryz.prog 39 #[.bool x] W fun e w'=>e=.returned (.agg #[.int .i64 (z1y x).kind,.int .i64 (z1y x).n,.string (z1y x).s])∧Ext W w':=by
 have hF:zcr [.d (.v (cb x))]=some ([],zvf (z2v x),zvg (z2v x)):=by
  unfold zcr;simp only[z2n8];rfl
 have hc:=(zrt _ _ _ _ hF (by simp)).1 W (fun _ _=>False) [.bool x] (fun _ _ h=>h.elim) ⟨.s _ rfl,trivial⟩ hlW;refine hc.mono ?_;rintro e w' ⟨v,rfl,hx,g,_,_,_,hr,_⟩;refine⟨?_,hx⟩;rw[zx4]at hr;obtain⟨arr,rfl,hall⟩:=hr;have e:arr=arr.toList.toArray:=y4d.symm;rw[e];generalize arr.toList=l at hall
 match l,hall with
 |[x0,x1,x2],⟨h0,h1,h2,_⟩=>
  obtain⟨rfl,_⟩:=h0;obtain⟨rfl,_⟩:=h1;obtain⟨rfl,_⟩:=h2;rfl
theorem z2ca(op:Int)(a b:Val):WI (cmpO op a b).kind∧WI (cmpO op a b).n∧WStr (cmpO op a b).s:=by
 unfold cmpO z1y z7;split
 ·refine⟨by simp only;omega,?_,by show(0:Nat)≤_;omega⟩;simp only;split<;>omega
 ·exact⟨by simp only;omega,by simp only;omega,by show(0:Nat)≤_;omega⟩
theorem zqy:FnOK 164 zc2:=by
 intro args ob rs os h hob;unfold zc2 at h;split at h
 ·rename_i x0 x1 x2;simp only[y6,y8,yl]at h;obtain⟨op,e0,a,e1,b,e2,rfl,rfl,rfl⟩:=h;obtain rfl:=z1c e0;obtain rfl:=zr e1;obtain rfl:=zr e2;refine⟨?_,zk Tryz.func164 (by kernel_rfl) (by kernel_rfl)⟩;have hr:=hob _ (yh.2 rfl);intro w St vs hbd hvs hld
  match vs,hvs with
  |[v0,v1,v2],⟨h0,h1,h2,_⟩=>
   obtain⟨rfl,-⟩:=zv7 h0;obtain⟨rfl,ha⟩:=z23j h1;obtain⟨rfl,hb⟩:=z23j h2;have hc:=z1yy ha hb;have main:Calls Tryz.prog 164 #[.int .i64 op,aggV a,aggV b] w fun e w'=>e=.returned (aggV (cmpO op a b))∧Ext w w':=by
    unfold cmpO;cases hk:(cmpV a b).2
    ·rw[if_neg (by decide)];rw[hk]at hc;exact z1yx op a b w hk hld hc
    ·rw[if_pos rfl];rw[hk]at hc;have hcase:op=11∨op=12∨op=13∨op=14∨op=15∨op=16:=by omega
     rcases hcase with rfl|rfl|rfl|rfl|rfl|rfl
     ·exact z27o a b w hld hc zh3
     ·exact z27p a b w hld hc zh3
     ·exact z27q a b w hld hc zh3
     ·exact z27r a b w hld hc zh3
     ·exact z27s a b w hld hc zh3
     ·exact z27t a b w hld hc zh3
   refine main.mono ?_;rintro e w' ⟨rfl,hx⟩;obtain⟨k0,k1,k2⟩:=z2ca op a b;let gg:G:={β:=fun _=>0,lb:=fun _=>False,ω:=fun _ _=>none,tk:=fun _=>(none,0)};exact⟨_,rfl,hx,gg,fun _ h=>h,fun b o x _ h=>by simp[gg]at h,fun b o x h=>by simp[gg]at h,⟨_,rfl,⟨rfl,oneC_i64.2 k0⟩,⟨rfl,oneC_i64.2 k1⟩,⟨rfl,oneC_str.2 k2⟩,trivial⟩,fun k o h=>by simp at h⟩
 ·simp at h
end B
namespace B
open Go Go.RowKit
set_option maxRecDepth 1000000
def zvk(s:ByteArray)(j:Nat):UInt8:=s.data.toList.getD j 0
structure RowT(w:World)(s:ByteArray)(f b:Int)(k:Nat)(wr:World):Prop where
 ext:Ext w wr
 cell:∀j,j<s.size→wr.cell? ⟨w.heap.size,j,none⟩=some (.int .u8 ((if j<k then zta f b (zvk s j)else zvk s j).toNat:Nat))
 fr:∀j,j<s.size→wr.frozen? ⟨w.heap.size,j,none⟩=false
theorem z2g0(w:World)(e:TypeId)(s:ByteArray):Ext w (Lib.bytesWorld w e s):=by
 have h:Ext w ((w.drew.alloc (.cells (Lib.bytesCells w e s) e))):=((Ext.refl w).drew).alloc _;have hs:=Lib.bytesWorld_size w e s;refine⟨rfl,rfl,rfl,by omega,fun k hk=>Lib.bytesWorld_at_old w e s k hk⟩
theorem z2cb(w:World)(e:TypeId)(s:ByteArray)(f b:Int):RowT w s f b 0 (Lib.bytesWorld w e s) where
 ext:=z2g0 w e s
 cell j hj:=by
  rw[Lib.bytesWorld_cell w e s j hj,if_neg (by omega)];rfl
 fr j hj:=by
  unfold World.frozen?;simp only[Lib.bytesWorld_at_new];have:s.size≤(Lib.bytesCells w e s).size:=by
   unfold Lib.bytesCells;rw[Array.size_append,Array.size_map];exact y43 _ _
  simp only[Bool.and_eq_false_iff,decide_eq_false_iff_not];omega
theorem RowT.step{w wr:World}{s:ByteArray}{f b:Int}{k:Nat}(h:RowT w s f b k wr)(hk:k<s.size)(v:Value)(hv:v=.int .u8 ((zta f b (zvk s k)).toNat:Nat)):RowT w s f b (k+1) (wr.setCell ⟨w.heap.size,k,none⟩ v) where
 ext:=h.ext.setCell (y7 _) _
 cell j hj:=by
  by_cases e:j=k
  ·subst e;rw[World.cell?_setCell_same _ _ _ (h.cell j hj),if_pos (by omega),hv]
  ·rw[World.cell?_setCell_other _ _ _ _ (by simp only[ne_eq,Addr.mk.injEq,not_and];omega),h.cell j hj];by_cases hjk:j<k
   ·rw[if_pos hjk,if_pos (by omega)]
   ·rw[if_neg hjk,if_neg (by omega)]
 fr j hj:=by rw[World.frozen?_setCell];exact h.fr j hj
theorem RowT.stay{w wr:World}{s:ByteArray}{f b:Int}{k:Nat}(h:RowT w s f b k wr)(hv:zta f b (zvk s k)=zvk s k):RowT w s f b (k+1) wr where
 ext:=h.ext
 cell j hj:=by
  rw[h.cell j hj];by_cases e:j=k
  ·subst e;rw[if_neg (by omega),if_pos (by omega),hv]
  ·by_cases hjk:j<k
   ·rw[if_pos hjk,if_pos (by omega)]
   ·rw[if_neg hjk,if_neg (by omega)]
 fr:=h.fr
theorem z27u(s:ByteArray)(f b:Int)(w:World)(hs:s.size≤2000000):Calls Tryz.prog 212 #[.string s,.int .u8 f,.int .i64 b] w fun e w'=>e=.returned (.string (zmp s f b))∧Ext w w':=by
 have h9:Tryz.prog.underlying 9=some .string:=by kernel_rfl
 have hB:Tryz.prog.underlying 201=some (.slice 5):=by kernel_rfl
 have h5:Tryz.prog.underlying 5=some (.int .u8):=by kernel_rfl
 have hconv:=Lib.run_convert_string_bytes (P:=Tryz.prog) w 9 201 5 s h9 hB h5;have hst:=Lib.hid (z2cb w 5 s f b);generalize Lib.bytesWorld w 5 s=w1 at hconv hst;generalize grownCap w s.size 0 5=cp at hconv
 go_enter Tryz.func212,Tryz.ntmps212
 go_wp2_with fail
 go_loopw [14] (fun i wr=>∃k:Nat,k≤s.size∧i=.int .i64 k∧RowT w s f b k wr) (fun i _=>s.size- (intOf i).toNat)
 case atStart=>exact⟨0,by omega,rfl,hst.out⟩
 case round=>
  obtain⟨k,hk,rfl,hr⟩:=hrel;by_cases hlt:k<s.size
  ·have e1:=hr.cell k hlt;have e2:=hr.fr k hlt;rw[if_neg (y4e _)]at e1;have HR:=Lib.hid hr;clear hr;generalize hc:zvk s k=c at e1
   go_wp2_with fail
   ·refine⟨⟨k+1,by omega,by simp,HR.out.step hlt _ ?_⟩,by simp[intOf];omega⟩;rename_i h1 h2;unfold zta;rw[hc,if_pos ⟨h1,by rw[IntKind.wrap_u8];exact h2⟩,IntKind.wrap_u8];have e:IntKind.i64.wrap ((c.toNat:Int)+b)=wrap64 ((c.toNat:Int)+b):=by rw[IntKind.wrap_i64];unfold wrap64;rfl
    rw[e];generalize wrap64 ((c.toNat:Int)+b)=y;congr 1;have h3:(UInt8.ofNat (y % 256).toNat).toNat=(y % 256).toNat % 256:=UInt8.toNat_ofNat';rw[h3];omega
   ·refine⟨⟨k+1,by omega,by simp,HR.out.stay ?_⟩,by simp[intOf];omega⟩;unfold zta;rw[hc,if_neg];rintro⟨_,h⟩;rw[IntKind.wrap_u8]at h;omega
   ·refine⟨⟨k+1,by omega,by simp,HR.out.stay ?_⟩,by simp[intOf];omega⟩;unfold zta;rw[hc,if_neg];rintro⟨h,_⟩;omega
  ·have hke:k=s.size:=by omega
   subst hke
   have hback:=run_convert_bytes_back (P:=Tryz.prog) wr 201 9 5 ⟨w.heap.size,0,none⟩ cp (s.toList.map (zta f b)) hB h5 h9 (fun j hj=>by
    rw[yz,z38]at hj;have:=hr.cell j hj;rw[if_pos hj]at this;have ea:(⟨w.heap.size,0,none⟩:Addr).add j=⟨w.heap.size,j,none⟩:=by unfold Addr.add;split<;>simp_all
    rw[ea,this,y3l];congr 4;unfold zvk;rw[ye,y9 (by rw[y1l];exact hj),y46]
    simp only[ByteArray.toList_eq])
   rw[yz,z38]at hback;have hx:=hr.ext;clear hr
   go_wp2_with fail
   go_ret;exact⟨rfl,hx⟩
theorem z1iw:FnOK 212 zmq:=by
 intro args ob rs os h hob;unfold zmq at h;split at h
 ·rename_i x0 x1 x2;simp only[y6,y8,yl]at h;obtain⟨s,e0,f,e1,b,e2,rfl,rfl,rfl⟩:=h;obtain rfl:=z3y e0;obtain rfl:=z1c e1;obtain rfl:=z1c e2;refine⟨?_,zk Tryz.func212 (by kernel_rfl) (by kernel_rfl)⟩;have hr:=hob _ (yh.2 rfl);intro w St vs hbd hvs hld
  match vs,hvs with
  |[v0,v1,v2],⟨h0,h1,h2,_⟩=>
   obtain⟨rfl,hs⟩:=zv6 h0;obtain⟨rfl,-⟩:=zv7 h1;obtain⟨rfl,-⟩:=zv7 h2;refine(z27u s f b w hr).mono ?_;rintro e w' ⟨rfl,hx⟩;let gg:G:={β:=fun _=>0,lb:=fun _=>False,ω:=fun _ _=>none,tk:=fun _=>(none,0)};exact⟨_,rfl,hx,gg,fun _ h=>h,fun b o x _ h=>by simp[gg]at h,fun b o x h=>by simp[gg]at h,⟨rfl,oneC_str.2 (by rw[z13p];exact hs)⟩,fun k o h=>by simp at h⟩
 ·simp at h
end B
namespace B
open Go Go.RowKit
set_option maxRecDepth 100000
noncomputable section
attribute [local irreducible] awp ctxK zu z1a retQ z1m awf ctxF z1k
def z19w(s:ByteArray):Option (RF Un):=fnF_ z1dq z266 Tryz.f163 0 [.d] [.d (.v (cs s))]
theorem z23k(s:ByteArray):z19w s=some (zyh ({kind:=(3:Int),n:=(0:Int),s:=s})):=by kernel_rfl
def z9c(s:ByteArray):Val:=
 ({kind:=(3:Int),n:=(0:Int),s:=s})
theorem z23l(s:ByteArray):z19w s=some (zyh (z9c s)):=by rw[z23k];unfold z9c;simp only[z8];repeat(first|rfl|split)
def zzh:FnC Un:=fnF1 dStr fun s=>([],zyh (z9c s))
theorem z19x:FnOK 163 zzh:=fnK1 z3y (M:=z1dq) rfl trivial trivial trivial trivial trivial Tryz.func163 fun s=>GiF.r fun _ _=>z23l s
def z1wl(v:Val)(kind:Int):Option (RF Un):=fnF_ z1dq z266 Tryz.f200 0 [.d] [.d (.agg (enc Ty.val v)),.box [.v (.s (.int .i64 kind))]]
theorem z2g1(v:Val)(kind:Int):z1wl v kind=some (z91 (v.kind !=kind)):=by kernel_rfl
def zmr(v:Val)(kind:Int):Bool:=v.kind !=kind
theorem z27w(v:Val)(kind:Int)(_hv:WS .val v)(_hk:WI kind)(_h:True):z1wl v kind=some (z91 (zmr v kind)):=by
 rw[z2g1];rfl
def z1ix:List (List (DC Un))→Option (FV Un):=fun dl=>match dl with
 |[b0]=>(bI .i64 b0).bind fun kind=>some (zy (fun v=>True) (fun v=>zmr v kind))
 |_=>none
theorem z2cc:ClOK 200 z1ix:=by
 refine⟨zk Tryz.func200 (by kernel_rfl) (by kernel_rfl),fun dl φ args ob rs hF hφ hob=>?_⟩;unfold z1ix at hF;split at hF
 ·simp only[y6,y8]at hF;obtain⟨kind,g0,hE⟩:=hF;subst hE;obtain rfl:=z2n9 g0;unfold zy at hφ;split at hφ
  ·simp only[y6,y8,yl]at hφ;obtain⟨v,e0,rfl,rfl⟩:=hφ;simp only[yw,y1n,y15,yx];rw[zr e0];exact Contract.data (z2c (M:=z1dq) rfl (z4p (l1:=[]) (l2:=[]) (l3:=[]) (l4:=[]) (l5:=[]) trivial trivial trivial trivial trivial) Tryz.func200 (by kernel_rfl) z266 0 [.d] (fun hwf=>(z27w v kind (z46 hwf (a:=.d (.agg (enc Ty.val v))) (yd (i:=0) rfl)) (z46 hwf (a:=.box [.v (.s (.int .i64 kind))]) (yd (i:=1) rfl)) (hob _ (yd (i:=0) rfl)))))
  ·simp at hφ
 ·simp at hF
def z114:Mc Un:=mcF_ [(199,zzf)] [] [(200,z1ix)] [] []
def zx5(l:List Val)(kind:Int):Option (RF Un):=fnF_ z114 z266 Tryz.f157 0 [.d] [.d (.v (.dat (U:=Un) Ty.val l)),.d (.v (.s (.int .i64 kind)))]
theorem z1o9(l:List Val)(kind:Int):zx5 l kind=obO ((zy (fun v=>True) fun v=>zmr v kind)=zy (z18 (zy (fun v=>True) fun v=>zmr v kind)) (z1o (zy (fun v=>True) fun v=>zmr v kind))) (obO (zbc (z18 (zy (fun v=>True) fun v=>zmr v kind)) l) (some (z91 (!zkj l (z18 (zy (fun v=>True) fun v=>zmr v kind)) (z1o (zy (fun v=>True) fun v=>zmr v kind)))))):=by kernel_rfl
def z4v(l:List Val)(kind:Int):Bool:=l.all fun v=>v.kind==kind
theorem z1cy(l:List Val)(kind:Int)(_hl:WL .val l)(_hk:WI kind):zx5 l kind=some (z91 (z4v l kind)):=by
 rw[z1o9];simp only[zjq,zjp];rw[z6 trivial,z6 (show zbc _ l from fun _ _=>trivial)];unfold z4v zkj zmr;congr 2;clear _hl
 induction l with
 |nil=>rfl
 |cons x l ih=>rw[List.any_cons,y1g,Bool.not_or,ih];simp[bne]
def z115:FnC Un:=fnF2 (dL .val) (dI .i64) fun l kind=>([],z91 (z4v l kind))
theorem z1oa:FnOK 157 z115:=fnK2 zx z1c (M:=z114) rfl ⟨z23i,trivial⟩ trivial ⟨z2cc,trivial⟩ trivial trivial Tryz.func157 fun l kind=>GiF.r fun w _=>z1cy l kind (wfA_ w 0) (wfA_ w 1)
def z15f:Mc Un:=mcF_ [(32,ze9)] [] [] [] []
def z116(n:Int)(ok:Bool):Option (RF Un):=fnF_ z15f z266 Tryz.f158 0 [.d] [.d (.v (.s (.int .i64 n))),.d (.v (cb ok))]
theorem z1sv(n:Int)(ok:Bool):z116 n ok=cndO (!ok) (some (zyh (z7))) (some (zyh (zf n))):=by kernel_rfl
def z4b(n:Int)(ok:Bool):Val:=
  if(!ok)=true then
   (z7)
  else
   (zf n)
theorem z1sw(n:Int)(ok:Bool):z116 n ok=some (zyh (z4b n ok)):=by rw[z1sv];unfold z4b;simp only[z8];repeat(first|rfl|split)
def zru:FnC Un:=fnF2 (dI .i64) dB fun n ok=>([],zyh (z4b n ok))
theorem z117:FnOK 158 zru:=fnK2 z1c z1kw (M:=z15f) rfl ⟨zfa,trivial⟩ trivial trivial trivial trivial Tryz.func158 fun n ok=>GiF.r fun _ _=>z1sw n ok
def z15g:Mc Un:=mcF_ [(161,zdi),(155,zeo)] [] [] [] []
def z118(f:Int→Int→Int)(a:Val)(b:Val):Option (RF Un):=fnF_ z15g z266 Tryz.f165 0 [.d] [.fn (z1j f),.d (.agg (enc Ty.val a)),.d (.agg (enc Ty.val b))]
theorem z1sx(f:Int→Int→Int)(a:Val)(b:Val):z118 f a b=some (zvh (z62 (f (z3z a) (z3z b)))):=by kernel_rfl
def z6a(f:Int→Int→Int)(a b:Val):Val:=z62 (f (z3z a) (z3z b))
theorem z1iy(f:Int→Int→Int)(a b:Val)(_ha:WS .val a)(_hb:WS .val b):z118 f a b=some (zvh (z6a f a b)):=by
 rw[z1sx];rfl
def zrv:FnC Un:=fun args=>match args with
 |[x0,x1,x2]=>(dF x0).bind fun f=>(dS .val x1).bind fun a=>(dS .val x2).bind fun b=>some ([f=(z1j (z11 f))],zvf (z6a (z11 f) a b),zvg (z6a (z11 f) a b))
 |_=>none
theorem z1sy:FnOK 165 zrv:=by
 intro args ob rs os h hob;unfold zrv at h;split at h
 ·simp only[y6,y8,yl]at h;obtain⟨f,e0,a,e1,b,e2,rfl,rfl,rfl⟩:=h;obtain rfl:=zok e0;obtain rfl:=zr e1;obtain rfl:=zr e2;have hfv0:=hob _ (yd (i:=0) rfl);generalize z11 f=pp0 at*;subst hfv0;exact⟨z2c (M:=z15g) rfl (z4p (l1:=[(161,zdi),(155,zeo)]) (l2:=[]) (l3:=[]) (l4:=[]) (l5:=[]) ⟨zid,zml,trivial⟩ trivial trivial trivial trivial) Tryz.func165 (by kernel_rfl) z266 0 [.d] (fun hwf=>(z1iy pp0 a b (z46 hwf (a:=.d (.agg (enc Ty.val a))) (yd (i:=1) rfl)) (z46 hwf (a:=.d (.agg (enc Ty.val b))) (yd (i:=2) rfl)))),zk Tryz.func165 (by kernel_rfl) (by kernel_rfl)⟩
 ·simp at h
def zh4:Mc Un:=mcF_ [(164,zc2),(161,zdi),(208,z1wj),(155,zeo)] [] [] [] []
def zo2:Nat→NS:=nsF_ [(3,{ts:=bl 25 1844,bs:=bl 25 20,nm:=[(.sl 5,100)]})] false
def z8d(v:Val)(l:List Val)(v0:Int)(v1:List Int):S Un:=(st 25 25 101 0 [(2,ax 2),(4,ax 4),(5,ao 100),(8,al .val l),(9,ai (↑l.length:Int)),(10,ai v0)] [(2,bg .val v),(4,bg .val z7)] [(100,some ⟨(0:Nat),Ty.int,v1,some (0:Nat),true⟩)])
def zex:S Un→Option (EX Un):=lpF_ zh4 zo2 Tryz.f168 [1,1,0,1,2,2] 3
def zx6:Exit→S Un→Option (RF Un):=cxF_ zh4 zo2 Tryz.f168 [1,1,0,1,2] [.d]
def zx7(v:Val)(l:List Val):Option (RF Un):=fnF_ zh4 zo2 Tryz.f168 1 [.d] [.d (.agg (enc Ty.val v)),.d (.v (.dat (U:=Un) Ty.val l))]
theorem z1ob(v:Val)(l:List Val):zx7 v l=(zex (z8d v l (0:Int) ([]))).bind (zd zx6):=by kernel_rfl
theorem zx8(v:Val)(l:List Val)(v0:Int)(v1:List Int):zex (z8d v l v0 v1)=cndO (decide (v0<(↑l.length:Int))) (obO (0≤v0∧v0<(↑l.length:Int)) (obO ((11:Int)≤(11:Int)∧(11:Int)≤(16:Int)) (obO ((v1.length+[z3z (cmpO (11:Int) v (l.getD v0.toNat z7))].length)*(8:Nat)≤zh) (zex (z8d v l (IntKind.i64.wrap (v0+1)) (v1++[z3z (cmpO (11:Int) v (l.getD v0.toNat z7))])))))) (some (.exit 0,(z8d v l v0 v1))):=lpQ_ (by kernel_rfl)
theorem z19y(v:Val)(l:List Val)(v0:Int)(v1:List Int):zx6 (.exit 0) (z8d v l v0 v1)=some (zyh (z62 (z1c5 v1))):=by kernel_rfl
def zg3(v:Val)(l:List Val):Val:=z62 (z1c5 (l.map fun x=>z3z (cmpO 11 v x)))
theorem zg4{α β:Type}(f:α→β):∀(l:List α)(o:List β),l.foldl (fun o x=>o++[f x]) o=o++l.map f
 |[],o=>by simp
 |x::l,o=>by rw[yt,zg4 f l];simp
theorem z1cz(v:Val)(l:List Val)(_hv:WS .val v)(hl:WL .val l)(h:l.length≤2000000):zx7 v l=some (zyh (zg3 v l)):=by
 obtain⟨lp,_⟩:=z1n (e:=.exit 0) (L:=zex) (st:=fun(o:List Int) i=>z8d v l i o) (l:=l) (d:=z7) (g:=fun o x=>o++[z3z (cmpO 11 v x)]) (fun i o=>o.length=i) hl.len
  (fun o i x hi hx hI=>by
   have hI':o.length=i:=hI;refine⟨by show(o++[_]).length=i+1;rw[ya,yg];omega,?_⟩;rw[zx8];simp only[z8,hi,decide_true,if_true,and_true,y5,hx]
   rw[z6 (by omega),z6 (by omega),z6 (by unfold zh;rw[yg];omega)])
  (fun o _=>by rw[zx8];simp[z8]) [] rfl
 rw[zg4,yx]at lp;rw[z1ob];refine(zg lp).trans ?_;rw[z19y];rfl
def z119:FnC Un:=fnF2 (dS .val) (dL .val) fun v l=>([l.length≤2000000],zyh (zg3 v l))
theorem z1oc:FnOK 168 z119:=fnK2 zr zx (M:=zh4) rfl ⟨zqy,zid,z2c6,zml,trivial⟩ trivial trivial trivial trivial Tryz.func168 fun v l=>GiF.r fun w o=>z1cz v l (wfA_ w 0) (wfA_ w 1) (obA_ o 0)
def zh5:Mc Un:=mcF_ [(161,zdi)] [] [] [] []
def zo3:Nat→NS:=nsF_ [(1,{ts:=bl 23 5,bs:=bl 23 4,nm:=[],gb:=[2]})] false
def z1u(b2:Val)(v0:List Val):S Un:=(st 23 23 92 0 [(0,al .val v0),(2,ax 2)] [(2,bg .val b2)] [])
def z4l:S Un→Option (EX Un):=lpF_ zh5 zo3 Tryz.f169 [1,0,2,2] 1
def zey:Exit→S Un→Option (RF Un):=cxF_ zh5 zo3 Tryz.f169 [1,0,2] [.d]
def zx9(l:List Val):Option (RF Un):=fnF_ zh5 zo3 Tryz.f169 0 [.d] [.d (.v (.dat (U:=Un) Ty.val l))]
theorem z1od(l:List Val):zx9 l=(z4l (z1u z7 l)).bind (zd zey):=by kernel_rfl
theorem zez(b2:Val)(v0:List Val):z4l (z1u b2 v0)=cndO (decide ((↑v0.length:Int)>(1:Int))) (obO ((0:Int)≤(0:Int)∧(0:Int)<(↑v0.length:Int)) (cndO (z3z (v0.getD 0 z7)==2) (obO ((0:Int)≤(1:Int)∧(1:Int)<(↑v0.length:Int)) (some (.ret,(z1u (v0.getD 1 z7) v0)))) (obO ((0:Int)≤(2:Int)∧(2:Int)≤(↑v0.length:Int)) (z4l (z1u b2 (List.drop 2 v0)))))) (some (.exit 0,(z1u b2 v0))):=lpQ_ (by kernel_rfl)
theorem z16g(b2:Val)(v0:List Val):zey .ret (z1u b2 v0)=some (zyh (b2)):=by kernel_rfl
theorem zqz(b2:Val)(v0:List Val):zey (.exit 0) (z1u b2 v0)=cndO ((↑v0.length:Int)==(1:Int)) (obO ((0:Int)≤(0:Int)∧(0:Int)<(↑v0.length:Int)) (some (zyh (v0.getD 0 z7)))) (some (zyh (z7))):=by kernel_rfl
def zvl:List Val→Val
 |[]=>z7
 |[x]=>x
 |c::v::r=>if z3z c=2 then v else zvl r
def zms(l:List Val):Val:=zvl l
theorem z2cd:∀(n:Nat)(l:List Val),l.length≤n→(z4l (z1u z7 l)).bind (zd zey)=some (zyh (zvl l)):=by
 intro n
 induction n using Nat.strongRecOn with
 |ind n ih=>
  intro l hn
  match l,hn with
  |[],_=>
   have e:z4l (z1u z7 [])=some (.exit 0,z1u z7 []):=by rw[zez];rfl
   rw[zg e,zqz];rfl
  |[x],_=>
   have e:z4l (z1u z7 [x])=some (.exit 0,z1u z7 [x]):=by rw[zez];rfl
   rw[zg e,zqz,z8,if_pos (by simp),z6 (by simp)];rfl
  |c::v::r,hn=>
   simp only[yr]at hn;have hg0:(c::v::r).getD 0 z7=c:=rfl;have hg1:(c::v::r).getD 1 z7=v:=rfl;have hd:List.drop 2 (c::v::r)=r:=rfl;have hl:((c::v::r).length:Int)=(r.length:Int)+2:=by simp only[yr];omega
   by_cases h:z3z c=2
   ·have e:z4l (z1u z7 (c::v::r))=some (.ret,z1u v (c::v::r)):=by
     rw[zez,hg0,hg1,hl,z8,if_pos (by simp;omega),z6 (by omega),z8,if_pos (by simpa using h),z6 (by omega)]
    rw[zg e,z16g];simp only[zvl];rw[if_pos h]
   ·have e:z4l (z1u z7 (c::v::r))=z4l (z1u z7 r):=by
     rw[zez,hg0,hg1,hl,hd,z8,if_pos (by simp;omega),z6 (by omega),z8,if_neg (by simpa using h),z6 (by omega)]
    rw[e,ih r.length (by omega) r (y7 _)];simp only[zvl];rw[if_neg h]
theorem z1d0(l:List Val)(_hl:WL .val l):zx9 l=some (zyh (zms l)):=by
 rw[z1od];exact z2cd _ l (y7 _)
def z11a:FnC Un:=fnF1 (dL .val) fun l=>([],zyh (zms l))
theorem z1oe:FnOK 169 z11a:=fnK1 zx (M:=zh5) rfl ⟨zid,trivial⟩ trivial trivial trivial trivial Tryz.func169 fun l=>GiF.r fun w _=>z1d0 l (wfA_ w 0)
def z1of(v:Val):Option (RF Un):=fnF_ z1dq z266 Tryz.f210 0 [.d] [.d (.agg (enc Ty.val v))]
theorem z2ce(v:Val):z1of v=some (z1fp (v.kind !=0)):=by kernel_rfl
def zep(v:Val):Bool:=
 (v.kind !=(0:Int))
theorem z2cf(v:Val):z1of v=some (z1fp (zep v)):=by rw[z2ce];unfold zep;simp only[z8];repeat(first|rfl|split)
def zxa:FnC Un:=fun args=>match args with
 |[x0]=>(dS .val x0).bind fun v=>some ([],zuc (zep v),zud (zep v))
 |_=>none
theorem z2cg:FnOK 210 zxa:=by
 intro args ob rs os h hob;unfold zxa at h;split at h
 ·simp only[y6,y8,yl]at h;obtain⟨v,e0,rfl,rfl,rfl⟩:=h;obtain rfl:=zr e0;exact⟨z2c (M:=z1dq) rfl (z4p (l1:=[]) (l2:=[]) (l3:=[]) (l4:=[]) (l5:=[]) trivial trivial trivial trivial trivial) Tryz.func210 (by kernel_rfl) z266 0 [.d] (fun hwf=>(z2cf v)),zk Tryz.func210 (by kernel_rfl) (by kernel_rfl)⟩
 ·simp at h
def z2j:FV Un:=zy (fun v=>True) (fun v=>zep v)
theorem z27x:FvOK 210 z2j:=by
 refine⟨zk Tryz.func210 (by kernel_rfl) (by kernel_rfl),fun args ob rs h hob=>?_⟩;unfold z2j zy at h;split at h
 ·simp only[y6,y8,yl]at h;obtain⟨v,e0,rfl,rfl⟩:=h;simp only[yw,y1n];rw[zr e0];refine Contract.data (z2cg _ ([]) _ _ (?_:zxa _=some _) (by simp)).1;unfold zxa;simp only[z107];rfl
 ·simp at h
def zxb:Mc Un:=mcF_ [(209,zie),(152,z8c),(159,z19h),(158,zru),(211,zbm),(32,ze9),(212,zmq),(163,zzh)] [(210,z2j)] [] [] []
def zvm(name:ByteArray)(l:List Val):Option (RF Un):=fnF_ zxb z266 Tryz.f170 0 [.d] [.d (.v (cs name)),.d (.v (.dat (U:=Un) Ty.val l))]
def zdj(name:ByteArray)(l:List Val):Option (RF Un):=obO ((0:Int)≤(0:Int)∧(0:Int)<(↑l.length:Int)) (cndO ((l.getD 0 z7).kind !=3) (some (zyh (z7))) (cndO (name.toList==(ByteArray.mk #[108,101,110,103,116,104]).toList) (obO ((0:Int)≤(0:Int)∧(0:Int)<(↑l.length:Int)) (some (zyh (zf (↑(l.getD 0 z7).s.size:Int))))) (cndO (name.toList==(ByteArray.mk #[108,111,119,101,114]).toList) (obO ((0:Int)≤(0:Int)∧(0:Int)<(↑l.length:Int)) (obO ((l.getD 0 z7).s.size≤(2000000:Nat)) (some (zyh (z9c (zmp (l.getD 0 z7).s (65:Int) (32:Int))))))) (cndO (name.toList==(ByteArray.mk #[117,112,112,101,114]).toList) (obO ((0:Int)≤(0:Int)∧(0:Int)<(↑l.length:Int)) (obO ((l.getD 0 z7).s.size≤(2000000:Nat)) (some (zyh (z9c (zmp (l.getD 0 z7).s (97:Int) (-32:Int))))))) (some (zyh (z7)))))))
def zdk(name:ByteArray)(l:List Val):Option (RF Un):=cndO ((↑l.length:Int) !=(1:Int)) (some (zyh (z7))) (cndO (name.toList==(ByteArray.mk #[97,98,115]).toList) (obO ((0:Int)≤(0:Int)∧(0:Int)<(↑l.length:Int)) (cndO ((l.getD 0 z7).kind ==2) (obO ((0:Int)≤(0:Int)∧(0:Int)<(↑l.length:Int)) (cndO (decide ((l.getD 0 z7).n<0)) (some (zyh (z4b (zcp (l.getD 0 z7).n).fst (zcp (l.getD 0 z7).n).snd))) (some (zyh (z4b (l.getD 0 z7).n (z1q (l.getD 0 z7).n)))))) (zdj name l))) (zdj name l))
theorem z1iz(name:ByteArray)(l:List Val):zvm name l=cndO (name.toList==(ByteArray.mk #[99,111,97,108,101,115,99,101]).toList) (obO (z2j=zy (z18 z2j) (z1o z2j)) (obO (zbc (z18 z2j) l) (cndO (decide (z3f l (z18 z2j) (z1o z2j)≥0)) (obO (0≤z3f l (z18 z2j) (z1o z2j)∧z3f l (z18 z2j) (z1o z2j)<(↑l.length:Int)) (some (zyh (l.getD (z3f l (z18 z2j) (z1o z2j)).toNat z7)))) (some (zyh (z7)))))) (cndO (name.toList==(ByteArray.mk #[110,117,108,108,105,102]).toList) (cndO ((↑l.length:Int)==(2:Int)) (obO ((0:Int)≤(0:Int)∧(0:Int)<(↑l.length:Int)) (obO ((0:Int)≤(1:Int)∧(1:Int)<(↑l.length:Int)) (cndO (!(z1t (l.getD 0 z7) (l.getD 1 z7)).snd) (obO ((0:Int)≤(0:Int)∧(0:Int)<(↑l.length:Int)) (some (zyh (l.getD 0 z7)))) (cndO ((z1t (l.getD 0 z7) (l.getD 1 z7)).fst !=0) (obO ((0:Int)≤(0:Int)∧(0:Int)<(↑l.length:Int)) (some (zyh (l.getD 0 z7)))) (some (zyh (z7))))))) (zdk name l)) (zdk name l)):=by kernel_rfl
def txts(l:List Val):Prop:=l.length≤2000000∧∀x∈l,x.s.size≤2000000
def nmB(name:ByteArray)(x:ByteArray):Bool:=name.toList==x.toList
def z1c7(name:ByteArray)(x:Val):Val:=
 if x.kind≠3 then z7
 else if nmB name ⟨#[108,101,110,103,116,104]⟩=true then zf (x.s.size:Int)
 else if nmB name ⟨#[108,111,119,101,114]⟩=true then z9c (zmp x.s 65 32)
 else if nmB name ⟨#[117,112,112,101,114]⟩=true then z9c (zmp x.s 97 (-32))
 else z7
def z1c8(name:ByteArray)(l:List Val):Val:=
 if l.length≠1 then z7
 else if nmB name ⟨#[97,98,115]⟩=true∧(l.getD 0 z7).kind=2 then(if(l.getD 0 z7).n<0 then z4b (zcp (l.getD 0 z7).n).1 (zcp (l.getD 0 z7).n).2 else z4b (l.getD 0 z7).n (z1q (l.getD 0 z7).n))
 else z1c7 name (l.getD 0 z7)
def z23p(l:List Val):Val:=if 0≤z3f l (fun _=>True) zep then l.getD (z3f l (fun _=>True) zep).toNat z7 else z7
def z8k(name:ByteArray)(l:List Val):Val:=
 if nmB name ⟨#[99,111,97,108,101,115,99,101]⟩=true then z23p l
 else if nmB name ⟨#[110,117,108,108,105,102]⟩=true∧l.length=2 then(if(z1t (l.getD 0 z7) (l.getD 1 z7)).2=true∧(z1t (l.getD 0 z7) (l.getD 1 z7)).1=0 then z7 else l.getD 0 z7)
 else z1c8 name l
theorem z23q(s:List Val)(o:Val→Prop)(f:Val→Bool):z3f s o f<(s.length:Int)∨z3f s o f=-1:=by
 unfold z3f;cases h:s.findIdx? f with
 |none=>exact .inr rfl
 |some i=>
  obtain⟨h1,_,_⟩:=y2d.1 h;exact .inl (by show(i:Int)<_;omega)
theorem z1oh{β:Type}(x y:Option β):cndO false x y=y:=rfl
theorem z1oi{β:Type}(x y:Option β):cndO true x y=x:=rfl
theorem z2g2(name:ByteArray)(l:List Val)(hl:l.length=1)(h:txts l):zdj name l=some (zyh (z1c7 name (l.getD 0 z7))):=by
 have hm:(l.getD 0 z7).s.size≤2000000:=h.2 _ (by rw[ye,y9 (by omega)];exact y1z _);unfold zdj z1c7 nmB;generalize l.getD 0 z7=x at hm;have p0:∀y:Option (RF Un),obO ((0:Int)≤(0:Int)∧(0:Int)<(l.length:Int)) y=y:=fun y=>z6 (by omega);have p1:∀y:Option (RF Un),obO (x.s.size≤2000000) y=y:=fun y=>z6 hm;simp only[p0,p1];generalize(name.toList==(ByteArray.mk #[108,101,110,103,116,104]).toList)=q1;generalize(name.toList==(ByteArray.mk #[108,111,119,101,114]).toList)=q2;generalize(name.toList==(ByteArray.mk #[117,112,112,101,114]).toList)=q3;by_cases h3:x.kind=3
 ·have e3:(x.kind !=3)=false:=by simp[h3]
  rw[e3,z1oh,if_neg (fun e=>e h3)];cases q1<;>cases q2<;>cases q3<;>rfl
 ·have e3:(x.kind !=3)=true:=by simp[h3]
  rw[e3,z1oi,if_pos h3]
theorem z2g3(name:ByteArray)(l:List Val)(h:txts l):zdk name l=some (zyh (z1c8 name l)):=by
 unfold zdk z1c8;by_cases hl:l.length=1
 ·have e0:((l.length:Int) !=1)=false:=by rw[hl];rfl
  rw[e0,z1oh,if_neg (fun e=>e hl),z2g2 name l hl h];have hb:(name.toList==(ByteArray.mk #[97,98,115]).toList)=nmB name ⟨#[97,98,115]⟩:=rfl;rw[hb];cases nmB name ⟨#[97,98,115]⟩
  ·rw[z1oh,if_neg (fun e=>by simp at e)]
  ·rw[z1oi,z6 (by omega)];by_cases hk:(l.getD 0 z7).kind=2
   ·have ek:((l.getD 0 z7).kind ==2)=true:=by rw[hk];rfl
    rw[ek,z1oi,z6 (by omega),if_pos ⟨rfl,hk⟩,z8];by_cases hn:(l.getD 0 z7).n<0
    ·rw[if_pos (decide_eq_true hn),if_pos hn]
    ·rw[if_neg (fun e=>hn (of_decide_eq_true e)),if_neg hn]
   ·have ek:((l.getD 0 z7).kind ==2)=false:=by rw[beq_eq_false_iff_ne];exact hk
    rw[ek,z1oh,if_neg (fun e=>hk e.2)]
 ·have e0:((l.length:Int) !=1)=true:=by simp;omega
  rw[e0,z1oi,if_pos hl]
theorem z19z(name:ByteArray)(l:List Val)(_hn:WStr name)(_hl:WL .val l)(h:txts l):zvm name l=some (zyh (z8k name l)):=by
 have o1:z18 z2j=fun _=>True:=by unfold z2j;exact zjq _ _
 have o2:z1o z2j=zep:=by unfold z2j;exact zjp _ _
 have o3:z2j=zy (z18 z2j) (z1o z2j):=by rw[o1,o2];rfl
 rw[z1iz,z6 o3,o1,o2,z6 (show zbc _ l from fun _ _=>trivial),z2g3 name l h];unfold z8k z23p;have hb:(name.toList==(ByteArray.mk #[99,111,97,108,101,115,99,101]).toList)=nmB name ⟨#[99,111,97,108,101,115,99,101]⟩:=rfl;have hb2:(name.toList==(ByteArray.mk #[110,117,108,108,105,102]).toList)=nmB name ⟨#[110,117,108,108,105,102]⟩:=rfl;rw[hb,hb2];generalize nmB name ⟨#[99,111,97,108,101,115,99,101]⟩=q1;generalize nmB name ⟨#[110,117,108,108,105,102]⟩=q2;cases q1
 ·rw[z8,if_neg (by decide),if_neg (by decide)];cases q2
  ·rw[z8,if_neg (by decide),if_neg (fun e=>by simp at e)]
  ·rw[z8,if_pos rfl,z8];by_cases h2:l.length=2
   ·rw[if_pos (by simp;omega),if_pos ⟨rfl,h2⟩,z6 (by omega),z6 (by omega),z6 (by omega)];cases(z1t (l.getD 0 z7) (l.getD 1 z7)).2
    ·rw[if_neg (fun e=>by simp at e)];rfl
    ·simp only[z8,y49,bne_iff_ne,ne_eq];by_cases h5:(z1t (l.getD 0 z7) (l.getD 1 z7)).1=0
     ·rw[if_neg (by decide),if_neg (fun e=>e h5),if_pos ⟨trivial,h5⟩]
     ·rw[if_neg (by decide),if_pos h5,if_neg (fun e=>h5 e.2)]
   ·rw[if_neg (by simp;omega),if_neg (fun e=>h2 e.2)]
 ·rw[z8,if_pos rfl,if_pos rfl,z8];have hlt:=z23q l (fun _=>True) zep;by_cases h3:0≤z3f l (fun _=>True) zep
  ·rw[if_pos (decide_eq_true h3),if_pos h3,z6 (by omega)]
  ·rw[if_neg (fun e=>h3 (of_decide_eq_true e)),if_neg h3]
def zxc:FnC Un:=fnF2 dStr (dL .val) fun name l=>([txts l],zyh (z8k name l))
theorem z1j0:FnOK 170 zxc:=fnK2 z3y zx (M:=zxb) rfl ⟨z19s,zk0,z1nt,z117,zb3,zfa,z1iw,z19x,trivial⟩ ⟨z27x,trivial⟩ trivial trivial trivial Tryz.func170 fun name l=>GiF.r fun w o=>z19z name l (wfA_ w 0) (wfA_ w 1) (obA_ o 0)
end
end B
namespace B
open Go Go.RowKit
set_option maxRecDepth 100000
noncomputable section
attribute [local irreducible] awp ctxK zu z1a retQ z1m awf ctxF z1k
def z1oj(op:Int)(name:ByteArray)(l:List Val):Val:=
 if op=3 then(if z4v l 2=true then z4b (zcp (l.getD 0 z7).n).1 (zcp (l.getD 0 z7).n).2 else z7)
 else if op=4 then z62 (z113 (z3z (l.getD 0 z7)))
 else if op=19 then z2v ((l.getD 0 z7).kind ==0)
 else if op=5∨op=6∨op=7∨op=8∨op=9 then(if z4v l 2=true then z4b (twoN op (l.getD 0 z7).n (l.getD 1 z7).n).1 (twoN op (l.getD 0 z7).n (l.getD 1 z7).n).2 else z7)
 else if op=10 then(if z4v l 3=true then(if(l.getD 0 z7).s.size+(l.getD 1 z7).s.size≤100 then z9c ((l.getD 0 z7).s++(l.getD 1 z7).s)else z7)else z7)
 else if op=11∨op=12∨op=13∨op=14∨op=15∨op=16 then cmpO op (l.getD 0 z7) (l.getD 1 z7)
 else if op=17 then z6a zki (l.getD 0 z7) (l.getD 1 z7)
 else if op=18 then z6a z8s (l.getD 0 z7) (l.getD 1 z7)
 else if op=20 then(if z4v l 3=true then z2v (zmn (l.getD 0 z7).s (l.getD 1 z7).s)else z7)
 else if op=21 then zg3 (l.getD 0 z7) (l.drop 1)
 else if op=22 then z6a zki (cmpO 16 (l.getD 0 z7) (l.getD 1 z7)) (cmpO 14 (l.getD 0 z7) (l.getD 2 z7))
 else if op=23 then zms l
 else if op=24 then z8k name l
 else z7
def cntN(op:Int):Int×Bool:=if op=3∨op=4∨op=19 then(1,false)else if op=22 then(3,false)else if op=21∨op=23 then(2,true)else if op=24 then(0,true)else(2,false)
def zxd(op:Int):Option (RF Un):=fnF_ z1dq z26d Tryz.f156 0 [.d,.d] [.d (.v (.s (.int .i64 op)))]
theorem z1ok(op:Int):zxd op=cndO (op==3) (some (zlu ((1:Int),false))) (cndO (op==4) (some (zlu ((1:Int),false))) (cndO (op==19) (some (zlu ((1:Int),false))) (cndO (op==22) (some (zlu ((3:Int),false))) (cndO (op==21) (some (zlu ((2:Int),true))) (cndO (op==23) (some (zlu ((2:Int),true))) (cndO (op==24) (some (zlu ((0:Int),true))) (some (zlu ((2:Int),false))))))))):=by kernel_rfl
def za6(op:Int):Int×Bool:=cntN op
theorem z1d1(op:Int)(_h:WI op):zxd op=some (zlu (za6 op)):=by
 rw[z1ok];unfold za6 cntN;simp only[z8,y1h,beq_iff_eq];grind
def z11c:FnC Un:=fnF1 (dI .i64) fun op=>([],zlu (za6 op))
theorem z1ol:FnOK 156 z11c:=fnK1 z1c (M:=z1dq) rfl trivial trivial trivial trivial trivial Tryz.func156 fun op=>GiF.r fun w _=>z1d1 op (wfA_ w 0)
def z11d:Mc Un:=mcF_ [(156,z11c),(157,z115),(159,z19h),(158,zru),(161,zdi),(160,z1wc),(155,zeo),(39,zcr),(162,zvi),(163,zzh),(164,zc2),(165,zrv),(167,z19q),(168,z119),(169,z11a),(170,zxc)] [(166,z70),(153,zdh)] [] [] []
def zxe(op:Int)(l:List Val):=z4b (twoN op (l.getD 0 z7).n (l.getD 1 z7).n).fst (twoN op (l.getD 0 z7).n (l.getD 1 z7).n).snd
def zxf(l:List Val):=z6a (z11 z70) (l.getD 0 z7) (l.getD 1 z7)
def zxg(l:List Val):=z6a (z11 zdh) (l.getD 0 z7) (l.getD 1 z7)
def zxh(l:List Val):=z6a (z11 z70) (cmpO (16:Int) (l.getD 0 z7) (l.getD 1 z7)) (cmpO (14:Int) (l.getD 0 z7) (l.getD 2 z7))
def zxi(op:Int)(name:ByteArray)(l:List Val):Option (RF Un):=fnF_ z11d z26d Tryz.f120 0 [.d] [.d (.v (.s (.int .i64 op))),.d (.v (cs name)),.d (.v (.dat (U:=Un) Ty.val l))]
def z8e(op:Int)(l:List Val):Option (RF Un):=cndO (z4v l (2:Int)) (obO (5≤op∧op≤9) (obO ((0:Int)≤(0:Int)∧(0:Int)<(↑l.length:Int)) (obO ((0:Int)≤(1:Int)∧(1:Int)<(↑l.length:Int)) (some (zyh (zxe op l)))))) (some (zyh (z7)))
def z6p(op:Int)(l:List Val):Option (RF Un):=obO ((0:Int)≤(0:Int)∧(0:Int)<(↑l.length:Int)) (obO ((0:Int)≤(1:Int)∧(1:Int)<(↑l.length:Int)) (obO (11≤op∧op≤16) (some (zyh (cmpO op (l.getD 0 z7) (l.getD 1 z7))))))
def zf0(op:Int)(name:ByteArray)(l:List Val):Option (RF Un):=cndO (op==3) (cndO (z4v l (2:Int)) (obO ((0:Int)≤(0:Int)∧(0:Int)<(↑l.length:Int)) (some (zyh (z4b (zcp (l.getD 0 z7).n).fst (zcp (l.getD 0 z7).n).snd)))) (some (zyh (z7)))) (cndO (op==4) (obO ((0:Int)≤(0:Int)∧(0:Int)<(↑l.length:Int)) (some (zyh (z62 (z113 (z3z (l.getD 0 z7))))))) (cndO (op==19) (obO ((0:Int)≤(0:Int)∧(0:Int)<(↑l.length:Int)) (some (zyh (z2v ((l.getD 0 z7).kind ==0))))) (cndO (op==5) (z8e op l) (cndO (op==6) (z8e op l) (cndO (op==7) (z8e op l) (cndO (op==8) (z8e op l) (cndO (op==9) (z8e op l) (cndO (op==10) (cndO (z4v l (3:Int)) (obO ((0:Int)≤(0:Int)∧(0:Int)<(↑l.length:Int)) (obO ((0:Int)≤(1:Int)∧(1:Int)<(↑l.length:Int)) (cndO (decide (IntKind.i64.wrap ((↑(l.getD 0 z7).s.size:Int)+(↑(l.getD 1 z7).s.size:Int))≤100)) (obO ((0:Int)≤(0:Int)∧(0:Int)<(↑l.length:Int)) (obO ((0:Int)≤(1:Int)∧(1:Int)<(↑l.length:Int)) (obO ((l.getD 0 z7).s.size+(l.getD 1 z7).s.size≤(9223372036854775807:Nat)) (some (zyh (z9c ((l.getD 0 z7).s++(l.getD 1 z7).s))))))) (some (zyh (z7)))))) (some (zyh (z7)))) (cndO (op==11) (z6p op l) (cndO (op==12) (z6p op l) (cndO (op==13) (z6p op l) (cndO (op==14) (z6p op l) (cndO (op==15) (z6p op l) (cndO (op==16) (z6p op l) (cndO (op==17) (obO ((0:Int)≤(0:Int)∧(0:Int)<(↑l.length:Int)) (obO ((0:Int)≤(1:Int)∧(1:Int)<(↑l.length:Int)) (obO (z70=z1j (z11 z70)) (some (zyh (zxf l)))))) (cndO (op==18) (obO ((0:Int)≤(0:Int)∧(0:Int)<(↑l.length:Int)) (obO ((0:Int)≤(1:Int)∧(1:Int)<(↑l.length:Int)) (obO (zdh=z1j (z11 zdh)) (some (zyh (zxg l)))))) (cndO (op==20) (cndO (z4v l (3:Int)) (obO ((0:Int)≤(0:Int)∧(0:Int)<(↑l.length:Int)) (obO ((0:Int)≤(1:Int)∧(1:Int)<(↑l.length:Int)) (obO ((l.getD 0 z7).s.size≤(2000000:Nat)) (obO ((l.getD 1 z7).s.size≤(2000000:Nat)) (some (zyh (z2v (zmn (l.getD 0 z7).s (l.getD 1 z7).s)))))))) (some (zyh (z7)))) (cndO (op==21) (obO ((0:Int)≤(0:Int)∧(0:Int)<(↑l.length:Int)) (obO ((0:Int)≤(1:Int)∧(1:Int)≤(↑l.length:Int)) (obO ((List.drop 1 l).length≤(2000000:Nat)) (some (zyh (zg3 (l.getD 0 z7) (List.drop 1 l))))))) (cndO (op==22) (obO ((0:Int)≤(0:Int)∧(0:Int)<(↑l.length:Int)) (obO ((0:Int)≤(1:Int)∧(1:Int)<(↑l.length:Int)) (obO ((11:Int)≤(16:Int)∧(16:Int)≤(16:Int)) (obO ((0:Int)≤(0:Int)∧(0:Int)<(↑l.length:Int)) (obO ((0:Int)≤(2:Int)∧(2:Int)<(↑l.length:Int)) (obO ((11:Int)≤(14:Int)∧(14:Int)≤(16:Int)) (obO (z70=z1j (z11 z70)) (some (zyh (zxh l)))))))))) (cndO (op==23) (some (zyh (zms l))) (cndO (op==24) (obO (txts l) (some (zyh (z8k name l)))) (some (zyh (z7))))))))))))))))))))))))
theorem z1om(op:Int)(name:ByteArray)(l:List Val):zxi op name l=cndO (decide ((↑l.length:Int)<(za6 op).fst)) (some (zyh (z7))) (cndO (!(za6 op).snd) (cndO (decide ((↑l.length:Int)>(za6 op).fst)) (some (zyh (z7))) (zf0 op name l)) (zf0 op name l)):=by kernel_rfl
def z1x(op:Int)(name:ByteArray)(l:List Val):Val:=if(l.length:Int)<(cntN op).1∨((cntN op).2=false∧(l.length:Int)>(cntN op).1)then z7 else z1oj op name l
theorem z1a0(op:Int)(name:ByteArray)(l:List Val)(h:txts l)(hn:¬((l.length:Int)<(cntN op).1∨((cntN op).2=false∧(l.length:Int)>(cntN op).1))):zf0 op name l=some (zyh (z1oj op name l)):=by
 have hlen:=h.1;have ht:∀i,i<l.length→(l.getD i z7).s.size≤2000000:=fun i hi=>h.2 _ (by grind);have hvA:z70=z1j (z11 z70):=by rfl
 have hfA:z11 z70=zki:=by rfl
 have hvO:zdh=z1j (z11 zdh):=by rfl
 have hfO:z11 zdh=z8s:=by rfl
 unfold zf0 z1oj;simp only[z10c];simp only[z8,y1h,beq_iff_eq];by_cases h3:op=3
 ·have hc:l.length=1:=by have:cntN 3=(1,false):=rfl;grind
  grind[z6]
 rw[if_neg h3,if_neg h3];by_cases h4:op=4
 ·have hc:l.length=1:=by have:cntN 4=(1,false):=rfl;grind
  simp_all[if_pos,z6]
 rw[if_neg h4,if_neg h4];by_cases h19:op=19
 ·have hc:l.length=1:=by have:cntN 19=(1,false):=rfl;grind
  simp_all[if_pos,z6]
 by_cases h5:op=5∨op=6∨op=7∨op=8∨op=9
 ·have hc:l.length=2:=by
   have:cntN op=(2,false):=by unfold cntN;grind
   grind
  grind[z8e,zxe,z8,z6]
 rw[if_neg (by omega),if_neg h5];by_cases h10:op=10
 ·have hc:l.length=2:=by have:cntN 10=(2,false):=rfl;grind
  have a0:=ht 0 (by omega);have a1:=ht 1 (by omega);rw[if_pos h10,if_pos h10];split
  ·rw[z6 (by omega),z6 (by omega),z1p (by omega)];by_cases hs:(l.getD 0 z7).s.size+(l.getD 1 z7).s.size≤100
   ·rw[if_pos (by grind),if_pos hs,z6 (by omega),z6 (by omega),z6 (by omega)]
   grind
  rfl
 by_cases h11:op=11∨op=12∨op=13∨op=14∨op=15∨op=16
 ·have hc:l.length=2:=by
   have:cntN op=(2,false):=by unfold cntN;grind
   grind
  grind[z6p,z6]
 by_cases h17:op=17
 ·have hc:l.length=2:=by have:cntN 17=(2,false):=rfl;grind
  simp_all[if_pos,z6,zxf]
 by_cases h18:op=18
 ·have hc:l.length=2:=by have:cntN 18=(2,false):=rfl;grind
  simp_all[if_pos,z6,zxg]
 by_cases h20:op=20
 ·have hc:l.length=2:=by have:cntN 20=(2,false):=rfl;grind
  grind[z6]
 by_cases h21:op=21
 ·have hc:2≤l.length:=by have:cntN 21=(2,true):=rfl;grind
  grind[z6,List.length_drop]
 by_cases h22:op=22
 ·have hc:l.length=3:=by have:cntN 22=(3,false):=rfl;grind
  simp_all[if_pos,z6,trans,zxh]
 by_cases h23:op=23
 ·grind
 by_cases h24:op=24
 all_goals simp_all[if_pos,z6,if_neg]
theorem z1d2(op:Int)(name:ByteArray)(l:List Val)(_ho:WI op)(_hn:WStr name)(_hl:WL .val l)(h:txts l):zxi op name l=some (zyh (z1x op name l)):=by
 rw[z1om];unfold z1x za6;by_cases h1:(l.length:Int)<(cntN op).1
 ·simp_all[z8,if_pos,decide_eq_true]
 by_cases h2:(cntN op).2=false∧(l.length:Int)>(cntN op).1
 ·simp_all[if_pos,z8,decide_eq_true]
 ·rw[if_neg (fun e=>e.elim h1 h2),z1a0 op name l h (fun e=>e.elim h1 h2)]
  all_goals simp_all[z8,if_pos,if_neg,of_decide_eq_true]
def zo4:FnC Un:=fnF3 (dI .i64) dStr (dL .val) fun op name l=>([txts l],zyh (z1x op name l))
theorem zxj:FnOK 120 zo4:=fnK3 z1c z3y zx (M:=z11d) rfl ⟨z1ol,z1oa,z1nt,z117,zid,z2bz,zml,zrt,z1yw,z19x,zqy,z1sy,z1yt,z1oc,z1oe,z1j0,trivial⟩ ⟨z27k,z2c3,trivial⟩ trivial trivial trivial Tryz.func120 fun op name l=>GiF.r fun w o=>z1d2 op name l (wfA_ w 0) (wfA_ w 1) (wfA_ w 2) (obA_ o 0)
end
end B
namespace B
open Go Go.RowKit
set_option maxRecDepth 100000
noncomputable section
attribute [local irreducible] awp ctxK zu z1a retQ z1m awf ctxF z1k
def colV(depth at_:Int)(env:List (List Val)):Val:=if 0≤depth∧depth<(env.length:Int)∧0≤at_∧at_<((env.getD depth.toNat []).length:Int)then(env.getD depth.toNat []).getD at_.toNat z7 else z7
mutual
def zxk(ap:Int→ByteArray→List Val→Val)(env:List (List Val)):Term→Val
 | .mk op v depth at_ name kids _ _=>if op=1 then v else if op=2 then colV depth at_ env else if op=26∨op=27∨op=28 then z7 else ap op name (zif ap env kids)
def zif(ap:Int→ByteArray→List Val→Val)(env:List (List Val)):List Term→List Val
 |[]=>[]
 |t::l=>zxk ap env t::zif ap env l
end
theorem z2in(ap:Int→ByteArray→List Val→Val)(env:List (List Val))(t:Term):zxk ap env t=if t.op=1 then t.v else if t.op=2 then colV t.depth t.at_ env else if t.op=26∨t.op=27∨t.op=28 then z7 else ap t.op t.name (zif ap env t.kids):=by cases t;simp only[zxk];rfl
theorem z13q(ap:Int→ByteArray→List Val→Val)(env:List (List Val)):∀l:List Term,zif ap env l=l.map (zxk ap env)
 |[]=>rfl
 |t::l=>by simp only[zif,yw,z13q ap env l]
end
end B
end Go.Proofs.YtjfpbchdcbhfgaaGreat
