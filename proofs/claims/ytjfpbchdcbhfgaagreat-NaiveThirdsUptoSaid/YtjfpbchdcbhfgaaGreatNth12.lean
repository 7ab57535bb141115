/- Part 12 of the proof: Svals Svbool Lscal Lscal2 Lscal3 Sscal1 Sscal2n Sevalg. -/
import Derived.MapKept
import Derived.Carry
import Derived.Lib.ConvBytes
import Derived.Laws.IdiomStrings
import Derived.Test.YtjfpbchdcbhfgaaGreatNth11
set_option linter.unusedVariables false
set_option linter.unusedSimpArgs false
namespace Go.Proofs.YtjfpbchdcbhfgaaGreat
namespace B
open Go Go.RowKit
set_option maxRecDepth 100000
noncomputable section
attribute [local irreducible] awp ctxK zu z1d retQ z1p awf ctxF z1o
def zqc : Nat→NS:=nsF_ [(2,{ ts:=bl 19 403,bs:=bl 19 0,nm:=[] })] false
def z4w (s:List Val) (f_o:Val→Prop) (f:Val→Bool) (v0:Int) : S Un:=(st 19 19 76 0 [(0,al .val s),(1,AV.one (A.c (C.fv (zy f_o f)))),(4,ai (0:Int)),(7,ai (↑s.length:Int)),(8,ai v0)] [] [])
def zki (s:List Val) (f_o:Val→Prop) (f:Val→Bool) (v0:Int) (v1:Int) : S Un:=(st 19 19 76 0 [(0,al .val s),(1,AV.one (A.c (C.fv (zy f_o f)))),(4,ai v1),(7,ai (↑s.length:Int)),(8,ai v0)] [] [])
def z8c : S Un→Option (EX Un):=lpF_ z1du zqc Tryz.f209 [1,0,1,2,2] 2
def znc : Exit→S Un→Option (RF Un):=cxF_ z1du zqc Tryz.f209 [1,0,1,2] [.d]
def z19o (s:List Val) (f_o:Val→Prop) (f:Val→Bool) : Option (RF Un):=fnF_ z1du zqc Tryz.f209 0 [.d] [.d (.v (.dat (U:=Un) Ty.val s)),.fn (zy f_o f)]
theorem z23a (s:List Val) (f_o:Val→Prop) (f:Val→Bool) : z19o s f_o f=(z8c (z4w s f_o f (0:Int))).bind (zd znc):=by kernel_rfl
theorem zvn (s:List Val) (f_o:Val→Prop) (f:Val→Bool) (v0:Int) : z8c (z4w s f_o f v0)=cndO (decide (v0<(↑s.length:Int))) (obO (0≤v0∧v0<(↑s.length:Int)) (obO (f_o (s.getD v0.toNat z7)) (cndO (f (s.getD v0.toNat z7)) (some (.ret,(zki s f_o f v0 v0))) (z8c (z4w s f_o f (IntKind.i64.wrap (v0+1))))))) (some (.exit 0,(z4w s f_o f v0))):=lpQ_ (by kernel_rfl)
theorem z1ix (s:List Val) (f_o:Val→Prop) (f:Val→Bool) (v0:Int) (v1:Int) : znc .ret (zki s f_o f v0 v1)=some (z19c (v1)):=by kernel_rfl
theorem z1o6 (s:List Val) (f_o:Val→Prop) (f:Val→Bool) (v0:Int) : znc (.exit 0) (z4w s f_o f v0)=some (z19c ((-1:Int))):=by kernel_rfl
def zbw (o:Val→Prop) (s:List Val) : Prop:=∀ x∈s,o x
def z3l (s:List Val) (_o:Val→Prop) (f:Val→Bool) : Int:=match s.findIdx? f with | some i=>(i:Int) | none=>-1
theorem z1iy (s:List Val) (o:Val→Prop) (f:Val→Bool) : 0≤z3l s o f↔s.any f=true:=by
 unfold z3l;cases h : s.findIdx? f with
 | none =>
  have:=List.findIdx?_eq_none_iff.1 h;simp only[y46];constructor
  ·intro h1;exact absurd h1 (by decide)
  ·rintro ⟨x,hx,hf⟩;rw[this x hx] at hf;simp at hf
 | some i =>
  obtain⟨h1,h2,_⟩:=y2n.1 h;simp only[y46];exact⟨fun _=>⟨s[i],y1t h1,h2⟩,fun _=>by omega⟩
theorem z1sm (s:List Val) (o:Val→Prop) (f:Val→Bool) (hs:WL .val s) (ho:zbw o s) : z19o s o f=some (z19c (z3l s o f)):=by
 have key:∀ (r:List Val) (i:Nat),s.drop i=r→i≤s.length→(z8c (z4w s o f i)).bind (zd znc)=some (z19c (match r.findIdx? f with | some k=>((i+k:Nat):Int) | none=>-1)):=by
  intro r
  induction r with
  | nil =>
   intro i hr hi;have : s.length≤i:=by rw[← y1n];exact hr
   have e:z8c (z4w s o f i)=some (.exit 0,z4w s o f i):=by rw[zvn,z8,if_neg (by simp;omega)]
   rw[zg e,z1o6];rfl
  | cons x r ih =>
   intro i hr hi;obtain⟨a1,a2,a3,hm⟩:=z39 hr;have hx:s.getD i z7=x:=a2 z7;by_cases hf : f x=true
   ·have e:z8c (z4w s o f i)=some (.ret,zki s o f i i):=by
     rw[zvn,z8,if_pos (by simp;omega),z6 (by omega),y5,hx,z6 (ho x hm),z8,if_pos hf]
    rw[zg e,z1ix];simp [y2o,hf]
   ·have e:z8c (z4w s o f i)=z8c (z4w s o f ((i+1:Nat):Int)):=by
     rw[zvn,z8,if_pos (by simp;omega),z6 (by omega),y5,hx,z6 (ho x hm),z8,if_neg hf,z40 a1 hs.len]
    rw[e,ih (i+1) a3 (by omega)];congr 2;simp only[y2o,hf];cases r.findIdx? f with
    | none=>rfl
    | some k=>simp;omega
 rw[z23a];have:=key s 0 rfl (yb _);refine Eq.trans this ?_;unfold z3l;cases s.findIdx? f<;>simp
def ziu : FnC Un:=fun args=>match args with
 | [x0,x1]=>(dL .val x0).bind fun s=>(dF x1).bind fun f=>some ([f=(zy (z1a f) (z1r f)),zbw (z1a f) s],zav (z3l s (z1a f) (z1r f)),zaw (z3l s (z1a f) (z1r f)))
 | _=>none
theorem z19p : FnOK 209 ziu:=by
 intro args ob rs os h hob;unfold ziu at h;split at h
 ·simp only[y7,y8,ym] at h;obtain⟨s,e0,f,e1,rfl,rfl,rfl⟩:=h;obtain rfl:=z10 e0;obtain rfl:=zp3 e1;have hfv0:=hob _ (yh (i:=0) rfl);generalize z1r f=pp0 at *;generalize z1a f=qq0 at *;subst hfv0;exact⟨z2r (M:=z1du) rfl (z5d (l1:=[]) (l2:=[]) (l3:=[]) (l4:=[]) (l5:=[]) trivial trivial trivial trivial trivial) Tryz.func209 (by kernel_rfl) zqc 0 [.d] (fun hwf=>(z1sm s qq0 pp0 (z5q hwf (a:=.d (.v (.dat (U:=Un) Ty.val s))) (yh (i:=0) rfl)) (hob _ (yh (i:=1) rfl)))),zl Tryz.func209 (by kernel_rfl) (by kernel_rfl)⟩
 ·simp at h
def z1fs : Mc Un:=mcF_ [(209,ziu)] [] [] [] []
def z1fv (r:Bool) : RF Un:=(zur r,zus r)
def z19q (s:List Val) (f_o:Val→Prop) (f:Val→Bool) : Option (RF Un):=fnF_ z1fs z262 Tryz.f199 0 [.d] [.d (.v (.dat (U:=Un) Ty.val s)),.fn (zy f_o f)]
theorem z23b (s:List Val) (f_o:Val→Prop) (f:Val→Bool) : z19q s f_o f=obO (zy f_o f=zy (z1a (zy f_o f)) (z1r (zy f_o f))) (obO (zbw (z1a (zy f_o f)) s) (some (z1fv (decide (z3l s (z1a (zy f_o f)) (z1r (zy f_o f))≥0))))):=by kernel_rfl
def zkz (s:List Val) (_o:Val→Prop) (f:Val→Bool) : Bool:=s.any f
theorem z1sn (s:List Val) (o:Val→Prop) (f:Val→Bool) (_hs:WL .val s) (ho:zbw o s) : z19q s o f=some (z1fv (zkz s o f)):=by
 rw[z23b];simp only[zk8,zk7];rw[z6 trivial,z6 ho];unfold zkz;congr 2;have:=z1iy s o f;cases h : s.any f with
 | true=>simp;exact this.2 h
 | false =>
  have : ¬ 0≤z3l s o f:=fun e=>by rw[this.1 e] at h;simp at h
  simpa using this
def zzn : FnC Un:=fun args=>match args with
 | [x0,x1]=>(dL .val x0).bind fun s=>(dF x1).bind fun f=>some ([f=(zy (z1a f) (z1r f)),zbw (z1a f) s],zur (zkz s (z1a f) (z1r f)),zus (zkz s (z1a f) (z1r f)))
 | _=>none
theorem z23c : FnOK 199 zzn:=by
 intro args ob rs os h hob;unfold zzn at h;split at h
 ·simp only[y7,y8,ym] at h;obtain⟨s,e0,f,e1,rfl,rfl,rfl⟩:=h;obtain rfl:=z10 e0;obtain rfl:=zp3 e1;have hfv0:=hob _ (yh (i:=0) rfl);generalize z1r f=pp0 at *;generalize z1a f=qq0 at *;subst hfv0;exact⟨z2r (M:=z1fs) rfl (z5d (l1:=[(209,ziu)]) (l2:=[]) (l3:=[]) (l4:=[]) (l5:=[]) ⟨z19p,trivial⟩ trivial trivial trivial trivial) Tryz.func199 (by kernel_rfl) z262 0 [.d] (fun hwf=>(z1sn s qq0 pp0 (z5q hwf (a:=.d (.v (.dat (U:=Un) Ty.val s))) (yh (i:=0) rfl)) (hob _ (yh (i:=1) rfl)))),zl Tryz.func199 (by kernel_rfl) (by kernel_rfl)⟩
 ·simp at h
end
end B
namespace B
open Go Go.RowKit
set_option maxRecDepth 100000
noncomputable section
attribute [local irreducible] awp ctxK zu z1d retQ z1p awf ctxF z1o
def zvo (r:Val) : List (A Un):=[.agg (encC Ty.val r)]
def zvp (_r:Val) : List (Ob Un):=[]
def zvq (r:Val) : RF Un:=(zvo r,zvp r)
def z15g (b:Bool) : Option (RF Un):=fnF_ z1du z262 Tryz.f39 0 [.d] [.d (.v (cb b))]
theorem z1ym (b:Bool) : z15g b=cndO (b) (some (zvq ({ kind:=(1:Int),n:=(1:Int),s:=(ByteArray.mk #[]) }))) (some (zvq ({ kind:=(1:Int),n:=(0:Int),s:=(ByteArray.mk #[]) }))):=by kernel_rfl
def z2n (b:Bool) : Val :=
  if (b)=true then
   ({ kind:=(1:Int),n:=(1:Int),s:=(ByteArray.mk #[]) })
  else
   ({ kind:=(1:Int),n:=(0:Int),s:=(ByteArray.mk #[]) })
theorem z1yn (b:Bool) : z15g b=some (zvq (z2n b)):=by rw[z1ym];unfold z2n;simp only[z8];repeat (first | rfl | split)
def zdb : FnC Un:=fun args=>match args with
 | [x0]=>(dB x0).bind fun b=>some ([],zvo (z2n b),zvp (z2n b))
 | _=>none
theorem zs7 : FnOK 39 zdb:=by
 intro args ob rs os h hob;unfold zdb at h;split at h
 ·simp only[y7,y8,ym] at h;obtain⟨b,e0,rfl,rfl,rfl⟩:=h;obtain rfl:=z1ky e0;exact⟨z2r (M:=z1du) rfl (z5d (l1:=[]) (l2:=[]) (l3:=[]) (l4:=[]) (l5:=[]) trivial trivial trivial trivial trivial) Tryz.func39 (by kernel_rfl) z262 0 [.d] (fun hwf=>(z1yn b)),zl Tryz.func39 (by kernel_rfl) (by kernel_rfl)⟩
 ·simp at h
def z26 (b:Bool) : Val:=⟨1,if b=true then 1 else 0,⟨#[]⟩⟩
@[simp] theorem zxj (b:Bool) : z2n b=z26 b:=by unfold z2n z26;cases b<;>rfl
end
end B
namespace B
open Go Go.RowKit
set_option maxRecDepth 1000000
def twoN (op a b:Int) : Int×Bool:=if op=5 then z115 a b else if op=6 then zhf a b else if op=7 then z116 a b else if op=8 then z117 a b else z118 a b
def twoF (op:Int) : FV Un:=fun args=>match args with
 | [x0,x1]=>(dI .i64 (.d x0)).bind fun a=>(dI .i64 (.d x1)).bind fun b=>some ([],[.v (.s (.int .i64 (twoN op a b).1)),.v (.s (.bool (twoN op a b).2))])
 | _=>none
def zvr : FnC Un:=fun args=>match args with
 | [x0]=>(dI .i64 x0).bind fun op=>some ([5≤op∧op≤9],[.c (.fv (twoF op))],[])
 | _=>none
def soB (op c:Int) : Bool:=if op=11 then decide (c=0) else if op=12 then decide (c=-1∨c=1) else if op=13 then decide (c=-1) else if op=14 then decide (c=-1∨c=0) else if op=15 then decide (c=1) else decide (c=0∨c=1)
def cmpO (op:Int) (a b:Val) : Val:=if (cmpV a b).2=true then z26 (soB op (cmpV a b).1) else z7
def zcn : FnC Un:=fun args=>match args with
 | [x0,x1,x2]=>(dI .i64 x0).bind fun op=>(dS .val x1).bind fun a=>(dS .val x2).bind fun b=>some ([11≤op∧op≤16],[.agg (encC Ty.val (cmpO op a b))],[])
 | _=>none
def ztn (f b:Int) (c:UInt8) : UInt8:=if (c.toNat:Int)≥f∧(c.toNat:Int)<IntKind.u8.wrap (f+26) then UInt8.ofNat (IntKind.u8.wrap (IntKind.i64.wrap ((c.toNat:Int)+b))).toNat else c
def znd (s:ByteArray) (f b:Int) : ByteArray:=⟨(s.toList.map (ztn f b)).toArray⟩
theorem z13w (s:ByteArray) (f b:Int) : (znd s f b).size=s.size:=by
 unfold znd;show (s.toList.map (ztn f b)).toArray.size=s.size;rw[List.size_toArray,yz,z3f]
def zne : FnC Un:=fun args=>match args with
 | [x0,x1,x2]=>(dStr x0).bind fun s=>(dI .u8 x1).bind fun f=>(dI .i64 x2).bind fun b=>some ([s.size≤2000000],[.c (.s (.string (znd s f b)))],[])
 | _=>none
theorem z2l2 {f:FuncId} {φ:FV Un} (h:FvOK f φ) {St:Nat→Nat→Prop} {w:World} : FunRel Tryz.prog En St w (.func (.func f) #[] #[]) φ:=by
 refine⟨f,#[],rfl,h.1,fun St' w' hk hb hld args ob rs hφ hob vs hvs=>?_⟩;have hc:=h.2 args ob rs hφ hob w' St' vs hb (All2.map_right D.d (fun _ _ h=>h) hvs) hld;rw[Array.append_empty];exact hc
theorem updM {mt et:TypeId} (hm:Tryz.prog.underlying mt=some (.map 3 et)) (w:World) (es:Array MapEntry) (c:Nat) (k:Int) (v:Value) (hn:Instr.findNow (.int .i64) (.int .i64 k) es.toList 0=some none) :
  (Instr.mapUpdate mt (.map (some w.heap.size)) (.int .i64 k) v).run Tryz.prog (w.alloc (.map es c))=.ok () (w.alloc (.map (es.push { key:=.int .i64 k,val:=v,born:=c }) (c+1))):=by
 have hd:Tryz.prog.underlying 3=some (.int .i64):=by kernel_rfl
 have hb:(w.alloc (.map es c)).heap[w.heap.size]? = some (.map es c):=by unfold World.alloc;simp
 have hk:MapKept.IsKey (.int .i64) (.int .i64 k):=by simp [MapKept.IsKey]
 simp [Instr.mapUpdate,run_underlying hm,MapKept.run_getObj_map hb,MapKept.run_checkKey hd hk,MapKept.run_findKey hd hn,MapKept.run_setObj_map _ hb,Result.andThen];unfold World.alloc;simp only;congr 1;apply y35;simp [y2v]
theorem z2nd {mt et:TypeId} (hm:Tryz.prog.underlying mt=some (.map 3 et)) (w:World) (es:Array MapEntry) (c:Nat) (k:Int) (i:Nat) (v:Value) (hn:Instr.findNow (.int .i64) (.int .i64 k) es.toList 0=some (some (i,v))) :
  (Instr.lookup mt (.map (some w.heap.size)) (.int .i64 k) false).run Tryz.prog (w.alloc (.map es c))=.ok v (w.alloc (.map es c)):=by
 have hd:Tryz.prog.underlying 3=some (.int .i64):=by kernel_rfl
 have hb:(w.alloc (.map es c)).heap[w.heap.size]? = some (.map es c):=by unfold World.alloc;simp
 have hk:MapKept.IsKey (.int .i64) (.int .i64 k):=by simp [MapKept.IsKey]
 simp [Instr.lookup,run_underlying hm,MapKept.run_getObj_map hb,MapKept.run_checkKey hd hk,MapKept.run_findKey hd hn,Result.andThen]
def twoE : List MapEntry:=[⟨.int .i64 5,.func (.func 202) #[] #[],0⟩,⟨.int .i64 6,.func (.func 201) #[] #[],1⟩,⟨.int .i64 7,.func (.func 203) #[] #[],2⟩,⟨.int .i64 8,.func (.func 204) #[] #[],3⟩,⟨.int .i64 9,.func (.func 205) #[] #[],4⟩]
theorem z2ie (op:Int) (i:Nat) (v:Value) (hn:Instr.findNow (.int .i64) (.int .i64 op) twoE 0=some (some (i,v))) (w:World) : Calls Tryz.prog 162 #[.int .i64 op] w fun e w'=>e=.returned v∧Ext w w':=by
 have mixed:Tryz.prog.follows .mixedOrders=true:=by kernel_rfl
 have hmm:=@run_makeMap Tryz.prog;have hm:Tryz.prog.underlying 192=some (.map 3 102):=by kernel_rfl
 have u1:=updM hm w #[] 0 5 (.func (.func 202) #[] #[]) rfl;have u2:=updM hm w #[⟨.int .i64 5,.func (.func 202) #[] #[],0⟩] 1 6 (.func (.func 201) #[] #[]) rfl;have u3:=updM hm w #[⟨.int .i64 5,.func (.func 202) #[] #[],0⟩,⟨.int .i64 6,.func (.func 201) #[] #[],1⟩] 2 7 (.func (.func 203) #[] #[]) rfl;have u4:=updM hm w #[⟨.int .i64 5,.func (.func 202) #[] #[],0⟩,⟨.int .i64 6,.func (.func 201) #[] #[],1⟩,⟨.int .i64 7,.func (.func 203) #[] #[],2⟩] 3 8 (.func (.func 204) #[] #[]) rfl;have u5:=updM hm w #[⟨.int .i64 5,.func (.func 202) #[] #[],0⟩,⟨.int .i64 6,.func (.func 201) #[] #[],1⟩,⟨.int .i64 7,.func (.func 203) #[] #[],2⟩,⟨.int .i64 8,.func (.func 204) #[] #[],3⟩] 4 9 (.func (.func 205) #[] #[]) rfl;have lk:=z2nd hm w #[⟨.int .i64 5,.func (.func 202) #[] #[],0⟩,⟨.int .i64 6,.func (.func 201) #[] #[],1⟩,⟨.int .i64 7,.func (.func 203) #[] #[],2⟩,⟨.int .i64 8,.func (.func 204) #[] #[],3⟩,⟨.int .i64 9,.func (.func 205) #[] #[],4⟩] 5 op i v hn
 go_enter Tryz.func162,Tryz.ntmps162
 go_wp2
 go_ret;exact⟨rfl,(Ext.refl w).alloc _⟩
theorem zvs {f:FuncId} {F:FnC Un} (g:Int→Int→Int×Bool) (op:Int) (hg:∀ a b,twoN op a b=g a b) (hb:z36 Tryz.prog f) (hok:FnOK f F)
  (hF:∀ a b,F [.d (.v (.s (.int .i64 a))),.d (.v (.s (.int .i64 b)))]=some ([],[.c (.s (.int .i64 (g a b).1)),.c (.s (.bool (g a b).2))],[])) : FvOK f (twoF op):=by
 refine⟨hb,fun args ob rs h hob=>?_⟩;unfold twoF at h;split at h
 ·simp only[y7,y8,ym] at h;obtain⟨a,e0,b,e1,rfl,rfl⟩:=h;simp only[yu,y1k];rw[z1c e0,z1c e1,hg];exact Contract.data (hok _ [] _ _ (hF a b) (by simp)).1
 ·simp at h
theorem z1yo : FnOK 162 zvr:=by
 have k5:FvOK 202 (twoF 5):=zvs z115 5 (fun _ _=>rfl) (zl Tryz.func202 (by kernel_rfl) (by kernel_rfl)) z2bf (fun a b=>rfl);have k6:FvOK 201 (twoF 6):=zvs zhf 6 (fun _ _=>rfl) (zl Tryz.func201 (by kernel_rfl) (by kernel_rfl)) z1nr (fun a b=>rfl);have k7:FvOK 203 (twoF 7):=zvs z116 7 (fun _ _=>rfl) (zl Tryz.func203 (by kernel_rfl) (by kernel_rfl)) z2bl (fun a b=>rfl);have k8:FvOK 204 (twoF 8):=zvs z117 8 (fun _ _=>rfl) (zl Tryz.func204 (by kernel_rfl) (by kernel_rfl)) z2bn (fun a b=>rfl);have k9:FvOK 205 (twoF 9):=zvs z118 9 (fun _ _=>rfl) (zl Tryz.func205 (by kernel_rfl) (by kernel_rfl)) z2bp (fun a b=>rfl);intro args ob rs os h hob;unfold zvr at h;split at h
 ·rename_i x0;simp only[y7,y8,ym] at h;obtain⟨op,e0,rfl,rfl,rfl⟩:=h;obtain rfl:=z1c e0;refine⟨?_,zl Tryz.func162 (by kernel_rfl) (by kernel_rfl)⟩;have hr:=hob _ (yg.2 rfl);have fin:∀ (f:FuncId) (i:Nat),FvOK f (twoF op)→Instr.findNow (.int .i64) (.int .i64 op) twoE 0=some (some (i,.func (.func f) #[] #[]))→Contract Tryz.prog En 162 [.d (.v (.s (.int .i64 op)))] [.c (.fv (twoF op))] []:=by
   intro f i hk hn w St vs hbd hvs hld
   match vs,hvs with
   | [v0],⟨h0,_⟩ =>
    obtain⟨rfl,-⟩:=zvf h0;refine (z2ie op i _ hn w).mono ?_;rintro e w' ⟨rfl,hx⟩;let gg : G:={ β:=fun _=>0,lb:=fun _=>False,ω:=fun _ _=>none,tk:=fun _=>(none,0) };exact⟨_,rfl,hx,gg,fun _ h=>h,fun b o x _ h=>by simp [gg] at h,fun b o x h=>by simp [gg] at h,z2l2 hk,fun k o h=>by simp at h⟩
  have hc:op=5∨op=6∨op=7∨op=8∨op=9:=by omega
  rcases hc with rfl | rfl | rfl | rfl | rfl
  ·exact fin _ 0 k5 rfl
  ·exact fin _ 1 k6 rfl
  ·exact fin _ 2 k7 rfl
  ·exact fin _ 3 k8 rfl
  ·exact fin _ 4 k9 rfl
 ·simp at h
end B
namespace B
open Go Go.RowKit
set_option maxRecDepth 1000000
def aggV (a:Val) : Value:=.agg #[.int .i64 a.kind,.int .i64 a.n,.string a.s]
theorem zkj {w w1:World} {x y z:Obj} (h:Ext (((w.alloc x).alloc y).alloc z) w1) : w1.heap[w.heap.size+1+1]? = some z:=by
 have e:(((w.alloc x).alloc y).alloc z).heap=((w.heap.push x).push y).push z:=rfl;have hs:((w.heap.push x).push y).size=w.heap.size+1+1:=by rw[y2w,y2w]
 refine (h.block (by rw[e,y2w,hs];omega)).trans ?_;rw[e,← hs];exact y4v
theorem zdc {w:World} {b:Nat} {x y z:Value} {t:TypeId} (h:w.heap[b]? = some (.cells #[x,y,z] t)) : w.cell? ⟨b,0,none⟩=some x∧w.cell? ⟨b,1,none⟩=some y∧w.cell? ⟨b,2,none⟩=some z∧∀ o,w.frozen? ⟨b,o,none⟩=false:=by
 refine⟨?_,?_,?_,fun o=>?_⟩
 ·unfold World.cell?;simp only[h];rfl
 ·unfold World.cell?;simp only[h];rfl
 ·unfold World.cell?;simp only[h];rfl
 ·unfold World.frozen?;simp only[h];simp
theorem z1yp (op:Int) (a b:Val) (w:World) (hn:(cmpV a b).2=false) (hld:Laid w) (hc:∀ W,Laid W→Calls Tryz.prog 152 #[aggV a,aggV b] W fun e w'=>e=.returned (.tuple #[.int .i64 (cmpV a b).1,.bool false])∧Ext W w') :
  Calls Tryz.prog 164 #[.int .i64 op,aggV a,aggV b] w fun e w'=>e=.returned (aggV z7)∧Ext w w':=by
 unfold aggV at hc ⊢;have mixed:Tryz.prog.follows .mixedOrders=true:=by kernel_rfl
 have hmm:=@run_makeMap Tryz.prog
 go_enter Tryz.func164,Tryz.ntmps164
 go_wp2_with (go_at_call 152;go_loud (refine (hc _ (hld.ext ((((Ext.refl w).alloc _).alloc _).alloc _))).mono ?_;rintro e w1 ⟨rfl,h1⟩;have hz:=zdc (zkj h1);obtain⟨z0,z1,z2,q0⟩:=hz))
 refine bodyPost_ret (v:=.agg #[.int .i64 0,.int .i64 0,.string ⟨#[]⟩]) (by unfold results;go_simp) rfl ?_;refine⟨rfl,?_⟩;have hx:Ext w w1:=((((Ext.refl w).alloc _).alloc _).alloc _).trans h1;exact ((hx.setCell (by show w.heap.size≤w.heap.size+1+1;omega) _).setCell (by show w.heap.size≤w.heap.size+1+1;omega) _).setCell (by show w.heap.size≤w.heap.size+1+1;omega) _
theorem zqd : ∀ (os:List Obj) (w:World),os.foldl World.alloc w={ w with heap:=w.heap++os.toArray }
 | [],w=>by simp
 | o::os,w=>by
  rw[yr,zqd os];unfold World.alloc;simp
theorem z1o7 (os:List Obj) (w:World) (m:Obj) : (os.foldl World.alloc (w.alloc m)).heap=w.heap.push m++os.toArray:=by
 rw[zqd];rfl
theorem z1wc (os:List Obj) (w:World) (m:Obj) : (os.foldl World.alloc (w.alloc m)).heap[w.heap.size]? = some m:=by
 rw[z1o7,y3r (by rw[y2w];omega)];exact y4v
theorem z2fs (os:List Obj) (w:World) (m m':Obj) : { os.foldl World.alloc (w.alloc m) with heap:=(os.foldl World.alloc (w.alloc m)).heap.setIfInBounds w.heap.size m' }=os.foldl World.alloc (w.alloc m'):=by
 rw[zqd,zqd];unfold World.alloc;simp only;congr 1;apply y35;simp [y2v]
theorem updC {mt et:TypeId} (hm:Tryz.prog.underlying mt=some (.map 3 et)) (os:List Obj) (w:World) (es:Array MapEntry) (c:Nat) (k:Int) (v:Value) (hn:Instr.findNow (.int .i64) (.int .i64 k) es.toList 0=some none) :
  (Instr.mapUpdate mt (.map (some w.heap.size)) (.int .i64 k) v).run Tryz.prog (os.foldl World.alloc (w.alloc (.map es c)))=.ok () (os.foldl World.alloc (w.alloc (.map (es.push { key:=.int .i64 k,val:=v,born:=c }) (c+1)))):=by
 have hd:Tryz.prog.underlying 3=some (.int .i64):=by kernel_rfl
 have hb:=z1wc os w (.map es c);have hk:MapKept.IsKey (.int .i64) (.int .i64 k):=by simp [MapKept.IsKey]
 have hs:=z2fs os w (.map es c) (.map (es.push { key:=.int .i64 k,val:=v,born:=c }) (c+1));simp [Instr.mapUpdate,run_underlying hm,MapKept.run_getObj_map hb,MapKept.run_checkKey hd hk,MapKept.run_findKey hd hn,MapKept.run_setObj_map _ hb,Result.andThen];exact hs
theorem z1c8 {mt et:TypeId} (hm:Tryz.prog.underlying mt=some (.map 3 et)) (os:List Obj) (w:World) (es:Array MapEntry) (c:Nat) (k:Int) (i:Nat) (v:Value) (hn:Instr.findNow (.int .i64) (.int .i64 k) es.toList 0=some (some (i,v))) :
  (Instr.lookup mt (.map (some w.heap.size)) (.int .i64 k) false).run Tryz.prog (os.foldl World.alloc (w.alloc (.map es c)))=.ok v (os.foldl World.alloc (w.alloc (.map es c))):=by
 have hd:Tryz.prog.underlying 3=some (.int .i64):=by kernel_rfl
 have hb:=z1wc os w (.map es c);have hk:MapKept.IsKey (.int .i64) (.int .i64 k):=by simp [MapKept.IsKey]
 simp [Instr.lookup,run_underlying hm,MapKept.run_getObj_map hb,MapKept.run_checkKey hd hk,MapKept.run_findKey hd hn,Result.andThen]
def sgn (w:World) : List (Int×Nat×List Int):=[(11,w.heap.size+1,[0]),(12,w.heap.size+1+1,[-1,1]),(13,w.heap.size+1+1+1,[-1]),(14,w.heap.size+1+1+1+1,[-1,0]),(15,w.heap.size+1+1+1+1+1,[1]),(16,w.heap.size+1+1+1+1+1+1,[0,1])]
def ent (w:World) (n:Nat) : List MapEntry:=((sgn w).take n).zipIdx.map fun x=>⟨.int .i64 x.1.1,.slice (some ⟨x.1.2.1,0,none⟩) x.1.2.2.length x.1.2.2.length,x.2⟩
def rowO (l:List Int) : Obj:=.cells (l.map (Value.int .i64)).toArray 3
theorem zl0 (os:List Obj) (w:World) (m:Obj) (q:Nat) (o:Obj) (h:os[q]? = some o) : (os.foldl World.alloc (w.alloc m)).heap[w.heap.size+1+q]? = some o:=by
 rw[z1o7,Array.getElem?_append_right (by rw[y2w];omega),y2w];rw[show w.heap.size+1+q - (w.heap.size+1)=q by omega,List.getElem?_toArray];exact h
theorem zl1 {W:World} {blk:Nat} {zs:List Int} (h:W.heap[blk]? = some (rowO zs)) : ∀ j,j<zs.length→W.cell? ⟨blk,0+j,none⟩=some (.int .i64 (zs.getD j 0)):=by
 intro j hj;unfold World.cell?;simp only[h,rowO];simp [hj,yc]
theorem zl2 (os:List Obj) (w:World) (m:Obj) : Ext w (os.foldl World.alloc (w.alloc m)):=by
 have : ∀ (os:List Obj) (u:World),Ext w u→Ext w (os.foldl World.alloc u):=by
  intro os
  induction os with
  | nil=>intro u h;exact h
  | cons o os ih=>intro u h;exact ih _ (h.alloc o)
 exact this os _ ((Ext.refl w).alloc m)
theorem z2ne (c:Int) : (List.take 1 ([0] : List Int)).contains c=soB 11 c:=by
 simp only[y22,y23,y2x,y2y,y2z];unfold soB;rw[if_pos rfl,y2d];simp only[y1i,beq_iff_eq,decide_eq_true_eq]
set_option maxHeartbeats 2000000 in
theorem z27m (a b:Val) (w:World) (hld:Laid w) (hc:∀ W,Laid W→Calls Tryz.prog 152 #[aggV a,aggV b] W fun e w'=>e=.returned (.tuple #[.int .i64 (cmpV a b).1,.bool true])∧Ext W w')
  (hB:∀ W x,Laid W→Calls Tryz.prog 39 #[.bool x] W fun e w'=>e=.returned (.agg #[.int .i64 (z26 x).kind,.int .i64 (z26 x).n,.string (z26 x).s])∧Ext W w') :
  Calls Tryz.prog 164 #[.int .i64 11,aggV a,aggV b] w fun e w'=>e=.returned (aggV (z26 (soB 11 (cmpV a b).1)))∧Ext w w':=by
 unfold aggV at hc ⊢;have mixed:Tryz.prog.follows .mixedOrders=true:=by kernel_rfl
 have hmm:=@run_makeMap Tryz.prog;have hm:Tryz.prog.underlying 193=some (.map 3 42):=by kernel_rfl
 go_enter Tryz.func164,Tryz.ntmps164
 go_wp2_with (first
  | (go_at_call 152;refine (hc _ (hld.ext ((((Ext.refl w).alloc _).alloc _).alloc _))).mono ?_;rintro e w1 ⟨rfl,h1⟩;have hz:=zkj h1;obtain⟨z0,z1,z2,q0⟩:=zdc hz;have hx:Ext w w1:=((((Ext.refl w).alloc _).alloc _).alloc _).trans h1;have u1:=updC hm [rowO [0]] w1 (ent w1 0).toArray 0 11 (.slice (some ⟨w1.heap.size+1,0,none⟩) 1 1) rfl;have u2:=updC hm [rowO [0],rowO [-1,1]] w1 (ent w1 1).toArray 1 12 (.slice (some ⟨w1.heap.size+1+1,0,none⟩) 2 2) rfl;have u3:=updC hm [rowO [0],rowO [-1,1],rowO [-1]] w1 (ent w1 2).toArray 2 13 (.slice (some ⟨w1.heap.size+1+1+1,0,none⟩) 1 1) rfl;have u4:=updC hm [rowO [0],rowO [-1,1],rowO [-1],rowO [-1,0]] w1 (ent w1 3).toArray 3 14 (.slice (some ⟨w1.heap.size+1+1+1+1,0,none⟩) 2 2) rfl;have u5:=updC hm [rowO [0],rowO [-1,1],rowO [-1],rowO [-1,0],rowO [1]] w1 (ent w1 4).toArray 4 15 (.slice (some ⟨w1.heap.size+1+1+1+1+1,0,none⟩) 1 1) rfl;have u6:=updC hm [rowO [0],rowO [-1,1],rowO [-1],rowO [-1,0],rowO [1],rowO [0,1]] w1 (ent w1 5).toArray 5 16 (.slice (some ⟨w1.heap.size+1+1+1+1+1+1,0,none⟩) 2 2) rfl;have lk:=z1c8 hm [rowO [0],rowO [-1,1],rowO [-1],rowO [-1,0],rowO [1],rowO [0,1]] w1 (ent w1 6).toArray 6 11 0 (.slice (some ⟨w1.heap.size+1,0,none⟩) 1 1) rfl;have hro:=zl1 (zl0 [rowO [0],rowO [-1,1],rowO [-1],rowO [-1,0],rowO [1],rowO [0,1]] w1 (.map (ent w1 6).toArray 6) 0 (rowO [0]) rfl);have hce:=zl2 [rowO [0],rowO [-1,1],rowO [-1],rowO [-1,0],rowO [1],rowO [0,1]] w1 (.map (ent w1 6).toArray 6);simp only[yr,y1q,ent,sgn,rowO,y23,y22,y30,y31,yu,y1k,yq,y1a,y32,y15,y10,y16,Nat.reduceAdd] at u1 u2 u3 u4 u5 u6 lk hro hce)
  | (go_at_call 206;refine (Tryz.slices_Contains_int (w1.heap.size+1) 0 1 1 [0] (cmpV a b).1 _ (by decide) (by decide) (fun j hj=>by rw[y16];exact hro j hj)).mono ?_;rintro e w2 ⟨rfl,rfl⟩;simp only[z2ne])
  | (go_at_call 39;refine (hB _ _ (hld.ext (hx.trans hce))).mono ?_;rintro e w3 ⟨rfl,h3⟩;have hlt:w.heap.size+1+1<w1.heap.size:=z6l (p:=⟨w.heap.size+1+1,0,none⟩) z0;have h4:=hce.trans h3;have hz3:=(h4.block hlt).trans hz;obtain⟨y0,y1,y2,p0⟩:=zdc hz3))
 refine bodyPost_ret (v:=.agg #[.int .i64 (z26 (soB 11 (cmpV a b).1)).kind,.int .i64 (z26 (soB 11 (cmpV a b).1)).n,.string (z26 (soB 11 (cmpV a b).1)).s]) (by unfold results;go_simp) rfl ?_;refine⟨rfl,?_⟩;have h5:=hx.trans h4;exact ((h5.setCell (by show w.heap.size≤w.heap.size+1+1;omega) _).setCell (by show w.heap.size≤w.heap.size+1+1;omega) _).setCell (by show w.heap.size≤w.heap.size+1+1;omega) _
theorem z2nf (c:Int) : (List.take 2 ([-1,1] : List Int)).contains c=soB 12 c:=by
 simp only[y22,y23,y2x,y2y,y2z];unfold soB;rw[if_neg (by decide),if_pos rfl,y2d];simp only[y1i,beq_iff_eq,decide_eq_true_eq]
set_option maxHeartbeats 2000000 in
theorem z27n (a b:Val) (w:World) (hld:Laid w) (hc:∀ W,Laid W→Calls Tryz.prog 152 #[aggV a,aggV b] W fun e w'=>e=.returned (.tuple #[.int .i64 (cmpV a b).1,.bool true])∧Ext W w')
  (hB:∀ W x,Laid W→Calls Tryz.prog 39 #[.bool x] W fun e w'=>e=.returned (.agg #[.int .i64 (z26 x).kind,.int .i64 (z26 x).n,.string (z26 x).s])∧Ext W w') :
  Calls Tryz.prog 164 #[.int .i64 12,aggV a,aggV b] w fun e w'=>e=.returned (aggV (z26 (soB 12 (cmpV a b).1)))∧Ext w w':=by
 unfold aggV at hc ⊢;have mixed:Tryz.prog.follows .mixedOrders=true:=by kernel_rfl
 have hmm:=@run_makeMap Tryz.prog;have hm:Tryz.prog.underlying 193=some (.map 3 42):=by kernel_rfl
 go_enter Tryz.func164,Tryz.ntmps164
 go_wp2_with (first
  | (go_at_call 152;refine (hc _ (hld.ext ((((Ext.refl w).alloc _).alloc _).alloc _))).mono ?_;rintro e w1 ⟨rfl,h1⟩;have hz:=zkj h1;obtain⟨z0,z1,z2,q0⟩:=zdc hz;have hx:Ext w w1:=((((Ext.refl w).alloc _).alloc _).alloc _).trans h1;have u1:=updC hm [rowO [0]] w1 (ent w1 0).toArray 0 11 (.slice (some ⟨w1.heap.size+1,0,none⟩) 1 1) rfl;have u2:=updC hm [rowO [0],rowO [-1,1]] w1 (ent w1 1).toArray 1 12 (.slice (some ⟨w1.heap.size+1+1,0,none⟩) 2 2) rfl;have u3:=updC hm [rowO [0],rowO [-1,1],rowO [-1]] w1 (ent w1 2).toArray 2 13 (.slice (some ⟨w1.heap.size+1+1+1,0,none⟩) 1 1) rfl;have u4:=updC hm [rowO [0],rowO [-1,1],rowO [-1],rowO [-1,0]] w1 (ent w1 3).toArray 3 14 (.slice (some ⟨w1.heap.size+1+1+1+1,0,none⟩) 2 2) rfl;have u5:=updC hm [rowO [0],rowO [-1,1],rowO [-1],rowO [-1,0],rowO [1]] w1 (ent w1 4).toArray 4 15 (.slice (some ⟨w1.heap.size+1+1+1+1+1,0,none⟩) 1 1) rfl;have u6:=updC hm [rowO [0],rowO [-1,1],rowO [-1],rowO [-1,0],rowO [1],rowO [0,1]] w1 (ent w1 5).toArray 5 16 (.slice (some ⟨w1.heap.size+1+1+1+1+1+1,0,none⟩) 2 2) rfl;have lk:=z1c8 hm [rowO [0],rowO [-1,1],rowO [-1],rowO [-1,0],rowO [1],rowO [0,1]] w1 (ent w1 6).toArray 6 12 1 (.slice (some ⟨w1.heap.size+1+1,0,none⟩) 2 2) rfl;have hro:=zl1 (zl0 [rowO [0],rowO [-1,1],rowO [-1],rowO [-1,0],rowO [1],rowO [0,1]] w1 (.map (ent w1 6).toArray 6) 1 (rowO [-1,1]) rfl);have hce:=zl2 [rowO [0],rowO [-1,1],rowO [-1],rowO [-1,0],rowO [1],rowO [0,1]] w1 (.map (ent w1 6).toArray 6);simp only[yr,y1q,ent,sgn,rowO,y23,y22,y30,y31,yu,y1k,yq,y1a,y32,y15,y10,y16,Nat.reduceAdd] at u1 u2 u3 u4 u5 u6 lk hro hce)
  | (go_at_call 206;refine (Tryz.slices_Contains_int (w1.heap.size+1+1) 0 2 2 [-1,1] (cmpV a b).1 _ (by decide) (by decide) (fun j hj=>by rw[y16];exact hro j hj)).mono ?_;rintro e w2 ⟨rfl,rfl⟩;simp only[z2nf])
  | (go_at_call 39;refine (hB _ _ (hld.ext (hx.trans hce))).mono ?_;rintro e w3 ⟨rfl,h3⟩;have hlt:w.heap.size+1+1<w1.heap.size:=z6l (p:=⟨w.heap.size+1+1,0,none⟩) z0;have h4:=hce.trans h3;have hz3:=(h4.block hlt).trans hz;obtain⟨y0,y1,y2,p0⟩:=zdc hz3))
 refine bodyPost_ret (v:=.agg #[.int .i64 (z26 (soB 12 (cmpV a b).1)).kind,.int .i64 (z26 (soB 12 (cmpV a b).1)).n,.string (z26 (soB 12 (cmpV a b).1)).s]) (by unfold results;go_simp) rfl ?_;refine⟨rfl,?_⟩;have h5:=hx.trans h4;exact ((h5.setCell (by show w.heap.size≤w.heap.size+1+1;omega) _).setCell (by show w.heap.size≤w.heap.size+1+1;omega) _).setCell (by show w.heap.size≤w.heap.size+1+1;omega) _
theorem z2ng (c:Int) : (List.take 1 ([-1] : List Int)).contains c=soB 13 c:=by
 simp only[y22,y23,y2x,y2y,y2z];unfold soB;rw[if_neg (by decide),if_neg (by decide),if_pos rfl,y2d];simp only[y1i,beq_iff_eq,decide_eq_true_eq]
set_option maxHeartbeats 2000000 in
theorem z27o (a b:Val) (w:World) (hld:Laid w) (hc:∀ W,Laid W→Calls Tryz.prog 152 #[aggV a,aggV b] W fun e w'=>e=.returned (.tuple #[.int .i64 (cmpV a b).1,.bool true])∧Ext W w')
  (hB:∀ W x,Laid W→Calls Tryz.prog 39 #[.bool x] W fun e w'=>e=.returned (.agg #[.int .i64 (z26 x).kind,.int .i64 (z26 x).n,.string (z26 x).s])∧Ext W w') :
  Calls Tryz.prog 164 #[.int .i64 13,aggV a,aggV b] w fun e w'=>e=.returned (aggV (z26 (soB 13 (cmpV a b).1)))∧Ext w w':=by
 unfold aggV at hc ⊢;have mixed:Tryz.prog.follows .mixedOrders=true:=by kernel_rfl
 have hmm:=@run_makeMap Tryz.prog;have hm:Tryz.prog.underlying 193=some (.map 3 42):=by kernel_rfl
 go_enter Tryz.func164,Tryz.ntmps164
 go_wp2_with (first
  | (go_at_call 152;refine (hc _ (hld.ext ((((Ext.refl w).alloc _).alloc _).alloc _))).mono ?_;rintro e w1 ⟨rfl,h1⟩;have hz:=zkj h1;obtain⟨z0,z1,z2,q0⟩:=zdc hz;have hx:Ext w w1:=((((Ext.refl w).alloc _).alloc _).alloc _).trans h1;have u1:=updC hm [rowO [0]] w1 (ent w1 0).toArray 0 11 (.slice (some ⟨w1.heap.size+1,0,none⟩) 1 1) rfl;have u2:=updC hm [rowO [0],rowO [-1,1]] w1 (ent w1 1).toArray 1 12 (.slice (some ⟨w1.heap.size+1+1,0,none⟩) 2 2) rfl;have u3:=updC hm [rowO [0],rowO [-1,1],rowO [-1]] w1 (ent w1 2).toArray 2 13 (.slice (some ⟨w1.heap.size+1+1+1,0,none⟩) 1 1) rfl;have u4:=updC hm [rowO [0],rowO [-1,1],rowO [-1],rowO [-1,0]] w1 (ent w1 3).toArray 3 14 (.slice (some ⟨w1.heap.size+1+1+1+1,0,none⟩) 2 2) rfl;have u5:=updC hm [rowO [0],rowO [-1,1],rowO [-1],rowO [-1,0],rowO [1]] w1 (ent w1 4).toArray 4 15 (.slice (some ⟨w1.heap.size+1+1+1+1+1,0,none⟩) 1 1) rfl;have u6:=updC hm [rowO [0],rowO [-1,1],rowO [-1],rowO [-1,0],rowO [1],rowO [0,1]] w1 (ent w1 5).toArray 5 16 (.slice (some ⟨w1.heap.size+1+1+1+1+1+1,0,none⟩) 2 2) rfl;have lk:=z1c8 hm [rowO [0],rowO [-1,1],rowO [-1],rowO [-1,0],rowO [1],rowO [0,1]] w1 (ent w1 6).toArray 6 13 2 (.slice (some ⟨w1.heap.size+1+1+1,0,none⟩) 1 1) rfl;have hro:=zl1 (zl0 [rowO [0],rowO [-1,1],rowO [-1],rowO [-1,0],rowO [1],rowO [0,1]] w1 (.map (ent w1 6).toArray 6) 2 (rowO [-1]) rfl);have hce:=zl2 [rowO [0],rowO [-1,1],rowO [-1],rowO [-1,0],rowO [1],rowO [0,1]] w1 (.map (ent w1 6).toArray 6);simp only[yr,y1q,ent,sgn,rowO,y23,y22,y30,y31,yu,y1k,yq,y1a,y32,y15,y10,y16,Nat.reduceAdd] at u1 u2 u3 u4 u5 u6 lk hro hce)
  | (go_at_call 206;refine (Tryz.slices_Contains_int (w1.heap.size+1+1+1) 0 1 1 [-1] (cmpV a b).1 _ (by decide) (by decide) (fun j hj=>by rw[y16];exact hro j hj)).mono ?_;rintro e w2 ⟨rfl,rfl⟩;simp only[z2ng])
  | (go_at_call 39;refine (hB _ _ (hld.ext (hx.trans hce))).mono ?_;rintro e w3 ⟨rfl,h3⟩;have hlt:w.heap.size+1+1<w1.heap.size:=z6l (p:=⟨w.heap.size+1+1,0,none⟩) z0;have h4:=hce.trans h3;have hz3:=(h4.block hlt).trans hz;obtain⟨y0,y1,y2,p0⟩:=zdc hz3))
 refine bodyPost_ret (v:=.agg #[.int .i64 (z26 (soB 13 (cmpV a b).1)).kind,.int .i64 (z26 (soB 13 (cmpV a b).1)).n,.string (z26 (soB 13 (cmpV a b).1)).s]) (by unfold results;go_simp) rfl ?_;refine⟨rfl,?_⟩;have h5:=hx.trans h4;exact ((h5.setCell (by show w.heap.size≤w.heap.size+1+1;omega) _).setCell (by show w.heap.size≤w.heap.size+1+1;omega) _).setCell (by show w.heap.size≤w.heap.size+1+1;omega) _
theorem z2nh (c:Int) : (List.take 2 ([-1,0] : List Int)).contains c=soB 14 c:=by
 simp only[y22,y23,y2x,y2y,y2z];unfold soB;rw[if_neg (by decide),if_neg (by decide),if_neg (by decide),if_pos rfl,y2d];simp only[y1i,beq_iff_eq,decide_eq_true_eq]
set_option maxHeartbeats 2000000 in
theorem z27p (a b:Val) (w:World) (hld:Laid w) (hc:∀ W,Laid W→Calls Tryz.prog 152 #[aggV a,aggV b] W fun e w'=>e=.returned (.tuple #[.int .i64 (cmpV a b).1,.bool true])∧Ext W w')
  (hB:∀ W x,Laid W→Calls Tryz.prog 39 #[.bool x] W fun e w'=>e=.returned (.agg #[.int .i64 (z26 x).kind,.int .i64 (z26 x).n,.string (z26 x).s])∧Ext W w') :
  Calls Tryz.prog 164 #[.int .i64 14,aggV a,aggV b] w fun e w'=>e=.returned (aggV (z26 (soB 14 (cmpV a b).1)))∧Ext w w':=by
 unfold aggV at hc ⊢;have mixed:Tryz.prog.follows .mixedOrders=true:=by kernel_rfl
 have hmm:=@run_makeMap Tryz.prog;have hm:Tryz.prog.underlying 193=some (.map 3 42):=by kernel_rfl
 go_enter Tryz.func164,Tryz.ntmps164
 go_wp2_with (first
  | (go_at_call 152;refine (hc _ (hld.ext ((((Ext.refl w).alloc _).alloc _).alloc _))).mono ?_;rintro e w1 ⟨rfl,h1⟩;have hz:=zkj h1;obtain⟨z0,z1,z2,q0⟩:=zdc hz;have hx:Ext w w1:=((((Ext.refl w).alloc _).alloc _).alloc _).trans h1;have u1:=updC hm [rowO [0]] w1 (ent w1 0).toArray 0 11 (.slice (some ⟨w1.heap.size+1,0,none⟩) 1 1) rfl;have u2:=updC hm [rowO [0],rowO [-1,1]] w1 (ent w1 1).toArray 1 12 (.slice (some ⟨w1.heap.size+1+1,0,none⟩) 2 2) rfl;have u3:=updC hm [rowO [0],rowO [-1,1],rowO [-1]] w1 (ent w1 2).toArray 2 13 (.slice (some ⟨w1.heap.size+1+1+1,0,none⟩) 1 1) rfl;have u4:=updC hm [rowO [0],rowO [-1,1],rowO [-1],rowO [-1,0]] w1 (ent w1 3).toArray 3 14 (.slice (some ⟨w1.heap.size+1+1+1+1,0,none⟩) 2 2) rfl;have u5:=updC hm [rowO [0],rowO [-1,1],rowO [-1],rowO [-1,0],rowO [1]] w1 (ent w1 4).toArray 4 15 (.slice (some ⟨w1.heap.size+1+1+1+1+1,0,none⟩) 1 1) rfl;have u6:=updC hm [rowO [0],rowO [-1,1],rowO [-1],rowO [-1,0],rowO [1],rowO [0,1]] w1 (ent w1 5).toArray 5 16 (.slice (some ⟨w1.heap.size+1+1+1+1+1+1,0,none⟩) 2 2) rfl;have lk:=z1c8 hm [rowO [0],rowO [-1,1],rowO [-1],rowO [-1,0],rowO [1],rowO [0,1]] w1 (ent w1 6).toArray 6 14 3 (.slice (some ⟨w1.heap.size+1+1+1+1,0,none⟩) 2 2) rfl;have hro:=zl1 (zl0 [rowO [0],rowO [-1,1],rowO [-1],rowO [-1,0],rowO [1],rowO [0,1]] w1 (.map (ent w1 6).toArray 6) 3 (rowO [-1,0]) rfl);have hce:=zl2 [rowO [0],rowO [-1,1],rowO [-1],rowO [-1,0],rowO [1],rowO [0,1]] w1 (.map (ent w1 6).toArray 6);simp only[yr,y1q,ent,sgn,rowO,y23,y22,y30,y31,yu,y1k,yq,y1a,y32,y15,y10,y16,Nat.reduceAdd] at u1 u2 u3 u4 u5 u6 lk hro hce)
  | (go_at_call 206;refine (Tryz.slices_Contains_int (w1.heap.size+1+1+1+1) 0 2 2 [-1,0] (cmpV a b).1 _ (by decide) (by decide) (fun j hj=>by rw[y16];exact hro j hj)).mono ?_;rintro e w2 ⟨rfl,rfl⟩;simp only[z2nh])
  | (go_at_call 39;refine (hB _ _ (hld.ext (hx.trans hce))).mono ?_;rintro e w3 ⟨rfl,h3⟩;have hlt:w.heap.size+1+1<w1.heap.size:=z6l (p:=⟨w.heap.size+1+1,0,none⟩) z0;have h4:=hce.trans h3;have hz3:=(h4.block hlt).trans hz;obtain⟨y0,y1,y2,p0⟩:=zdc hz3))
 refine bodyPost_ret (v:=.agg #[.int .i64 (z26 (soB 14 (cmpV a b).1)).kind,.int .i64 (z26 (soB 14 (cmpV a b).1)).n,.string (z26 (soB 14 (cmpV a b).1)).s]) (by unfold results;go_simp) rfl ?_;refine⟨rfl,?_⟩;have h5:=hx.trans h4;exact ((h5.setCell (by show w.heap.size≤w.heap.size+1+1;omega) _).setCell (by show w.heap.size≤w.heap.size+1+1;omega) _).setCell (by show w.heap.size≤w.heap.size+1+1;omega) _
theorem z2ni (c:Int) : (List.take 1 ([1] : List Int)).contains c=soB 15 c:=by
 simp only[y22,y23,y2x,y2y,y2z];unfold soB;rw[if_neg (by decide),if_neg (by decide),if_neg (by decide),if_neg (by decide),if_pos rfl,y2d];simp only[y1i,beq_iff_eq,decide_eq_true_eq]
set_option maxHeartbeats 2000000 in
theorem z27q (a b:Val) (w:World) (hld:Laid w) (hc:∀ W,Laid W→Calls Tryz.prog 152 #[aggV a,aggV b] W fun e w'=>e=.returned (.tuple #[.int .i64 (cmpV a b).1,.bool true])∧Ext W w')
  (hB:∀ W x,Laid W→Calls Tryz.prog 39 #[.bool x] W fun e w'=>e=.returned (.agg #[.int .i64 (z26 x).kind,.int .i64 (z26 x).n,.string (z26 x).s])∧Ext W w') :
  Calls Tryz.prog 164 #[.int .i64 15,aggV a,aggV b] w fun e w'=>e=.returned (aggV (z26 (soB 15 (cmpV a b).1)))∧Ext w w':=by
 unfold aggV at hc ⊢;have mixed:Tryz.prog.follows .mixedOrders=true:=by kernel_rfl
 have hmm:=@run_makeMap Tryz.prog;have hm:Tryz.prog.underlying 193=some (.map 3 42):=by kernel_rfl
 go_enter Tryz.func164,Tryz.ntmps164
 go_wp2_with (first
  | (go_at_call 152;refine (hc _ (hld.ext ((((Ext.refl w).alloc _).alloc _).alloc _))).mono ?_;rintro e w1 ⟨rfl,h1⟩;have hz:=zkj h1;obtain⟨z0,z1,z2,q0⟩:=zdc hz;have hx:Ext w w1:=((((Ext.refl w).alloc _).alloc _).alloc _).trans h1;have u1:=updC hm [rowO [0]] w1 (ent w1 0).toArray 0 11 (.slice (some ⟨w1.heap.size+1,0,none⟩) 1 1) rfl;have u2:=updC hm [rowO [0],rowO [-1,1]] w1 (ent w1 1).toArray 1 12 (.slice (some ⟨w1.heap.size+1+1,0,none⟩) 2 2) rfl;have u3:=updC hm [rowO [0],rowO [-1,1],rowO [-1]] w1 (ent w1 2).toArray 2 13 (.slice (some ⟨w1.heap.size+1+1+1,0,none⟩) 1 1) rfl;have u4:=updC hm [rowO [0],rowO [-1,1],rowO [-1],rowO [-1,0]] w1 (ent w1 3).toArray 3 14 (.slice (some ⟨w1.heap.size+1+1+1+1,0,none⟩) 2 2) rfl;have u5:=updC hm [rowO [0],rowO [-1,1],rowO [-1],rowO [-1,0],rowO [1]] w1 (ent w1 4).toArray 4 15 (.slice (some ⟨w1.heap.size+1+1+1+1+1,0,none⟩) 1 1) rfl;have u6:=updC hm [rowO [0],rowO [-1,1],rowO [-1],rowO [-1,0],rowO [1],rowO [0,1]] w1 (ent w1 5).toArray 5 16 (.slice (some ⟨w1.heap.size+1+1+1+1+1+1,0,none⟩) 2 2) rfl;have lk:=z1c8 hm [rowO [0],rowO [-1,1],rowO [-1],rowO [-1,0],rowO [1],rowO [0,1]] w1 (ent w1 6).toArray 6 15 4 (.slice (some ⟨w1.heap.size+1+1+1+1+1,0,none⟩) 1 1) rfl;have hro:=zl1 (zl0 [rowO [0],rowO [-1,1],rowO [-1],rowO [-1,0],rowO [1],rowO [0,1]] w1 (.map (ent w1 6).toArray 6) 4 (rowO [1]) rfl);have hce:=zl2 [rowO [0],rowO [-1,1],rowO [-1],rowO [-1,0],rowO [1],rowO [0,1]] w1 (.map (ent w1 6).toArray 6);simp only[yr,y1q,ent,sgn,rowO,y23,y22,y30,y31,yu,y1k,yq,y1a,y32,y15,y10,y16,Nat.reduceAdd] at u1 u2 u3 u4 u5 u6 lk hro hce)
  | (go_at_call 206;refine (Tryz.slices_Contains_int (w1.heap.size+1+1+1+1+1) 0 1 1 [1] (cmpV a b).1 _ (by decide) (by decide) (fun j hj=>by rw[y16];exact hro j hj)).mono ?_;rintro e w2 ⟨rfl,rfl⟩;simp only[z2ni])
  | (go_at_call 39;refine (hB _ _ (hld.ext (hx.trans hce))).mono ?_;rintro e w3 ⟨rfl,h3⟩;have hlt:w.heap.size+1+1<w1.heap.size:=z6l (p:=⟨w.heap.size+1+1,0,none⟩) z0;have h4:=hce.trans h3;have hz3:=(h4.block hlt).trans hz;obtain⟨y0,y1,y2,p0⟩:=zdc hz3))
 refine bodyPost_ret (v:=.agg #[.int .i64 (z26 (soB 15 (cmpV a b).1)).kind,.int .i64 (z26 (soB 15 (cmpV a b).1)).n,.string (z26 (soB 15 (cmpV a b).1)).s]) (by unfold results;go_simp) rfl ?_;refine⟨rfl,?_⟩;have h5:=hx.trans h4;exact ((h5.setCell (by show w.heap.size≤w.heap.size+1+1;omega) _).setCell (by show w.heap.size≤w.heap.size+1+1;omega) _).setCell (by show w.heap.size≤w.heap.size+1+1;omega) _
theorem z2nj (c:Int) : (List.take 2 ([0,1] : List Int)).contains c=soB 16 c:=by
 simp only[y22,y23,y2x,y2y,y2z];unfold soB;rw[if_neg (by decide),if_neg (by decide),if_neg (by decide),if_neg (by decide),if_neg (by decide),y2d];simp only[y1i,beq_iff_eq,decide_eq_true_eq]
set_option maxHeartbeats 2000000 in
theorem z27r (a b:Val) (w:World) (hld:Laid w) (hc:∀ W,Laid W→Calls Tryz.prog 152 #[aggV a,aggV b] W fun e w'=>e=.returned (.tuple #[.int .i64 (cmpV a b).1,.bool true])∧Ext W w')
  (hB:∀ W x,Laid W→Calls Tryz.prog 39 #[.bool x] W fun e w'=>e=.returned (.agg #[.int .i64 (z26 x).kind,.int .i64 (z26 x).n,.string (z26 x).s])∧Ext W w') :
  Calls Tryz.prog 164 #[.int .i64 16,aggV a,aggV b] w fun e w'=>e=.returned (aggV (z26 (soB 16 (cmpV a b).1)))∧Ext w w':=by
 unfold aggV at hc ⊢;have mixed:Tryz.prog.follows .mixedOrders=true:=by kernel_rfl
 have hmm:=@run_makeMap Tryz.prog;have hm:Tryz.prog.underlying 193=some (.map 3 42):=by kernel_rfl
 go_enter Tryz.func164,Tryz.ntmps164
 go_wp2_with (first
  | (go_at_call 152;refine (hc _ (hld.ext ((((Ext.refl w).alloc _).alloc _).alloc _))).mono ?_;rintro e w1 ⟨rfl,h1⟩;have hz:=zkj h1;obtain⟨z0,z1,z2,q0⟩:=zdc hz;have hx:Ext w w1:=((((Ext.refl w).alloc _).alloc _).alloc _).trans h1;have u1:=updC hm [rowO [0]] w1 (ent w1 0).toArray 0 11 (.slice (some ⟨w1.heap.size+1,0,none⟩) 1 1) rfl;have u2:=updC hm [rowO [0],rowO [-1,1]] w1 (ent w1 1).toArray 1 12 (.slice (some ⟨w1.heap.size+1+1,0,none⟩) 2 2) rfl;have u3:=updC hm [rowO [0],rowO [-1,1],rowO [-1]] w1 (ent w1 2).toArray 2 13 (.slice (some ⟨w1.heap.size+1+1+1,0,none⟩) 1 1) rfl;have u4:=updC hm [rowO [0],rowO [-1,1],rowO [-1],rowO [-1,0]] w1 (ent w1 3).toArray 3 14 (.slice (some ⟨w1.heap.size+1+1+1+1,0,none⟩) 2 2) rfl;have u5:=updC hm [rowO [0],rowO [-1,1],rowO [-1],rowO [-1,0],rowO [1]] w1 (ent w1 4).toArray 4 15 (.slice (some ⟨w1.heap.size+1+1+1+1+1,0,none⟩) 1 1) rfl;have u6:=updC hm [rowO [0],rowO [-1,1],rowO [-1],rowO [-1,0],rowO [1],rowO [0,1]] w1 (ent w1 5).toArray 5 16 (.slice (some ⟨w1.heap.size+1+1+1+1+1+1,0,none⟩) 2 2) rfl;have lk:=z1c8 hm [rowO [0],rowO [-1,1],rowO [-1],rowO [-1,0],rowO [1],rowO [0,1]] w1 (ent w1 6).toArray 6 16 5 (.slice (some ⟨w1.heap.size+1+1+1+1+1+1,0,none⟩) 2 2) rfl;have hro:=zl1 (zl0 [rowO [0],rowO [-1,1],rowO [-1],rowO [-1,0],rowO [1],rowO [0,1]] w1 (.map (ent w1 6).toArray 6) 5 (rowO [0,1]) rfl);have hce:=zl2 [rowO [0],rowO [-1,1],rowO [-1],rowO [-1,0],rowO [1],rowO [0,1]] w1 (.map (ent w1 6).toArray 6);simp only[yr,y1q,ent,sgn,rowO,y23,y22,y30,y31,yu,y1k,yq,y1a,y32,y15,y10,y16,Nat.reduceAdd] at u1 u2 u3 u4 u5 u6 lk hro hce)
  | (go_at_call 206;refine (Tryz.slices_Contains_int (w1.heap.size+1+1+1+1+1+1) 0 2 2 [0,1] (cmpV a b).1 _ (by decide) (by decide) (fun j hj=>by rw[y16];exact hro j hj)).mono ?_;rintro e w2 ⟨rfl,rfl⟩;simp only[z2nj])
  | (go_at_call 39;refine (hB _ _ (hld.ext (hx.trans hce))).mono ?_;rintro e w3 ⟨rfl,h3⟩;have hlt:w.heap.size+1+1<w1.heap.size:=z6l (p:=⟨w.heap.size+1+1,0,none⟩) z0;have h4:=hce.trans h3;have hz3:=(h4.block hlt).trans hz;obtain⟨y0,y1,y2,p0⟩:=zdc hz3))
 refine bodyPost_ret (v:=.agg #[.int .i64 (z26 (soB 16 (cmpV a b).1)).kind,.int .i64 (z26 (soB 16 (cmpV a b).1)).n,.string (z26 (soB 16 (cmpV a b).1)).s]) (by unfold results;go_simp) rfl ?_;refine⟨rfl,?_⟩;have h5:=hx.trans h4;exact ((h5.setCell (by show w.heap.size≤w.heap.size+1+1;omega) _).setCell (by show w.heap.size≤w.heap.size+1+1;omega) _).setCell (by show w.heap.size≤w.heap.size+1+1;omega) _
theorem z23d {St:Nat→Nat→Prop} {w:World} {v:Value} {a:Val} (h:DRel Tryz.prog En St w v (.d (.agg (enc .val a)))) : v=aggV a∧WI a.kind∧WI a.n∧WStr a.s:=by
 obtain⟨arr,rfl,hall⟩:=h;have e:arr=arr.toList.toArray:=y4f.symm;rw[e];generalize arr.toList=l at hall
 match l,hall with
 | [x0,x1,x2],⟨h0,h1,h2,_⟩ =>
  have g0:VRel En St w x0 (.s (.int .i64 a.kind)):=h0;have g1:VRel En St w x1 (.s (.int .i64 a.n)):=h1;have g2:VRel En St w x2 (.s (.string a.s)):=h2;cases g0 with
  | s _ k0=>cases g1 with
   | s _ k1=>cases g2 with
    | s _ k2=>exact⟨rfl,oneC_i64.1 k0,oneC_i64.1 k1,oneC_str.1 k2⟩
theorem z29a {St:Nat→Nat→Prop} {w:World} {a:Val} (h1:WI a.kind) (h2:WI a.n) (h3:WStr a.s) : DRel Tryz.prog En St w (aggV a) (.d (.agg (enc .val a))) :=
 ⟨_,rfl,.s _ (oneC_i64.2 h1),.s _ (oneC_i64.2 h2),.s _ (oneC_str.2 h3),trivial⟩
theorem z1yq {a b:Val} (ha:WI a.kind∧WI a.n∧WStr a.s) (hb:WI b.kind∧WI b.n∧WStr b.s) (W:World) (hlW:Laid W) : Calls Tryz.prog 152 #[aggV a,aggV b] W fun e w'=>e=.returned (.tuple #[.int .i64 (cmpV a b).1,.bool (cmpV a b).2])∧Ext W w':=by
 have hF:z8n [.d (.agg (enc .val a)),.d (.agg (enc .val b))]=some ([],z4m (z1s a b),z4n (z1s a b)):=by
  unfold z8n;simp only[zun];rfl
 have hc:=(zkh _ _ _ _ hF (by simp)).1 W (fun _ _=>False) [aggV a,aggV b] (fun _ _ h=>h.elim) ⟨z29a ha.1 ha.2.1 ha.2.2,z29a hb.1 hb.2.1 hb.2.2,trivial⟩ hlW;refine hc.mono ?_;rintro e w' ⟨v,rfl,hx,g,_,_,_,hr,_⟩;refine⟨?_,hx⟩;rw[z1it] at hr;obtain⟨arr,rfl,hall⟩:=hr;have e:arr=arr.toList.toArray:=y4f.symm;rw[e];generalize arr.toList=l at hall
 match l,hall with
 | [x0,x1],⟨h0,h1,_⟩ =>
  obtain⟨rfl,_⟩:=h0;obtain⟨rfl,_⟩:=h1;rfl
theorem zhh (W:World) (x:Bool) (hlW:Laid W) : Calls Tryz.prog 39 #[.bool x] W fun e w'=>e=.returned (.agg #[.int .i64 (z26 x).kind,.int .i64 (z26 x).n,.string (z26 x).s])∧Ext W w':=by
 have hF:zdb [.d (.v (cb x))]=some ([],zvo (z2n x),zvp (z2n x)):=by
  unfold zdb;simp only[z2n7];rfl
 have hc:=(zs7 _ _ _ _ hF (by simp)).1 W (fun _ _=>False) [.bool x] (fun _ _ h=>h.elim) ⟨.s _ rfl,trivial⟩ hlW;refine hc.mono ?_;rintro e w' ⟨v,rfl,hx,g,_,_,_,hr,_⟩;refine⟨?_,hx⟩;rw[zxj] at hr;obtain⟨arr,rfl,hall⟩:=hr;have e:arr=arr.toList.toArray:=y4f.symm;rw[e];generalize arr.toList=l at hall
 match l,hall with
 | [x0,x1,x2],⟨h0,h1,h2,_⟩ =>
  obtain⟨rfl,_⟩:=h0;obtain⟨rfl,_⟩:=h1;obtain⟨rfl,_⟩:=h2;rfl
theorem z2c5 (op:Int) (a b:Val) : WI (cmpO op a b).kind∧WI (cmpO op a b).n∧WStr (cmpO op a b).s:=by
 unfold cmpO z26 z7;split
 ·refine⟨by simp only;omega,?_,by show (0:Nat)≤_;omega⟩;simp only;split<;>omega
 ·exact⟨by simp only;omega,by simp only;omega,by show (0:Nat)≤_;omega⟩
theorem zrc : FnOK 164 zcn:=by
 intro args ob rs os h hob;unfold zcn at h;split at h
 ·rename_i x0 x1 x2;simp only[y7,y8,ym] at h;obtain⟨op,e0,a,e1,b,e2,rfl,rfl,rfl⟩:=h;obtain rfl:=z1c e0;obtain rfl:=zq e1;obtain rfl:=zq e2;refine⟨?_,zl Tryz.func164 (by kernel_rfl) (by kernel_rfl)⟩;have hr:=hob _ (yg.2 rfl);intro w St vs hbd hvs hld
  match vs,hvs with
  | [v0,v1,v2],⟨h0,h1,h2,_⟩ =>
   obtain⟨rfl,-⟩:=zvf h0;obtain⟨rfl,ha⟩:=z23d h1;obtain⟨rfl,hb⟩:=z23d h2;have hc:=z1yq ha hb;have main:Calls Tryz.prog 164 #[.int .i64 op,aggV a,aggV b] w fun e w'=>e=.returned (aggV (cmpO op a b))∧Ext w w':=by
    unfold cmpO;cases hk : (cmpV a b).2
    ·rw[if_neg (by decide)];rw[hk] at hc;exact z1yp op a b w hk hld hc
    ·rw[if_pos rfl];rw[hk] at hc;have hcase:op=11∨op=12∨op=13∨op=14∨op=15∨op=16:=by omega
     rcases hcase with rfl | rfl | rfl | rfl | rfl | rfl
     ·exact z27m a b w hld hc zhh
     ·exact z27n a b w hld hc zhh
     ·exact z27o a b w hld hc zhh
     ·exact z27p a b w hld hc zhh
     ·exact z27q a b w hld hc zhh
     ·exact z27r a b w hld hc zhh
   refine main.mono ?_;rintro e w' ⟨rfl,hx⟩;obtain⟨k0,k1,k2⟩:=z2c5 op a b;let gg : G:={ β:=fun _=>0,lb:=fun _=>False,ω:=fun _ _=>none,tk:=fun _=>(none,0) };exact⟨_,rfl,hx,gg,fun _ h=>h,fun b o x _ h=>by simp [gg] at h,fun b o x h=>by simp [gg] at h,⟨_,rfl,⟨rfl,oneC_i64.2 k0⟩,⟨rfl,oneC_i64.2 k1⟩,⟨rfl,oneC_str.2 k2⟩,trivial⟩,fun k o h=>by simp at h⟩
 ·simp at h
end B
namespace B
open Go Go.RowKit
set_option maxRecDepth 1000000
def zvt (s:ByteArray) (j:Nat) : UInt8:=s.data.toList.getD j 0
structure RowT (w:World) (s:ByteArray) (f b:Int) (k:Nat) (wr:World) : Prop where
 ext : Ext w wr
 cell : ∀ j,j<s.size→wr.cell? ⟨w.heap.size,j,none⟩=some (.int .u8 ((if j<k then ztn f b (zvt s j) else zvt s j).toNat:Nat))
 fr : ∀ j,j<s.size→wr.frozen? ⟨w.heap.size,j,none⟩=false
theorem z2ft (w:World) (e:TypeId) (s:ByteArray) : Ext w (Lib.bytesWorld w e s):=by
 have h:Ext w ((w.drew.alloc (.cells (Lib.bytesCells w e s) e))):=((Ext.refl w).drew).alloc _;have hs:=Lib.bytesWorld_size w e s;refine⟨rfl,rfl,rfl,by omega,fun k hk=>Lib.bytesWorld_at_old w e s k hk⟩
theorem z2c6 (w:World) (e:TypeId) (s:ByteArray) (f b:Int) : RowT w s f b 0 (Lib.bytesWorld w e s) where
 ext:=z2ft w e s
 cell j hj:=by
  rw[Lib.bytesWorld_cell w e s j hj,if_neg (by omega)];rfl
 fr j hj:=by
  unfold World.frozen?;simp only[Lib.bytesWorld_at_new];have : s.size≤(Lib.bytesCells w e s).size:=by
   unfold Lib.bytesCells;rw[Array.size_append,Array.size_map];exact y44 _ _
  simp only[Bool.and_eq_false_iff,decide_eq_false_iff_not];omega
theorem RowT.step {w wr:World} {s:ByteArray} {f b:Int} {k:Nat} (h:RowT w s f b k wr) (hk:k<s.size) (v:Value) (hv:v=.int .u8 ((ztn f b (zvt s k)).toNat:Nat)) : RowT w s f b (k+1) (wr.setCell ⟨w.heap.size,k,none⟩ v) where
 ext:=h.ext.setCell (y6 _) _
 cell j hj:=by
  by_cases e : j=k
  ·subst e;rw[World.cell?_setCell_same _ _ _ (h.cell j hj),if_pos (by omega),hv]
  ·rw[World.cell?_setCell_other _ _ _ _ (by simp only[ne_eq,Addr.mk.injEq,not_and];omega),h.cell j hj];by_cases hjk : j<k
   ·rw[if_pos hjk,if_pos (by omega)]
   ·rw[if_neg hjk,if_neg (by omega)]
 fr j hj:=by rw[World.frozen?_setCell];exact h.fr j hj
theorem RowT.stay {w wr:World} {s:ByteArray} {f b:Int} {k:Nat} (h:RowT w s f b k wr) (hv:ztn f b (zvt s k)=zvt s k) : RowT w s f b (k+1) wr where
 ext:=h.ext
 cell j hj:=by
  rw[h.cell j hj];by_cases e : j=k
  ·subst e;rw[if_neg (by omega),if_pos (by omega),hv]
  ·by_cases hjk : j<k
   ·rw[if_pos hjk,if_pos (by omega)]
   ·rw[if_neg hjk,if_neg (by omega)]
 fr:=h.fr
theorem z27s (s:ByteArray) (f b:Int) (w:World) (hs:s.size≤2000000) : Calls Tryz.prog 212 #[.string s,.int .u8 f,.int .i64 b] w fun e w'=>e=.returned (.string (znd s f b))∧Ext w w':=by
 have h9:Tryz.prog.underlying 9=some .string:=by kernel_rfl
 have hB:Tryz.prog.underlying 201=some (.slice 5):=by kernel_rfl
 have h5:Tryz.prog.underlying 5=some (.int .u8):=by kernel_rfl
 have hconv:=Lib.run_convert_string_bytes (P:=Tryz.prog) w 9 201 5 s h9 hB h5;have hst:=Lib.hid (z2c6 w 5 s f b);generalize Lib.bytesWorld w 5 s=w1 at hconv hst;generalize grownCap w s.size 0 5=cp at hconv
 go_enter Tryz.func212,Tryz.ntmps212
 go_wp2_with fail
 go_loopw [14] (fun i wr=>∃ k : Nat,k≤s.size∧i=.int .i64 k∧RowT w s f b k wr) (fun i _=>s.size - (intOf i).toNat)
 case atStart=>exact⟨0,by omega,rfl,hst.out⟩
 case round =>
  obtain⟨k,hk,rfl,hr⟩:=hrel;by_cases hlt : k<s.size
  ·have e1:=hr.cell k hlt;have e2:=hr.fr k hlt;rw[if_neg (y4g _)] at e1;have HR:=Lib.hid hr;clear hr;generalize hc : zvt s k=c at e1
   go_wp2_with fail
   ·refine⟨⟨k+1,by omega,by simp,HR.out.step hlt _ ?_⟩,by simp [intOf];omega⟩;rename_i h1 h2;unfold ztn;rw[hc,if_pos ⟨h1,by rw[IntKind.wrap_u8];exact h2⟩,IntKind.wrap_u8];have e:IntKind.i64.wrap ((c.toNat:Int)+b)=wrap64 ((c.toNat:Int)+b):=by rw[IntKind.wrap_i64];unfold wrap64;rfl
    rw[e];generalize wrap64 ((c.toNat:Int)+b)=y;congr 1;have h3:(UInt8.ofNat (y % 256).toNat).toNat=(y % 256).toNat % 256:=UInt8.toNat_ofNat';rw[h3];omega
   ·refine⟨⟨k+1,by omega,by simp,HR.out.stay ?_⟩,by simp [intOf];omega⟩;unfold ztn;rw[hc,if_neg];rintro ⟨_,h⟩;rw[IntKind.wrap_u8] at h;omega
   ·refine⟨⟨k+1,by omega,by simp,HR.out.stay ?_⟩,by simp [intOf];omega⟩;unfold ztn;rw[hc,if_neg];rintro ⟨h,_⟩;omega
  ·have hke:k=s.size:=by omega
   subst hke
   have hback:=run_convert_bytes_back (P:=Tryz.prog) wr 201 9 5 ⟨w.heap.size,0,none⟩ cp (s.toList.map (ztn f b)) hB h5 h9 (fun j hj=>by
    rw[yz,z3f] at hj;have:=hr.cell j hj;rw[if_pos hj] at this;have ea:(⟨w.heap.size,0,none⟩ : Addr).add j=⟨w.heap.size,j,none⟩:=by unfold Addr.add;split<;>simp_all
    rw[ea,this,y3m];congr 4;unfold zvt;rw[yc,y9 (by rw[y1o];exact hj),y47]
    simp only[ByteArray.toList_eq])
   rw[yz,z3f] at hback;have hx:=hr.ext;clear hr
   go_wp2_with fail
   go_ret;exact⟨rfl,hx⟩
theorem z1iz : FnOK 212 zne:=by
 intro args ob rs os h hob;unfold zne at h;split at h
 ·rename_i x0 x1 x2;simp only[y7,y8,ym] at h;obtain⟨s,e0,f,e1,b,e2,rfl,rfl,rfl⟩:=h;obtain rfl:=z43 e0;obtain rfl:=z1c e1;obtain rfl:=z1c e2;refine⟨?_,zl Tryz.func212 (by kernel_rfl) (by kernel_rfl)⟩;have hr:=hob _ (yg.2 rfl);intro w St vs hbd hvs hld
  match vs,hvs with
  | [v0,v1,v2],⟨h0,h1,h2,_⟩ =>
   obtain⟨rfl,hs⟩:=zve h0;obtain⟨rfl,-⟩:=zvf h1;obtain⟨rfl,-⟩:=zvf h2;refine (z27s s f b w hr).mono ?_;rintro e w' ⟨rfl,hx⟩;let gg : G:={ β:=fun _=>0,lb:=fun _=>False,ω:=fun _ _=>none,tk:=fun _=>(none,0) };exact⟨_,rfl,hx,gg,fun _ h=>h,fun b o x _ h=>by simp [gg] at h,fun b o x h=>by simp [gg] at h,⟨rfl,oneC_str.2 (by rw[z13w];exact hs)⟩,fun k o h=>by simp at h⟩
 ·simp at h
end B
namespace B
open Go Go.RowKit
set_option maxRecDepth 100000
noncomputable section
attribute [local irreducible] awp ctxK zu z1d retQ z1p awf ctxF z1o
def z19t (s:ByteArray) : Option (RF Un):=fnF_ z1du z262 Tryz.f163 0 [.d] [.d (.v (cs s))]
theorem z23e (s:ByteArray) : z19t s=some (zys ({ kind:=(3:Int),n:=(0:Int),s:=s })):=by kernel_rfl
def z9q (s:ByteArray) : Val :=
 ({ kind:=(3:Int),n:=(0:Int),s:=s })
theorem z23f (s:ByteArray) : z19t s=some (zys (z9q s)):=by rw[z23e];unfold z9q;simp only[z8];repeat (first | rfl | split)
def zzp : FnC Un:=fnF1 dStr fun s=>([],zys (z9q s))
theorem z19u : FnOK 163 zzp:=fnK1 z43 (M:=z1du) rfl trivial trivial trivial trivial trivial Tryz.func163 fun s=>GiF.r fun _ _=>z23f s
def z1wd (v:Val) (kind:Int) : Option (RF Un):=fnF_ z1du z262 Tryz.f200 0 [.d] [.d (.agg (enc Ty.val v)),.box [.v (.s (.int .i64 kind))]]
theorem z2fu (v:Val) (kind:Int) : z1wd v kind=some (z9f (v.kind != kind)):=by kernel_rfl
def znf (v:Val) (kind:Int) : Bool:=v.kind != kind
theorem z27u (v:Val) (kind:Int) (_hv:WS .val v) (_hk:WI kind) (_h:True) : z1wd v kind=some (z9f (znf v kind)):=by
 rw[z2fu];rfl
def z1j0 : List (List (DC Un))→Option (FV Un):=fun dl=>match dl with
 | [b0]=>(bI .i64 b0).bind fun kind=>some (zy (fun v=>True) (fun v=>znf v kind))
 | _=>none
theorem z2c7 : ClOK 200 z1j0:=by
 refine⟨zl Tryz.func200 (by kernel_rfl) (by kernel_rfl),fun dl φ args ob rs hF hφ hob=>?_⟩;unfold z1j0 at hF;split at hF
 ·simp only[y7,y8] at hF;obtain⟨kind,g0,hE⟩:=hF;subst hE;obtain rfl:=z2n8 g0;unfold zy at hφ;split at hφ
  ·simp only[y7,y8,ym] at hφ;obtain⟨v,e0,rfl,rfl⟩:=hφ;simp only[yu,y1k,y15,y10];rw[zq e0];exact Contract.data (z2r (M:=z1du) rfl (z5d (l1:=[]) (l2:=[]) (l3:=[]) (l4:=[]) (l5:=[]) trivial trivial trivial trivial trivial) Tryz.func200 (by kernel_rfl) z262 0 [.d] (fun hwf=>(z27u v kind (z5q hwf (a:=.d (.agg (enc Ty.val v))) (yh (i:=0) rfl)) (z5q hwf (a:=.box [.v (.s (.int .i64 kind))]) (yh (i:=1) rfl)) (hob _ (yh (i:=0) rfl)))))
  ·simp at hφ
 ·simp at hF
def z119 : Mc Un:=mcF_ [(199,zzn)] [] [(200,z1j0)] [] []
def zxk (l:List Val) (kind:Int) : Option (RF Un):=fnF_ z119 z262 Tryz.f157 0 [.d] [.d (.v (.dat (U:=Un) Ty.val l)),.d (.v (.s (.int .i64 kind)))]
theorem z1o8 (l:List Val) (kind:Int) : zxk l kind=obO ((zy (fun v=>True) fun v=>znf v kind)=zy (z1a (zy (fun v=>True) fun v=>znf v kind)) (z1r (zy (fun v=>True) fun v=>znf v kind))) (obO (zbw (z1a (zy (fun v=>True) fun v=>znf v kind)) l) (some (z9f (!zkz l (z1a (zy (fun v=>True) fun v=>znf v kind)) (z1r (zy (fun v=>True) fun v=>znf v kind)))))):=by kernel_rfl
def z4x (l:List Val) (kind:Int) : Bool:=l.all fun v=>v.kind == kind
theorem z1d1 (l:List Val) (kind:Int) (_hl:WL .val l) (_hk:WI kind) : zxk l kind=some (z9f (z4x l kind)):=by
 rw[z1o8];simp only[zk8,zk7];rw[z6 trivial,z6 (show zbw _ l from fun _ _=>trivial)];unfold z4x zkz znf;congr 2;clear _hl
 induction l with
 | nil=>rfl
 | cons x l ih=>rw[List.any_cons,y1g,Bool.not_or,ih];simp [bne]
def z11a : FnC Un:=fnF2 (dL .val) (dI .i64) fun l kind=>([],z9f (z4x l kind))
theorem z1o9 : FnOK 157 z11a:=fnK2 z10 z1c (M:=z119) rfl ⟨z23c,trivial⟩ trivial ⟨z2c7,trivial⟩ trivial trivial Tryz.func157 fun l kind=>GiF.r fun w _=>z1d1 l kind (wfA_ w 0) (wfA_ w 1)
def z15h : Mc Un:=mcF_ [(32,zen)] [] [] [] []
def z11b (n:Int) (ok:Bool) : Option (RF Un):=fnF_ z15h z262 Tryz.f158 0 [.d] [.d (.v (.s (.int .i64 n))),.d (.v (cb ok))]
theorem z1sp (n:Int) (ok:Bool) : z11b n ok=cndO (!ok) (some (zys (z7))) (some (zys (zf n))):=by kernel_rfl
def z4f (n:Int) (ok:Bool) : Val :=
  if (!ok)=true then
   (z7)
  else
   (zf n)
theorem z1sq (n:Int) (ok:Bool) : z11b n ok=some (zys (z4f n ok)):=by rw[z1sp];unfold z4f;simp only[z8];repeat (first | rfl | split)
def zs8 : FnC Un:=fnF2 (dI .i64) dB fun n ok=>([],zys (z4f n ok))
theorem z11c : FnOK 158 zs8:=fnK2 z1c z1ky (M:=z15h) rfl ⟨zfn,trivial⟩ trivial trivial trivial trivial Tryz.func158 fun n ok=>GiF.r fun _ _=>z1sq n ok
def z15i : Mc Un:=mcF_ [(161,ze2),(155,zf2)] [] [] [] []
def z11d (f:Int→Int→Int) (a:Val) (b:Val) : Option (RF Un):=fnF_ z15i z262 Tryz.f165 0 [.d] [.fn (z1m f),.d (.agg (enc Ty.val a)),.d (.agg (enc Ty.val b))]
theorem z1sr (f:Int→Int→Int) (a:Val) (b:Val) : z11d f a b=some (zvq (z5b (f (z1e a) (z1e b)))):=by kernel_rfl
def z6g (f:Int→Int→Int) (a b:Val) : Val:=z5b (f (z1e a) (z1e b))
theorem z1j1 (f:Int→Int→Int) (a b:Val) (_ha:WS .val a) (_hb:WS .val b) : z11d f a b=some (zvq (z6g f a b)):=by
 rw[z1sr];rfl
def zs9 : FnC Un:=fun args=>match args with
 | [x0,x1,x2]=>(dF x0).bind fun f=>(dS .val x1).bind fun a=>(dS .val x2).bind fun b=>some ([f=(z1m (z13 f))],zvo (z6g (z13 f) a b),zvp (z6g (z13 f) a b))
 | _=>none
theorem z1ss : FnOK 165 zs9:=by
 intro args ob rs os h hob;unfold zs9 at h;split at h
 ·simp only[y7,y8,ym] at h;obtain⟨f,e0,a,e1,b,e2,rfl,rfl,rfl⟩:=h;obtain rfl:=zp3 e0;obtain rfl:=zq e1;obtain rfl:=zq e2;have hfv0:=hob _ (yh (i:=0) rfl);generalize z13 f=pp0 at *;subst hfv0;exact⟨z2r (M:=z15i) rfl (z5d (l1:=[(161,ze2),(155,zf2)]) (l2:=[]) (l3:=[]) (l4:=[]) (l5:=[]) ⟨zit,zn9,trivial⟩ trivial trivial trivial trivial) Tryz.func165 (by kernel_rfl) z262 0 [.d] (fun hwf=>(z1j1 pp0 a b (z5q hwf (a:=.d (.agg (enc Ty.val a))) (yh (i:=1) rfl)) (z5q hwf (a:=.d (.agg (enc Ty.val b))) (yh (i:=2) rfl)))),zl Tryz.func165 (by kernel_rfl) (by kernel_rfl)⟩
 ·simp at h
def zhi : Mc Un:=mcF_ [(164,zcn),(161,ze2),(208,z1wb),(155,zf2)] [] [] [] []
def zok : Nat→NS:=nsF_ [(3,{ ts:=bl 25 1844,bs:=bl 25 20,nm:=[(.sl 5,100)] })] false
def z8o (v:Val) (l:List Val) (v0:Int) (v1:List Int) : S Un:=(st 25 25 101 0 [(2,ax 2),(4,ax 4),(5,ao 100),(8,al .val l),(9,ai (↑l.length:Int)),(10,ai v0)] [(2,bg .val v),(4,bg .val z7)] [(100,some ⟨(0:Nat),Ty.int,v1,some (0:Nat),true⟩)])
def zfa : S Un→Option (EX Un):=lpF_ zhi zok Tryz.f168 [1,1,0,1,2,2] 3
def zxl : Exit→S Un→Option (RF Un):=cxF_ zhi zok Tryz.f168 [1,1,0,1,2] [.d]
def zxm (v:Val) (l:List Val) : Option (RF Un):=fnF_ zhi zok Tryz.f168 1 [.d] [.d (.agg (enc Ty.val v)),.d (.v (.dat (U:=Un) Ty.val l))]
theorem z1oa (v:Val) (l:List Val) : zxm v l=(zfa (z8o v l (0:Int) ([]))).bind (zd zxl):=by kernel_rfl
theorem zxn (v:Val) (l:List Val) (v0:Int) (v1:List Int) : zfa (z8o v l v0 v1)=cndO (decide (v0<(↑l.length:Int))) (obO (0≤v0∧v0<(↑l.length:Int)) (obO ((11:Int)≤(11:Int)∧(11:Int)≤(16:Int)) (obO ((v1.length+[z1e (cmpO (11:Int) v (l.getD v0.toNat z7))].length)*(8:Nat)≤zi) (zfa (z8o v l (IntKind.i64.wrap (v0+1)) (v1++[z1e (cmpO (11:Int) v (l.getD v0.toNat z7))])))))) (some (.exit 0,(z8o v l v0 v1))):=lpQ_ (by kernel_rfl)
theorem z19v (v:Val) (l:List Val) (v0:Int) (v1:List Int) : zxl (.exit 0) (z8o v l v0 v1)=some (zys (z5b (z1c7 v1))):=by kernel_rfl
def zge (v:Val) (l:List Val) : Val:=z5b (z1c7 (l.map fun x=>z1e (cmpO 11 v x)))
theorem zgf {α β:Type} (f:α→β) : ∀ (l:List α) (o:List β),l.foldl (fun o x=>o++[f x]) o=o++l.map f
 | [],o=>by simp
 | x::l,o=>by rw[yr,zgf f l];simp
theorem z1d2 (v:Val) (l:List Val) (_hv:WS .val v) (hl:WL .val l) (h:l.length≤2000000) : zxm v l=some (zys (zge v l)):=by
 obtain⟨lp,_⟩:=z1q (e:=.exit 0) (L:=zfa) (st:=fun (o:List Int) i=>z8o v l i o) (l:=l) (d:=z7) (g:=fun o x=>o++[z1e (cmpO 11 v x)]) (fun i o=>o.length=i) hl.len
  (fun o i x hi hx hI=>by
   have hI':o.length=i:=hI;refine⟨by show (o++[_]).length=i+1;rw[ya,ye];omega,?_⟩;rw[zxn];simp only[z8,hi,decide_true,if_true,and_true,y5,hx]
   rw[z6 (by omega),z6 (by omega),z6 (by unfold zi;rw[ye];omega)])
  (fun o _=>by rw[zxn];simp [z8]) [] rfl
 rw[zgf,y10] at lp;rw[z1oa];refine (zg lp).trans ?_;rw[z19v];rfl
def z11e : FnC Un:=fnF2 (dS .val) (dL .val) fun v l=>([l.length≤2000000],zys (zge v l))
theorem z1ob : FnOK 168 z11e:=fnK2 zq z10 (M:=zhi) rfl ⟨zrc,zit,z2c1,zn9,trivial⟩ trivial trivial trivial trivial Tryz.func168 fun v l=>GiF.r fun w o=>z1d2 v l (wfA_ w 0) (wfA_ w 1) (obA_ o 0)
def zhj : Mc Un:=mcF_ [(161,ze2)] [] [] [] []
def zol : Nat→NS:=nsF_ [(1,{ ts:=bl 23 5,bs:=bl 23 4,nm:=[],gb:=[2] })] false
def z1z (b2:Val) (v0:List Val) : S Un:=(st 23 23 92 0 [(0,al .val v0),(2,ax 2)] [(2,bg .val b2)] [])
def z4o : S Un→Option (EX Un):=lpF_ zhj zol Tryz.f169 [1,0,2,2] 1
def zfb : Exit→S Un→Option (RF Un):=cxF_ zhj zol Tryz.f169 [1,0,2] [.d]
def zxo (l:List Val) : Option (RF Un):=fnF_ zhj zol Tryz.f169 0 [.d] [.d (.v (.dat (U:=Un) Ty.val l))]
theorem z1oc (l:List Val) : zxo l=(z4o (z1z z7 l)).bind (zd zfb):=by kernel_rfl
theorem zfc (b2:Val) (v0:List Val) : z4o (z1z b2 v0)=cndO (decide ((↑v0.length:Int) > (1:Int))) (obO ((0:Int)≤(0:Int)∧(0:Int)<(↑v0.length:Int)) (cndO (z1e (v0.getD 0 z7) == 2) (obO ((0:Int)≤(1:Int)∧(1:Int)<(↑v0.length:Int)) (some (.ret,(z1z (v0.getD 1 z7) v0)))) (obO ((0:Int)≤(2:Int)∧(2:Int)≤(↑v0.length:Int)) (z4o (z1z b2 (List.drop 2 v0)))))) (some (.exit 0,(z1z b2 v0))):=lpQ_ (by kernel_rfl)
theorem z16i (b2:Val) (v0:List Val) : zfb .ret (z1z b2 v0)=some (zys (b2)):=by kernel_rfl
theorem zrd (b2:Val) (v0:List Val) : zfb (.exit 0) (z1z b2 v0)=cndO ((↑v0.length:Int) == (1:Int)) (obO ((0:Int)≤(0:Int)∧(0:Int)<(↑v0.length:Int)) (some (zys (v0.getD 0 z7)))) (some (zys (z7))):=by kernel_rfl
def zvu : List Val→Val
 | []=>z7
 | [x]=>x
 | c::v::r=>if z1e c=2 then v else zvu r
def zng (l:List Val) : Val:=zvu l
theorem z2c8 : ∀ (n:Nat) (l:List Val),l.length≤n→(z4o (z1z z7 l)).bind (zd zfb)=some (zys (zvu l)):=by
 intro n
 induction n using Nat.strongRecOn with
 | ind n ih =>
  intro l hn
  match l,hn with
  | [],_ =>
   have e:z4o (z1z z7 [])=some (.exit 0,z1z z7 []):=by rw[zfc];rfl
   rw[zg e,zrd];rfl
  | [x],_ =>
   have e:z4o (z1z z7 [x])=some (.exit 0,z1z z7 [x]):=by rw[zfc];rfl
   rw[zg e,zrd,z8,if_pos (by simp),z6 (by simp)];rfl
  | c::v::r,hn =>
   simp only[yq] at hn;have hg0:(c::v::r).getD 0 z7=c:=rfl;have hg1:(c::v::r).getD 1 z7=v:=rfl;have hd:List.drop 2 (c::v::r)=r:=rfl;have hl:((c::v::r).length:Int)=(r.length:Int)+2:=by simp only[yq];omega
   by_cases h : z1e c=2
   ·have e:z4o (z1z z7 (c::v::r))=some (.ret,z1z v (c::v::r)):=by
     rw[zfc,hg0,hg1,hl,z8,if_pos (by simp;omega),z6 (by omega),z8,if_pos (by simpa using h),z6 (by omega)]
    rw[zg e,z16i];simp only[zvu];rw[if_pos h]
   ·have e:z4o (z1z z7 (c::v::r))=z4o (z1z z7 r):=by
     rw[zfc,hg0,hg1,hl,hd,z8,if_pos (by simp;omega),z6 (by omega),z8,if_neg (by simpa using h),z6 (by omega)]
    rw[e,ih r.length (by omega) r (y6 _)];simp only[zvu];rw[if_neg h]
theorem z1d3 (l:List Val) (_hl:WL .val l) : zxo l=some (zys (zng l)):=by
 rw[z1oc];exact z2c8 _ l (y6 _)
def z11f : FnC Un:=fnF1 (dL .val) fun l=>([],zys (zng l))
theorem z1od : FnOK 169 z11f:=fnK1 z10 (M:=zhj) rfl ⟨zit,trivial⟩ trivial trivial trivial trivial Tryz.func169 fun l=>GiF.r fun w _=>z1d3 l (wfA_ w 0)
def z1oe (v:Val) : Option (RF Un):=fnF_ z1du z262 Tryz.f210 0 [.d] [.d (.agg (enc Ty.val v))]
theorem z2c9 (v:Val) : z1oe v=some (z1fv (v.kind != 0)):=by kernel_rfl
def zf3 (v:Val) : Bool :=
 (v.kind != (0:Int))
theorem z2ca (v:Val) : z1oe v=some (z1fv (zf3 v)):=by rw[z2c9];unfold zf3;simp only[z8];repeat (first | rfl | split)
def zxp : FnC Un:=fun args=>match args with
 | [x0]=>(dS .val x0).bind fun v=>some ([],zur (zf3 v),zus (zf3 v))
 | _=>none
theorem z2cb : FnOK 210 zxp:=by
 intro args ob rs os h hob;unfold zxp at h;split at h
 ·simp only[y7,y8,ym] at h;obtain⟨v,e0,rfl,rfl,rfl⟩:=h;obtain rfl:=zq e0;exact⟨z2r (M:=z1du) rfl (z5d (l1:=[]) (l2:=[]) (l3:=[]) (l4:=[]) (l5:=[]) trivial trivial trivial trivial trivial) Tryz.func210 (by kernel_rfl) z262 0 [.d] (fun hwf=>(z2ca v)),zl Tryz.func210 (by kernel_rfl) (by kernel_rfl)⟩
 ·simp at h
def z2q : FV Un:=zy (fun v=>True) (fun v=>zf3 v)
theorem z27v : FvOK 210 z2q:=by
 refine⟨zl Tryz.func210 (by kernel_rfl) (by kernel_rfl),fun args ob rs h hob=>?_⟩;unfold z2q zy at h;split at h
 ·simp only[y7,y8,ym] at h;obtain⟨v,e0,rfl,rfl⟩:=h;simp only[yu,y1k];rw[zq e0];refine Contract.data (z2cb _ ([]) _ _ (?_ : zxp _=some _) (by simp)).1;unfold zxp;simp only[zun];rfl
 ·simp at h
def zxq : Mc Un:=mcF_ [(209,ziu),(152,z8n),(159,z19e),(158,zs8),(211,zc7),(32,zen),(212,zne),(163,zzp)] [(210,z2q)] [] [] []
def zvv (name:ByteArray) (l:List Val) : Option (RF Un):=fnF_ zxq z262 Tryz.f170 0 [.d] [.d (.v (cs name)),.d (.v (.dat (U:=Un) Ty.val l))]
def ze3 (name:ByteArray) (l:List Val) : Option (RF Un):=obO ((0:Int)≤(0:Int)∧(0:Int)<(↑l.length:Int)) (cndO ((l.getD 0 z7).kind != 3) (some (zys (z7))) (cndO (name.toList == (ByteArray.mk #[108,101,110,103,116,104]).toList) (obO ((0:Int)≤(0:Int)∧(0:Int)<(↑l.length:Int)) (some (zys (zf (↑(l.getD 0 z7).s.size:Int))))) (cndO (name.toList == (ByteArray.mk #[108,111,119,101,114]).toList) (obO ((0:Int)≤(0:Int)∧(0:Int)<(↑l.length:Int)) (obO ((l.getD 0 z7).s.size≤(2000000:Nat)) (some (zys (z9q (znd (l.getD 0 z7).s (65:Int) (32:Int))))))) (cndO (name.toList == (ByteArray.mk #[117,112,112,101,114]).toList) (obO ((0:Int)≤(0:Int)∧(0:Int)<(↑l.length:Int)) (obO ((l.getD 0 z7).s.size≤(2000000:Nat)) (some (zys (z9q (znd (l.getD 0 z7).s (97:Int) (-32:Int))))))) (some (zys (z7)))))))
def ze4 (name:ByteArray) (l:List Val) : Option (RF Un):=cndO ((↑l.length:Int) != (1:Int)) (some (zys (z7))) (cndO (name.toList == (ByteArray.mk #[97,98,115]).toList) (obO ((0:Int)≤(0:Int)∧(0:Int)<(↑l.length:Int)) (cndO ((l.getD 0 z7).kind == 2) (obO ((0:Int)≤(0:Int)∧(0:Int)<(↑l.length:Int)) (cndO (decide ((l.getD 0 z7).n<0)) (some (zys (z4f (zd9 (l.getD 0 z7).n).fst (zd9 (l.getD 0 z7).n).snd))) (some (zys (z4f (l.getD 0 z7).n (z1u (l.getD 0 z7).n)))))) (ze3 name l))) (ze3 name l))
theorem z1j2 (name:ByteArray) (l:List Val) : zvv name l=cndO (name.toList == (ByteArray.mk #[99,111,97,108,101,115,99,101]).toList) (obO (z2q=zy (z1a z2q) (z1r z2q)) (obO (zbw (z1a z2q) l) (cndO (decide (z3l l (z1a z2q) (z1r z2q)≥0)) (obO (0≤z3l l (z1a z2q) (z1r z2q)∧z3l l (z1a z2q) (z1r z2q)<(↑l.length:Int)) (some (zys (l.getD (z3l l (z1a z2q) (z1r z2q)).toNat z7)))) (some (zys (z7)))))) (cndO (name.toList == (ByteArray.mk #[110,117,108,108,105,102]).toList) (cndO ((↑l.length:Int) == (2:Int)) (obO ((0:Int)≤(0:Int)∧(0:Int)<(↑l.length:Int)) (obO ((0:Int)≤(1:Int)∧(1:Int)<(↑l.length:Int)) (cndO (!(z1s (l.getD 0 z7) (l.getD 1 z7)).snd) (obO ((0:Int)≤(0:Int)∧(0:Int)<(↑l.length:Int)) (some (zys (l.getD 0 z7)))) (cndO ((z1s (l.getD 0 z7) (l.getD 1 z7)).fst != 0) (obO ((0:Int)≤(0:Int)∧(0:Int)<(↑l.length:Int)) (some (zys (l.getD 0 z7)))) (some (zys (z7))))))) (ze4 name l)) (ze4 name l)):=by kernel_rfl
def txts (l:List Val) : Prop:=l.length≤2000000∧∀ x∈l,x.s.size≤2000000
def nmB (name:ByteArray) (x:ByteArray) : Bool:=name.toList == x.toList
def z1c9 (name:ByteArray) (x:Val) : Val :=
 if x.kind≠3 then z7
 else if nmB name ⟨#[108,101,110,103,116,104]⟩=true then zf (x.s.size:Int)
 else if nmB name ⟨#[108,111,119,101,114]⟩=true then z9q (znd x.s 65 32)
 else if nmB name ⟨#[117,112,112,101,114]⟩=true then z9q (znd x.s 97 (-32))
 else z7
def z1ca (name:ByteArray) (l:List Val) : Val :=
 if l.length≠1 then z7
 else if nmB name ⟨#[97,98,115]⟩=true∧(l.getD 0 z7).kind=2 then (if (l.getD 0 z7).n<0 then z4f (zd9 (l.getD 0 z7).n).1 (zd9 (l.getD 0 z7).n).2 else z4f (l.getD 0 z7).n (z1u (l.getD 0 z7).n))
 else z1c9 name (l.getD 0 z7)
def z23j (l:List Val) : Val:=if 0≤z3l l (fun _=>True) zf3 then l.getD (z3l l (fun _=>True) zf3).toNat z7 else z7
def z8x (name:ByteArray) (l:List Val) : Val :=
 if nmB name ⟨#[99,111,97,108,101,115,99,101]⟩=true then z23j l
 else if nmB name ⟨#[110,117,108,108,105,102]⟩=true∧l.length=2 then (if (z1s (l.getD 0 z7) (l.getD 1 z7)).2=true∧(z1s (l.getD 0 z7) (l.getD 1 z7)).1=0 then z7 else l.getD 0 z7)
 else z1ca name l
theorem z23k (s:List Val) (o:Val→Prop) (f:Val→Bool) : z3l s o f<(s.length:Int)∨z3l s o f=-1:=by
 unfold z3l;cases h : s.findIdx? f with
 | none=>exact .inr rfl
 | some i =>
  obtain⟨h1,_,_⟩:=y2n.1 h;exact .inl (by show (i:Int)<_;omega)
theorem z1og {β:Type} (x y:Option β) : cndO false x y=y:=rfl
theorem z1oh {β:Type} (x y:Option β) : cndO true x y=x:=rfl
theorem z2fv (name:ByteArray) (l:List Val) (hl:l.length=1) (h:txts l) : ze3 name l=some (zys (z1c9 name (l.getD 0 z7))):=by
 have hm:(l.getD 0 z7).s.size≤2000000:=h.2 _ (by rw[yc,y9 (by omega)];exact y1t _);unfold ze3 z1c9 nmB;generalize l.getD 0 z7=x at hm;have p0:∀ y : Option (RF Un),obO ((0:Int)≤(0:Int)∧(0:Int)<(l.length:Int)) y=y:=fun y=>z6 (by omega);have p1:∀ y : Option (RF Un),obO (x.s.size≤2000000) y=y:=fun y=>z6 hm;simp only[p0,p1];generalize (name.toList == (ByteArray.mk #[108,101,110,103,116,104]).toList)=q1;generalize (name.toList == (ByteArray.mk #[108,111,119,101,114]).toList)=q2;generalize (name.toList == (ByteArray.mk #[117,112,112,101,114]).toList)=q3;by_cases h3 : x.kind=3
 ·have e3:(x.kind != 3)=false:=by simp [h3]
  rw[e3,z1og,if_neg (fun e=>e h3)];cases q1<;>cases q2<;>cases q3<;>rfl
 ·have e3:(x.kind != 3)=true:=by simp [h3]
  rw[e3,z1oh,if_pos h3]
theorem z2fw (name:ByteArray) (l:List Val) (h:txts l) : ze4 name l=some (zys (z1ca name l)):=by
 unfold ze4 z1ca;by_cases hl : l.length=1
 ·have e0:((l.length:Int) != 1)=false:=by rw[hl];rfl
  rw[e0,z1og,if_neg (fun e=>e hl),z2fv name l hl h];have hb:(name.toList == (ByteArray.mk #[97,98,115]).toList)=nmB name ⟨#[97,98,115]⟩:=rfl;rw[hb];cases nmB name ⟨#[97,98,115]⟩
  ·rw[z1og,if_neg (fun e=>by simp at e)]
  ·rw[z1oh,z6 (by omega)];by_cases hk : (l.getD 0 z7).kind=2
   ·have ek:((l.getD 0 z7).kind == 2)=true:=by rw[hk];rfl
    rw[ek,z1oh,z6 (by omega),if_pos ⟨rfl,hk⟩,z8];by_cases hn : (l.getD 0 z7).n<0
    ·rw[if_pos (decide_eq_true hn),if_pos hn]
    ·rw[if_neg (fun e=>hn (of_decide_eq_true e)),if_neg hn]
   ·have ek:((l.getD 0 z7).kind == 2)=false:=by rw[beq_eq_false_iff_ne];exact hk
    rw[ek,z1og,if_neg (fun e=>hk e.2)]
 ·have e0:((l.length:Int) != 1)=true:=by simp;omega
  rw[e0,z1oh,if_pos hl]
theorem z19w (name:ByteArray) (l:List Val) (_hn:WStr name) (_hl:WL .val l) (h:txts l) : zvv name l=some (zys (z8x name l)):=by
 have o1:z1a z2q=fun _=>True:=by unfold z2q;exact zk8 _ _
 have o2:z1r z2q=zf3:=by unfold z2q;exact zk7 _ _
 have o3:z2q=zy (z1a z2q) (z1r z2q):=by rw[o1,o2];rfl
 rw[z1j2,z6 o3,o1,o2,z6 (show zbw _ l from fun _ _=>trivial),z2fw name l h];unfold z8x z23j;have hb:(name.toList == (ByteArray.mk #[99,111,97,108,101,115,99,101]).toList)=nmB name ⟨#[99,111,97,108,101,115,99,101]⟩:=rfl;have hb2:(name.toList == (ByteArray.mk #[110,117,108,108,105,102]).toList)=nmB name ⟨#[110,117,108,108,105,102]⟩:=rfl;rw[hb,hb2];generalize nmB name ⟨#[99,111,97,108,101,115,99,101]⟩=q1;generalize nmB name ⟨#[110,117,108,108,105,102]⟩=q2;cases q1
 ·rw[z8,if_neg (by decide),if_neg (by decide)];cases q2
  ·rw[z8,if_neg (by decide),if_neg (fun e=>by simp at e)]
  ·rw[z8,if_pos rfl,z8];by_cases h2 : l.length=2
   ·rw[if_pos (by simp;omega),if_pos ⟨rfl,h2⟩,z6 (by omega),z6 (by omega),z6 (by omega)];cases (z1s (l.getD 0 z7) (l.getD 1 z7)).2
    ·rw[if_neg (fun e=>by simp at e)];rfl
    ·simp only[z8,y4a,bne_iff_ne,ne_eq];by_cases h5 : (z1s (l.getD 0 z7) (l.getD 1 z7)).1=0
     ·rw[if_neg (by decide),if_neg (fun e=>e h5),if_pos ⟨trivial,h5⟩]
     ·rw[if_neg (by decide),if_pos h5,if_neg (fun e=>h5 e.2)]
   ·rw[if_neg (by simp;omega),if_neg (fun e=>h2 e.2)]
 ·rw[z8,if_pos rfl,if_pos rfl,z8];have hlt:=z23k l (fun _=>True) zf3;by_cases h3 : 0≤z3l l (fun _=>True) zf3
  ·rw[if_pos (decide_eq_true h3),if_pos h3,z6 (by omega)]
  ·rw[if_neg (fun e=>h3 (of_decide_eq_true e)),if_neg h3]
def zxr : FnC Un:=fnF2 dStr (dL .val) fun name l=>([txts l],zys (z8x name l))
theorem z1j3 : FnOK 170 zxr:=fnK2 z43 z10 (M:=zxq) rfl ⟨z19p,zkh,z1nt,z11c,zbi,zfn,z1iz,z19u,trivial⟩ ⟨z27v,trivial⟩ trivial trivial trivial Tryz.func170 fun name l=>GiF.r fun w o=>z19w name l (wfA_ w 0) (wfA_ w 1) (obA_ o 0)
end
end B
namespace B
open Go Go.RowKit
set_option maxRecDepth 100000
noncomputable section
attribute [local irreducible] awp ctxK zu z1d retQ z1p awf ctxF z1o
def z1oi (op:Int) (name:ByteArray) (l:List Val) : Val :=
 if op=3 then (if z4x l 2=true then z4f (zd9 (l.getD 0 z7).n).1 (zd9 (l.getD 0 z7).n).2 else z7)
 else if op=4 then z5b (zua (z1e (l.getD 0 z7)))
 else if op=19 then z2n ((l.getD 0 z7).kind == 0)
 else if op=5∨op=6∨op=7∨op=8∨op=9 then (if z4x l 2=true then z4f (twoN op (l.getD 0 z7).n (l.getD 1 z7).n).1 (twoN op (l.getD 0 z7).n (l.getD 1 z7).n).2 else z7)
 else if op=10 then (if z4x l 3=true then (if (l.getD 0 z7).s.size+(l.getD 1 z7).s.size≤100 then z9q ((l.getD 0 z7).s++(l.getD 1 z7).s) else z7) else z7)
 else if op=11∨op=12∨op=13∨op=14∨op=15∨op=16 then cmpO op (l.getD 0 z7) (l.getD 1 z7)
 else if op=17 then z6g zky (l.getD 0 z7) (l.getD 1 z7)
 else if op=18 then z6g z93 (l.getD 0 z7) (l.getD 1 z7)
 else if op=20 then (if z4x l 3=true then z2n (znb (l.getD 0 z7).s (l.getD 1 z7).s) else z7)
 else if op=21 then zge (l.getD 0 z7) (l.drop 1)
 else if op=22 then z6g zky (cmpO 16 (l.getD 0 z7) (l.getD 1 z7)) (cmpO 14 (l.getD 0 z7) (l.getD 2 z7))
 else if op=23 then zng l
 else if op=24 then z8x name l
 else z7
def cntN (op:Int) : Int×Bool:=if op=3∨op=4∨op=19 then (1,false) else if op=22 then (3,false) else if op=21∨op=23 then (2,true) else if op=24 then (0,true) else (2,false)
def zxs (op:Int) : Option (RF Un):=fnF_ z1du z269 Tryz.f156 0 [.d,.d] [.d (.v (.s (.int .i64 op)))]
theorem z1oj (op:Int) : zxs op=cndO (op == 3) (some (zmd ((1:Int),false))) (cndO (op == 4) (some (zmd ((1:Int),false))) (cndO (op == 19) (some (zmd ((1:Int),false))) (cndO (op == 22) (some (zmd ((3:Int),false))) (cndO (op == 21) (some (zmd ((2:Int),true))) (cndO (op == 23) (some (zmd ((2:Int),true))) (cndO (op == 24) (some (zmd ((0:Int),true))) (some (zmd ((2:Int),false))))))))):=by kernel_rfl
def zal (op:Int) : Int×Bool:=cntN op
theorem z1d4 (op:Int) (_h:WI op) : zxs op=some (zmd (zal op)):=by
 rw[z1oj];unfold zal cntN;simp only[zu5];simp only[z8,y1i,beq_iff_eq];by_cases h1 : op=3∨op=4∨op=19
 ·rw[if_pos (by omega),if_pos h1]
 rw[if_neg (by omega),if_neg h1];by_cases h2 : op=22
 ·rw[if_pos h2,if_pos h2]
 rw[if_neg h2,if_neg h2];by_cases h3 : op=21∨op=23
 ·rw[if_pos (by omega),if_pos h3]
 rw[if_neg (by omega),if_neg h3];by_cases h4 : op=24
 ·rw[if_pos h4,if_pos h4]
 rw[if_neg h4,if_neg h4]
def z11h : FnC Un:=fnF1 (dI .i64) fun op=>([],zmd (zal op))
theorem z1ok : FnOK 156 z11h:=fnK1 z1c (M:=z1du) rfl trivial trivial trivial trivial trivial Tryz.func156 fun op=>GiF.r fun w _=>z1d4 op (wfA_ w 0)
def z11i : Mc Un:=mcF_ [(156,z11h),(157,z11a),(159,z19e),(158,zs8),(161,ze2),(160,z1w4),(155,zf2),(39,zdb),(162,zvr),(163,zzp),(164,zcn),(165,zs9),(167,z19n),(168,z11e),(169,z11f),(170,zxr)] [(166,z5a),(153,zak)] [] [] []
def zxt (op:Int) (l:List Val):=z4f (twoN op (l.getD 0 z7).n (l.getD 1 z7).n).fst (twoN op (l.getD 0 z7).n (l.getD 1 z7).n).snd
def zxu (l:List Val):=z6g (z13 z5a) (l.getD 0 z7) (l.getD 1 z7)
def zxv (l:List Val):=z6g (z13 zak) (l.getD 0 z7) (l.getD 1 z7)
def zxw (l:List Val):=z6g (z13 z5a) (cmpO (16:Int) (l.getD 0 z7) (l.getD 1 z7)) (cmpO (14:Int) (l.getD 0 z7) (l.getD 2 z7))
def zxx (op:Int) (name:ByteArray) (l:List Val) : Option (RF Un):=fnF_ z11i z269 Tryz.f120 0 [.d] [.d (.v (.s (.int .i64 op))),.d (.v (cs name)),.d (.v (.dat (U:=Un) Ty.val l))]
def z8p (op:Int) (l:List Val) : Option (RF Un):=cndO (z4x l (2:Int)) (obO (5≤op∧op≤9) (obO ((0:Int)≤(0:Int)∧(0:Int)<(↑l.length:Int)) (obO ((0:Int)≤(1:Int)∧(1:Int)<(↑l.length:Int)) (some (zys (zxt op l)))))) (some (zys (z7)))
def z6x (op:Int) (l:List Val) : Option (RF Un):=obO ((0:Int)≤(0:Int)∧(0:Int)<(↑l.length:Int)) (obO ((0:Int)≤(1:Int)∧(1:Int)<(↑l.length:Int)) (obO (11≤op∧op≤16) (some (zys (cmpO op (l.getD 0 z7) (l.getD 1 z7))))))
def zfd (op:Int) (name:ByteArray) (l:List Val) : Option (RF Un):=cndO (op == 3) (cndO (z4x l (2:Int)) (obO ((0:Int)≤(0:Int)∧(0:Int)<(↑l.length:Int)) (some (zys (z4f (zd9 (l.getD 0 z7).n).fst (zd9 (l.getD 0 z7).n).snd)))) (some (zys (z7)))) (cndO (op == 4) (obO ((0:Int)≤(0:Int)∧(0:Int)<(↑l.length:Int)) (some (zys (z5b (zua (z1e (l.getD 0 z7))))))) (cndO (op == 19) (obO ((0:Int)≤(0:Int)∧(0:Int)<(↑l.length:Int)) (some (zys (z2n ((l.getD 0 z7).kind == 0))))) (cndO (op == 5) (z8p op l) (cndO (op == 6) (z8p op l) (cndO (op == 7) (z8p op l) (cndO (op == 8) (z8p op l) (cndO (op == 9) (z8p op l) (cndO (op == 10) (cndO (z4x l (3:Int)) (obO ((0:Int)≤(0:Int)∧(0:Int)<(↑l.length:Int)) (obO ((0:Int)≤(1:Int)∧(1:Int)<(↑l.length:Int)) (cndO (decide (IntKind.i64.wrap ((↑(l.getD 0 z7).s.size:Int)+(↑(l.getD 1 z7).s.size:Int))≤100)) (obO ((0:Int)≤(0:Int)∧(0:Int)<(↑l.length:Int)) (obO ((0:Int)≤(1:Int)∧(1:Int)<(↑l.length:Int)) (obO ((l.getD 0 z7).s.size+(l.getD 1 z7).s.size≤(9223372036854775807:Nat)) (some (zys (z9q ((l.getD 0 z7).s++(l.getD 1 z7).s))))))) (some (zys (z7)))))) (some (zys (z7)))) (cndO (op == 11) (z6x op l) (cndO (op == 12) (z6x op l) (cndO (op == 13) (z6x op l) (cndO (op == 14) (z6x op l) (cndO (op == 15) (z6x op l) (cndO (op == 16) (z6x op l) (cndO (op == 17) (obO ((0:Int)≤(0:Int)∧(0:Int)<(↑l.length:Int)) (obO ((0:Int)≤(1:Int)∧(1:Int)<(↑l.length:Int)) (obO (z5a=z1m (z13 z5a)) (some (zys (zxu l)))))) (cndO (op == 18) (obO ((0:Int)≤(0:Int)∧(0:Int)<(↑l.length:Int)) (obO ((0:Int)≤(1:Int)∧(1:Int)<(↑l.length:Int)) (obO (zak=z1m (z13 zak)) (some (zys (zxv l)))))) (cndO (op == 20) (cndO (z4x l (3:Int)) (obO ((0:Int)≤(0:Int)∧(0:Int)<(↑l.length:Int)) (obO ((0:Int)≤(1:Int)∧(1:Int)<(↑l.length:Int)) (obO ((l.getD 0 z7).s.size≤(2000000:Nat)) (obO ((l.getD 1 z7).s.size≤(2000000:Nat)) (some (zys (z2n (znb (l.getD 0 z7).s (l.getD 1 z7).s)))))))) (some (zys (z7)))) (cndO (op == 21) (obO ((0:Int)≤(0:Int)∧(0:Int)<(↑l.length:Int)) (obO ((0:Int)≤(1:Int)∧(1:Int)≤(↑l.length:Int)) (obO ((List.drop 1 l).length≤(2000000:Nat)) (some (zys (zge (l.getD 0 z7) (List.drop 1 l))))))) (cndO (op == 22) (obO ((0:Int)≤(0:Int)∧(0:Int)<(↑l.length:Int)) (obO ((0:Int)≤(1:Int)∧(1:Int)<(↑l.length:Int)) (obO ((11:Int)≤(16:Int)∧(16:Int)≤(16:Int)) (obO ((0:Int)≤(0:Int)∧(0:Int)<(↑l.length:Int)) (obO ((0:Int)≤(2:Int)∧(2:Int)<(↑l.length:Int)) (obO ((11:Int)≤(14:Int)∧(14:Int)≤(16:Int)) (obO (z5a=z1m (z13 z5a)) (some (zys (zxw l)))))))))) (cndO (op == 23) (some (zys (zng l))) (cndO (op == 24) (obO (txts l) (some (zys (z8x name l)))) (some (zys (z7))))))))))))))))))))))))
theorem z1ol (op:Int) (name:ByteArray) (l:List Val) : zxx op name l=cndO (decide ((↑l.length:Int)<(zal op).fst)) (some (zys (z7))) (cndO (!(zal op).snd) (cndO (decide ((↑l.length:Int) > (zal op).fst)) (some (zys (z7))) (zfd op name l)) (zfd op name l)):=by kernel_rfl
def zr (op:Int) (name:ByteArray) (l:List Val) : Val:=if (l.length:Int)<(cntN op).1∨((cntN op).2=false∧(l.length:Int) > (cntN op).1) then z7 else z1oi op name l
theorem z19x (op:Int) (name:ByteArray) (l:List Val) (h:txts l) (hn:¬ ((l.length:Int)<(cntN op).1∨((cntN op).2=false∧(l.length:Int) > (cntN op).1))) : zfd op name l=some (zys (z1oi op name l)):=by
 have hlen:=h.1;have ht:∀ i,i<l.length→(l.getD i z7).s.size≤2000000:=fun i hi=>h.2 _ (by rw[yc,y9 hi];exact y1t _);have hvA:z5a=z1m (z13 z5a):=by unfold z5a;rw[z6o]
 have hfA:z13 z5a=zky:=by unfold z5a;exact z6o _
 have hvO:zak=z1m (z13 zak):=by unfold zak;rw[z6o]
 have hfO:z13 zak=z93:=by unfold zak;exact z6o _
 unfold zfd z1oi;simp only[zu5];simp only[z8,y1i,beq_iff_eq];by_cases h3 : op=3
 ·have hc:l.length=1:=by subst h3;have : cntN 3=(1,false):=rfl;rw[this] at hn;simp only[true_and] at hn;omega
  rw[if_pos h3,if_pos h3];split
  ·rw[z6 (by omega)]
  ·rfl
 rw[if_neg h3,if_neg h3];by_cases h4 : op=4
 ·have hc:l.length=1:=by subst h4;have : cntN 4=(1,false):=rfl;rw[this] at hn;simp only[true_and] at hn;omega
  rw[if_pos h4,if_pos h4,z6 (by omega)]
 rw[if_neg h4,if_neg h4];by_cases h19 : op=19
 ·have hc:l.length=1:=by subst h19;have : cntN 19=(1,false):=rfl;rw[this] at hn;simp only[true_and] at hn;omega
  rw[if_pos h19,if_pos h19,z6 (by omega)]
 rw[if_neg h19,if_neg h19];by_cases h5 : op=5∨op=6∨op=7∨op=8∨op=9
 ·have hc:l.length=2:=by
   have : cntN op=(2,false):=by unfold cntN;rw[if_neg (by omega),if_neg (by omega),if_neg (by omega),if_neg (by omega)]
   rw[this] at hn;simp only[true_and] at hn;omega
  rw[if_pos (by omega),if_pos h5];unfold z8p zxt;rw[z8];split
  ·rw[z6 (by omega),z6 (by omega),z6 (by omega)]
  ·rfl
 rw[if_neg (by omega),if_neg h5];by_cases h10 : op=10
 ·have hc:l.length=2:=by subst h10;have : cntN 10=(2,false):=rfl;rw[this] at hn;simp only[true_and] at hn;omega
  have a0:=ht 0 (by omega);have a1:=ht 1 (by omega);rw[if_pos h10,if_pos h10];split
  ·rw[z6 (by omega),z6 (by omega),z1j (by omega)];by_cases hs : (l.getD 0 z7).s.size+(l.getD 1 z7).s.size≤100
   ·rw[if_pos (by rw[decide_eq_true_eq];omega),if_pos hs,z6 (by omega),z6 (by omega),z6 (by omega)]
   ·rw[if_neg (by rw[decide_eq_true_eq];omega),if_neg hs]
  ·rfl
 rw[if_neg h10,if_neg h10];by_cases h11 : op=11∨op=12∨op=13∨op=14∨op=15∨op=16
 ·have hc:l.length=2:=by
   have : cntN op=(2,false):=by unfold cntN;rw[if_neg (by omega),if_neg (by omega),if_neg (by omega),if_neg (by omega)]
   rw[this] at hn;simp only[true_and] at hn;omega
  rw[if_pos (by omega),if_pos h11];unfold z6x;rw[z6 (by omega),z6 (by omega),z6 (by omega)]
 rw[if_neg (by omega),if_neg h11];by_cases h17 : op=17
 ·have hc:l.length=2:=by subst h17;have : cntN 17=(2,false):=rfl;rw[this] at hn;simp only[true_and] at hn;omega
  rw[if_pos h17,if_pos h17,z6 (by omega),z6 (by omega),z6 hvA];unfold zxu;rw[hfA]
 rw[if_neg h17,if_neg h17];by_cases h18 : op=18
 ·have hc:l.length=2:=by subst h18;have : cntN 18=(2,false):=rfl;rw[this] at hn;simp only[true_and] at hn;omega
  rw[if_pos h18,if_pos h18,z6 (by omega),z6 (by omega),z6 hvO];unfold zxv;rw[hfO]
 rw[if_neg h18,if_neg h18];by_cases h20 : op=20
 ·have hc:l.length=2:=by subst h20;have : cntN 20=(2,false):=rfl;rw[this] at hn;simp only[true_and] at hn;omega
  have a0:=ht 0 (by omega);have a1:=ht 1 (by omega);rw[if_pos h20,if_pos h20];split
  ·rw[z6 (by omega),z6 (by omega),z6 a0,z6 a1]
  ·rfl
 rw[if_neg h20,if_neg h20];by_cases h21 : op=21
 ·have hc:2≤l.length:=by subst h21;have : cntN 21=(2,true):=rfl;rw[this] at hn;simp only[true_and] at hn;omega
  rw[if_pos h21,if_pos h21]
  repeat rw[z6 (by first | omega | (rw[yx];omega))]
 rw[if_neg h21,if_neg h21];by_cases h22 : op=22
 ·have hc:l.length=3:=by subst h22;have : cntN 22=(3,false):=rfl;rw[this] at hn;simp only[true_and] at hn;omega
  rw[if_pos h22,if_pos h22,z6 (by omega),z6 (by omega),z6 (by omega),z6 (by omega),z6 (by omega)];refine (z6 (by first | exact hvA | omega)).trans ?_
  try refine (z6 (by first | exact hvA | omega)).trans ?_
  unfold zxw;rw[hfA]
 rw[if_neg h22,if_neg h22];by_cases h23 : op=23
 ·rw[if_pos h23,if_pos h23]
 rw[if_neg h23,if_neg h23];by_cases h24 : op=24
 ·rw[if_pos h24,if_pos h24,z6 h]
 rw[if_neg h24,if_neg h24]
theorem z1d5 (op:Int) (name:ByteArray) (l:List Val) (_ho:WI op) (_hn:WStr name) (_hl:WL .val l) (h:txts l) : zxx op name l=some (zys (zr op name l)):=by
 rw[z1ol];unfold zr zal;by_cases h1 : (l.length:Int)<(cntN op).1
 ·rw[z8,if_pos (decide_eq_true h1),if_pos (.inl h1)]
 rw[z8,if_neg (by simpa using h1)];by_cases h2 : (cntN op).2=false∧(l.length:Int) > (cntN op).1
 ·rw[if_pos (.inr h2),h2.1,z8,if_pos (by decide),z8,if_pos (decide_eq_true h2.2)]
 ·rw[if_neg (fun e=>e.elim h1 h2),z19x op name l h (fun e=>e.elim h1 h2)];cases hm : (cntN op).2
  ·rw[z8,if_pos (by decide),z8,if_neg (fun e=>h2 ⟨hm,of_decide_eq_true e⟩)]
  ·rfl
def zom : FnC Un:=fnF3 (dI .i64) dStr (dL .val) fun op name l=>([txts l],zys (zr op name l))
theorem zxy : FnOK 120 zom:=fnK3 z1c z43 z10 (M:=z11i) rfl ⟨z1ok,z1o9,z1nt,z11c,zit,z2bu,zn9,zs7,z1yo,z19u,zrc,z1ss,z1yl,z1ob,z1od,z1j3,trivial⟩ ⟨z27i,z2by,trivial⟩ trivial trivial trivial Tryz.func120 fun op name l=>GiF.r fun w o=>z1d5 op name l (wfA_ w 0) (wfA_ w 1) (wfA_ w 2) (obA_ o 0)
end
end B
namespace B
open Go Go.RowKit
set_option maxRecDepth 100000
noncomputable section
attribute [local irreducible] awp ctxK zu z1d retQ z1p awf ctxF z1o
def colV (depth at_:Int) (env:List (List Val)) : Val:=if 0≤depth∧depth<(env.length:Int)∧0≤at_∧at_<((env.getD depth.toNat []).length:Int) then (env.getD depth.toNat []).getD at_.toNat z7 else z7
mutual
def zxz (ap:Int→ByteArray→List Val→Val) (env:List (List Val)) : Term→Val
 | .mk op v depth at_ name kids _ _=>if op=1 then v else if op=2 then colV depth at_ env else if op=26∨op=27∨op=28 then z7 else ap op name (ziv ap env kids)
def ziv (ap:Int→ByteArray→List Val→Val) (env:List (List Val)) : List Term→List Val
 | []=>[]
 | t::l=>zxz ap env t::ziv ap env l
end
theorem z1j4 (ap:Int→ByteArray→List Val→Val) (env:List (List Val)) (t:Term) : zxz ap env t=if t.op=1 then t.v else if t.op=2 then colV t.depth t.at_ env else if t.op=26∨t.op=27∨t.op=28 then z7 else ap t.op t.name (ziv ap env t.kids):=by cases t;simp only[zxz];rfl
theorem z13x (ap:Int→ByteArray→List Val→Val) (env:List (List Val)) : ∀ l : List Term,ziv ap env l=l.map (zxz ap env)
 | []=>rfl
 | t::l=>by simp only[ziv,yu,z13x ap env l]
end
end B
end Go.Proofs.YtjfpbchdcbhfgaaGreat
