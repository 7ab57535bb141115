/- Part 11 of the proof: Snum2 Stri Sdeqp Shelf Lindexb Slike1 Svals Svbool Lscal Lscal2. -/
import Derived.Shelf.Small.Strs
import Derived.Shelf.Small.Wraps
import Derived.Shelf.Strings.Search1
import Derived.Shelf.GgClosure.StringsIndexFunc
import Derived.Ground.GgwProg
import Derived.Shelf.GgClosure.StringsIndexFuncTop
import Derived.Shelf.GgClosure.StringsRunes
import Derived.Shelf.Strings.FuncGrows
import Derived.Shelf.Slices.Turned
import Derived.Ground.Names2Prog
import Derived.Shelf.Slices.SearchI
import Derived.Test.YtjfpbchdcbhfgaaGreatProg
import Derived.MapKept
import Derived.Carry
import Derived.Test.YtjfpbchdcbhfgaaGreatNgr10
set_option linter.unusedVariables false
set_option linter.unusedSimpArgs false
namespace Go.Proofs.YtjfpbchdcbhfgaaGreat.B
open Go Go.RowKit
set_option maxRecDepth 100000
noncomputable section
attribute [local irreducible] awp ctxK zx z1f retQ z1l awf ctxF z1k
def z1lj:Mc Un:=mcF_ [(211,zbj)] [] [] [] []
def z1do(a:Int)(b:Int)(n:Int):Option (RF Un):=fnF_ z1lj z23b Tryz.f233 0 [.d,.d] [.d (.v (.s (.int .i64 a))),.d (.v (.s (.int .i64 b))),.d (.v (.s (.int .i64 n)))]
theorem z24l(a:Int)(b:Int)(n:Int):z1do a b n=cndO (!z1q a) (some (zl1 ((0:Int),false))) (cndO (!z1q b) (some (zl1 ((0:Int),false))) (cndO (!z1q n) (some (zl1 ((0:Int),false))) (some (zl1 (n,true))))):=by kernel_rfl
def z3j(a:Int)(b:Int)(n:Int):Int×Bool:=
  if(!z1q a)=true then
   ((0:Int),false)
  else
   if(!z1q b)=true then
    ((0:Int),false)
   else
    if(!z1q n)=true then
     ((0:Int),false)
    else
     (n,true)
theorem z24m(a:Int)(b:Int)(n:Int):z1do a b n=some (zl1 (z3j a b n)):=by grind[z24l,z3j,z8]
def zgi:FnC Un:=fnF3 (dI .i64) (dI .i64) (dI .i64) fun a b n=>([],zl1 (z3j a b n))
theorem zhs:FnOK 233 zgi:=fnK3 z1a z1a z1a (M:=z1lj) rfl ⟨zb1,trivial⟩ trivial trivial trivial trivial Tryz.func233 fun a b n=>GiF.r fun _ _=>z24m a b n
def z1tj:Mc Un:=mcF_ [(211,zbj),(233,zgi)] [] [] [] []
def z1lk(a:Int)(b:Int):Option (RF Un):=fnF_ z1tj z23b Tryz.f202 0 [.d,.d] [.d (.v (.s (.int .i64 a))),.d (.v (.s (.int .i64 b)))]
theorem z28j(a:Int)(b:Int):z1lk a b=cndO (!z1q a) (some (zl1 ((0:Int),false))) (cndO (!z1q b) (some (zl1 ((0:Int),false))) (some (zl1 ((z3j a b (IntKind.i64.wrap (a+b))).fst,(z3j a b (IntKind.i64.wrap (a+b))).snd)))):=by kernel_rfl
def zzg(a:Int)(b:Int):Int×Bool:=
  if(!z1q a)=true then
   ((0:Int),false)
  else
   if(!z1q b)=true then
    ((0:Int),false)
   else
    ((z3j a b (IntKind.i64.wrap (a+b))).fst,(z3j a b (IntKind.i64.wrap (a+b))).snd)
theorem z28k(a:Int)(b:Int):z1lk a b=some (zl1 (zzg a b)):=by grind[z28j,zzg,z8]
def z2cc:FnC Un:=fnF2 (dI .i64) (dI .i64) fun a b=>([],zl1 (zzg a b))
theorem z28l:FnOK 202 z2cc:=fnK2 z1a z1a (M:=z1tj) rfl ⟨zb1,zhs,trivial⟩ trivial trivial trivial trivial Tryz.func202 fun a b=>GiF.r fun _ _=>z28k a b
def z1ll(a:Int)(b:Int):Option (RF Un):=fnF_ z1tj z23b Tryz.f201 0 [.d,.d] [.d (.v (.s (.int .i64 a))),.d (.v (.s (.int .i64 b)))]
theorem z28m(a:Int)(b:Int):z1ll a b=cndO (!z1q a) (some (zl1 ((0:Int),false))) (cndO (!z1q b) (some (zl1 ((0:Int),false))) (some (zl1 ((z3j a b (IntKind.i64.wrap (a- b))).fst,(z3j a b (IntKind.i64.wrap (a- b))).snd)))):=by kernel_rfl
def zgj(a:Int)(b:Int):Int×Bool:=
  if(!z1q a)=true then
   ((0:Int),false)
  else
   if(!z1q b)=true then
    ((0:Int),false)
   else
    ((z3j a b (IntKind.i64.wrap (a- b))).fst,(z3j a b (IntKind.i64.wrap (a- b))).snd)
theorem z28n(a:Int)(b:Int):z1ll a b=some (zl1 (zgj a b)):=by grind[z28m,zgj,z8]
def z1tl:FnC Un:=fnF2 (dI .i64) (dI .i64) fun a b=>([],zl1 (zgj a b))
theorem z1lm:FnOK 201 z1tl:=fnK2 z1a z1a (M:=z1tj) rfl ⟨zb1,zhs,trivial⟩ trivial trivial trivial trivial Tryz.func201 fun a b=>GiF.r fun _ _=>z28n a b
def z1tm:Mc Un:=mcF_ [(201,z1tl)] [] [] [] []
def z1ln(a:Int):Option (RF Un):=fnF_ z1tm z23b Tryz.f159 0 [.d,.d] [.d (.v (.s (.int .i64 a)))]
theorem z28o(a:Int):z1ln a=some (zl1 ((zgj (0:Int) a).fst,(zgj (0:Int) a).snd)):=by kernel_rfl
def zcn(a:Int):Int×Bool:=
 ((zgj (0:Int) a).fst,(zgj (0:Int) a).snd)
theorem z28p(a:Int):z1ln a=some (zl1 (zcn a)):=by simp[z28o,zcn,z8]
def z17v:FnC Un:=fnF1 (dI .i64) fun a=>([],zl1 (zcn a))
theorem z1lo:FnOK 159 z17v:=fnK1 z1a (M:=z1tm) rfl ⟨z1lm,trivial⟩ trivial trivial trivial trivial Tryz.func159 fun a=>GiF.r fun _ _=>z28p a
def z1lp(a:Int)(b:Int):Option (RF Un):=fnF_ z1tj z23b Tryz.f203 0 [.d,.d] [.d (.v (.s (.int .i64 a))),.d (.v (.s (.int .i64 b)))]
theorem z28q(a:Int)(b:Int):z1lp a b=cndO (!z1q a) (some (zl1 ((0:Int),false))) (cndO (!z1q b) (some (zl1 ((0:Int),false))) (cndO (a==0) (some (zl1 ((0:Int),true))) (cndO (b==0) (some (zl1 ((0:Int),true))) (obO (¬List.foldl (fun a b=>if a<b then b else a) b [IntKind.i64.wrap ((0:Int)- b)]=0) (cndO (decide (List.foldl (fun a b=>if a<b then b else a) a [IntKind.i64.wrap ((0:Int)- a)]>IntKind.i64.wrap (Int.tdiv (1000000000000000:Int) (List.foldl (fun a b=>if a<b then b else a) b [IntKind.i64.wrap ((0:Int)- b)])))) (some (zl1 ((0:Int),false))) (some (zl1 ((z3j a b (IntKind.i64.wrap (a*b))).fst,(z3j a b (IntKind.i64.wrap (a*b))).snd)))))))):=by kernel_rfl
def mxI(a:Int):Int:=List.foldl (fun a b=>if a<b then b else a) a [IntKind.i64.wrap ((0:Int)- a)]
def zzh(a b:Int):Int×Bool:=
 if z1q a=true then(if z1q b=true then(if a=0 then(0,true)else if b=0 then(0,true)else if mxI a>IntKind.i64.wrap (Int.tdiv 1000000000000000 (mxI b))then(0,false)else z3j a b (IntKind.i64.wrap (a*b)))else(0,false))else(0,false)
theorem z2hy(n:Int):inN n=true↔-1000000000000000≤n∧n≤1000000000000000:=by unfold inN;simp
theorem z205(a b:Int)(_ha:WI a)(_hb:WI b):z1lp a b=some (zl1 (zzh a b)):=by
 rw[z28q];unfold zzh;simp only[z8,y20,beq_iff_eq,decide_eq_true_eq];by_cases h1:z1q a=true
 ·by_cases h2:z1q b=true
  ·rw[if_neg (by grind),if_neg (by grind),if_pos h1,if_pos h2];by_cases h3:a=0
   ·grind
   ·by_cases h4:b=0
    ·grind
    ·have hb:=h2;rw[zx2,z2hy]at hb;have hm:mxI b≠0:=by
      unfold mxI;simp;rw[z1u (by omega)];split<;>omega
     rw[if_neg h3,if_neg h4,if_neg h3,if_neg h4];refine(z6 hm).trans ?_;show(if mxI a>IntKind.i64.wrap (Int.tdiv 1000000000000000 (mxI b))then _ else _)=_;grind
  grind
 grind
def z2cg:FnC Un:=fnF2 (dI .i64) (dI .i64) fun a b=>([],zl1 (zzh a b))
theorem z28r:FnOK 203 z2cg:=fnK2 z1a z1a (M:=z1tj) rfl ⟨zb1,zhs,trivial⟩ trivial trivial trivial trivial Tryz.func203 fun a b=>GiF.r fun w _=>z205 a b (wfA_ w 0) (wfA_ w 1)
def z1lq(a:Int)(b:Int):Option (RF Un):=fnF_ z1tj z23b Tryz.f204 0 [.d,.d] [.d (.v (.s (.int .i64 a))),.d (.v (.s (.int .i64 b)))]
theorem z28s(a:Int)(b:Int):z1lq a b=cndO (!z1q a) (some (zl1 ((0:Int),false))) (cndO (!z1q b) (some (zl1 ((0:Int),false))) (cndO (b==0) (some (zl1 ((0:Int),false))) (obO (¬b=0) (some (zl1 ((z3j a b (IntKind.i64.wrap (a.tdiv b))).fst,(z3j a b (IntKind.i64.wrap (a.tdiv b))).snd)))))):=by kernel_rfl
def zzi(a b:Int):Int×Bool:=
 if z1q a=true then(if z1q b=true then(if b=0 then(0,false)else z3j a b (IntKind.i64.wrap (a.tdiv b)))else(0,false))else(0,false)
theorem z206(a b:Int)(_ha:WI a)(_hb:WI b):z1lq a b=some (zl1 (zzi a b)):=by
 rw[z28s];unfold zzi;simp only[z8,y20,beq_iff_eq];by_cases h1:z1q a=true
 ·by_cases h2:z1q b=true
  ·by_cases h3:b=0
   all_goals simp_all[if_neg,if_pos,z6]
  grind
 grind
def z2ci:FnC Un:=fnF2 (dI .i64) (dI .i64) fun a b=>([],zl1 (zzi a b))
theorem z28t:FnOK 204 z2ci:=fnK2 z1a z1a (M:=z1tj) rfl ⟨zb1,zhs,trivial⟩ trivial trivial trivial trivial Tryz.func204 fun a b=>GiF.r fun w _=>z206 a b (wfA_ w 0) (wfA_ w 1)
def z1lr(a:Int)(b:Int):Option (RF Un):=fnF_ z1tj z23b Tryz.f205 0 [.d,.d] [.d (.v (.s (.int .i64 a))),.d (.v (.s (.int .i64 b)))]
theorem z28u(a:Int)(b:Int):z1lr a b=cndO (!z1q a) (some (zl1 ((0:Int),false))) (cndO (!z1q b) (some (zl1 ((0:Int),false))) (cndO (b==0) (some (zl1 ((0:Int),false))) (obO (¬b=0) (some (zl1 ((z3j a b (a.tmod b)).fst,(z3j a b (a.tmod b)).snd)))))):=by kernel_rfl
def zzj(a b:Int):Int×Bool:=
 if z1q a=true then(if z1q b=true then(if b=0 then(0,false)else z3j a b (a.tmod b))else(0,false))else(0,false)
theorem z207(a b:Int)(_ha:WI a)(_hb:WI b):z1lr a b=some (zl1 (zzj a b)):=by
 rw[z28u];unfold zzj;simp only[z8,y20,beq_iff_eq];by_cases h1:z1q a=true
 ·by_cases h2:z1q b=true
  ·by_cases h3:b=0
   all_goals simp_all[if_neg,if_pos,z6]
  grind
 grind
def z2ck:FnC Un:=fnF2 (dI .i64) (dI .i64) fun a b=>([],zl1 (zzj a b))
theorem z28v:FnOK 205 z2ck:=fnK2 z1a z1a (M:=z1tj) rfl ⟨zb1,zhs,trivial⟩ trivial trivial trivial trivial Tryz.func205 fun a b=>GiF.r fun w _=>z207 a b (wfA_ w 0) (wfA_ w 1)
end
end Go.Proofs.YtjfpbchdcbhfgaaGreat.B
namespace Go.Proofs.YtjfpbchdcbhfgaaGreat.B
open Go Go.RowKit
set_option maxRecDepth 100000
noncomputable section
attribute [local irreducible] awp ctxK zx z1f retQ z1l awf ctxF z1k
def z1tq(a:Int):Option (RF Un):=fnF_ z1bz z23b Tryz.f232 0 [.d] [.d (.v (.s (.int .i64 a)))]
theorem z2cl(a:Int):z1tq a=cndO (a==0) (some (z8z (true))) (cndO (a==1) (some (z8z (true))) (some (z8z (a==2)))):=by kernel_rfl
def z17w(a:Int):Bool:=
  if(a==(0:Int))=true then
   (true)
  else
   if(a==(1:Int))=true then
    (true)
   else
    (a==(2:Int))
theorem z2cm(a:Int):z1tq a=some (z8z (z17w a)):=by rw[z2cl];unfold z17w;simp only[z8];repeat(first|rfl|split)
def z209:FnC Un:=fnF1 (dI .i64) fun a=>([],z8z (z17w a))
theorem z2cn:FnOK 232 z209:=fnK1 z1a (M:=z1bz) rfl trivial trivial trivial trivial trivial Tryz.func232 fun a=>GiF.r fun _ _=>z2cm a
def z1tr:Mc Un:=mcF_ [(232,z209)] [] [] [] []
def z1ls(a:Int):Option (RF Un):=fnF_ z1tr z23b Tryz.f198 0 [.d] [.d (.v (.s (.int .i64 a)))]
theorem z28w(a:Int):z1ls a=cndO (z17w a) (some (z2e (a))) (some (z2e ((1:Int)))):=by kernel_rfl
def z5z(a:Int):Int:=
  if(z17w a)=true then
   (a)
  else
   ((1:Int))
theorem z28x(a:Int):z1ls a=some (z2e (z5z a)):=by rw[z28w];unfold z5z;simp only[z8];repeat(first|rfl|split)
def zfl:FnC Un:=fnF1 (dI .i64) fun a=>([],z2e (z5z a))
theorem zs2:FnOK 198 zfl:=fnK1 z1a (M:=z1tr) rfl ⟨z2cn,trivial⟩ trivial trivial trivial trivial Tryz.func198 fun a=>GiF.r fun _ _=>z28x a
def z1ts(b:Bool):Option (RF Un):=fnF_ z1bz z23b Tryz.f154 0 [.d] [.d (.v (cb b))]
theorem z2cp(b:Bool):z1ts b=cndO (b) (some (z2e ((2:Int)))) (some (z2e ((0:Int)))):=by kernel_rfl
def zpu(b:Bool):Int:=
  if(b)=true then
   ((2:Int))
  else
   ((0:Int))
theorem z2cq(b:Bool):z1ts b=some (z2e (zpu b)):=by rw[z2cp];unfold zpu;simp only[z8];repeat(first|rfl|split)
def z1gs:FnC Un:=fnF1 dB fun b=>([],z2e (zpu b))
theorem z1tt:FnOK 154 z1gs:=fnK1 z1iu (M:=z1bz) rfl trivial trivial trivial trivial trivial Tryz.func154 fun b=>GiF.r fun _ _=>z2cq b
def z1tu:Mc Un:=mcF_ [(198,zfl)] [] [] [] []
def z1lt(a:Int):Option (RF Un):=fnF_ z1tu z23b Tryz.f160 0 [.d] [.d (.v (.s (.int .i64 a)))]
theorem z28y(a:Int):z1lt a=some (z2e (IntKind.i64.wrap ((2:Int)- z5z a))):=by kernel_rfl
def zzk(a:Int):Int:=
 (IntKind.i64.wrap ((2:Int)- z5z a))
theorem z28z(a:Int):z1lt a=some (z2e (zzk a)):=by rw[z28y];unfold zzk;simp only[z8];repeat(first|rfl|split)
def z1tv:FnC Un:=fnF1 (dI .i64) fun a=>([],z2e (zzk a))
theorem z290:FnOK 160 z1tv:=fnK1 z1a (M:=z1tu) rfl ⟨zs2,trivial⟩ trivial trivial trivial trivial Tryz.func160 fun a=>GiF.r fun _ _=>z28z a
def z1lu(a:Int)(b:Int):Option (RF Un):=fnF_ z1tu z23b Tryz.f166 0 [.d] [.d (.v (.s (.int .i64 a))),.d (.v (.s (.int .i64 b)))]
theorem z291(a:Int)(b:Int):z1lu a b=some (z17t (List.foldl (fun a b=>if b<a then b else a) (z5z a) [z5z b])):=by kernel_rfl
def zjt(a:Int)(b:Int):Int:=
 (List.foldl (fun a b=>if b<a then b else a) (z5z a) [z5z b])
theorem z292(a:Int)(b:Int):z1lu a b=some (z17t (zjt a b)):=by rw[z291];unfold zjt;simp only[z8];repeat(first|rfl|split)
def zvq:FnC Un:=fun args=>match args with
 |[x0,x1]=>(dI .i64 x0).bind fun a=>(dI .i64 x1).bind fun b=>some ([],zac (zjt a b),zad (zjt a b))
 |_=>none
theorem z293:FnOK 166 zvq:=by
 intro args ob rs os h hob;unfold zvq at h;split at h
 ·simp only[y7,y8,ym]at h;obtain⟨a,e0,b,e1,rfl,rfl,rfl⟩:=h;obtain rfl:=z1a e0;obtain rfl:=z1a e1;exact⟨z2f (M:=z1tu) rfl (z4o (l1:=[(198,zfl)]) (l2:=[]) (l3:=[]) (l4:=[]) (l5:=[]) ⟨zs2,trivial⟩ trivial trivial trivial trivial) Tryz.func166 (by kernel_rfl) z23b 0 [.d] (fun hwf=>(z292 a b)),zj Tryz.func166 (by kernel_rfl) (by kernel_rfl)⟩
 ·simp at h
def z1u1(a:Int)(b:Int):Option (RF Un):=fnF_ z1tu z23b Tryz.f153 0 [.d] [.d (.v (.s (.int .i64 a))),.d (.v (.s (.int .i64 b)))]
theorem z2cs(a:Int)(b:Int):z1u1 a b=some (z17t (List.foldl (fun a b=>if a<b then b else a) (z5z a) [z5z b])):=by kernel_rfl
def z8p(a:Int)(b:Int):Int:=
 (List.foldl (fun a b=>if a<b then b else a) (z5z a) [z5z b])
theorem z2ct(a:Int)(b:Int):z1u1 a b=some (z17t (z8p a b)):=by rw[z2cs];unfold z8p;simp only[z8];repeat(first|rfl|split)
def zn1:FnC Un:=fun args=>match args with
 |[x0,x1]=>(dI .i64 x0).bind fun a=>(dI .i64 x1).bind fun b=>some ([],zac (z8p a b),zad (z8p a b))
 |_=>none
theorem z17y:FnOK 153 zn1:=by
 intro args ob rs os h hob;unfold zn1 at h;split at h
 ·simp only[y7,y8,ym]at h;obtain⟨a,e0,b,e1,rfl,rfl,rfl⟩:=h;obtain rfl:=z1a e0;obtain rfl:=z1a e1;exact⟨z2f (M:=z1tu) rfl (z4o (l1:=[(198,zfl)]) (l2:=[]) (l3:=[]) (l4:=[]) (l5:=[]) ⟨zs2,trivial⟩ trivial trivial trivial trivial) Tryz.func153 (by kernel_rfl) z23b 0 [.d] (fun hwf=>(z2ct a b)),zj Tryz.func153 (by kernel_rfl) (by kernel_rfl)⟩
 ·simp at h
def z6y:FV Un:=z1h (fun a b=>zjt a b)
theorem z24n:FvOK 166 z6y:=by
 refine⟨zj Tryz.func166 (by kernel_rfl) (by kernel_rfl),fun args ob rs h hob=>?_⟩;unfold z6y z1h at h;split at h
 ·simp only[y7,y8,ym]at h;obtain⟨a,e0,b,e1,rfl,rfl⟩:=h;simp only[yr,y1m];rw[z1a e0];rw[z1a e1];refine Contract.data (z293 _ ([]) _ _ (?_:zvq _=some _) (by simp)).1;unfold zvq;simp only[z1iv];rfl
 ·simp at h
def zdd:FV Un:=z1h (fun a b=>z8p a b)
theorem z294:FvOK 153 zdd:=by
 refine⟨zj Tryz.func153 (by kernel_rfl) (by kernel_rfl),fun args ob rs h hob=>?_⟩;unfold zdd z1h at h;split at h
 ·simp only[y7,y8,ym]at h;obtain⟨a,e0,b,e1,rfl,rfl⟩:=h;simp only[yr,y1m];rw[z1a e0];rw[z1a e1];refine Contract.data (z17y _ ([]) _ _ (?_:zn1 _=some _) (by simp)).1;unfold zn1;simp only[z1iv];rfl
 ·simp at h
def z17z(a:Int):Option (RF Un):=fnF_ z1tu z23b Tryz.f155 0 [.d] [.d (.v (.s (.int .i64 a)))]
theorem z20g(a:Int):z17z a=cndO (z5z a==0) (some (zx1 ({kind:=(1:Int),n:=(0:Int),s:=(ByteArray.mk #[])}))) (cndO (z5z a==2) (some (zx1 ({kind:=(1:Int),n:=(1:Int),s:=(ByteArray.mk #[])}))) (some (zx1 (z7)))):=by kernel_rfl
def z60(a:Int):Val:=
  if(z5z a==(0:Int))=true then
   ({kind:=(1:Int),n:=(0:Int),s:=(ByteArray.mk #[])})
  else
   if(z5z a==(2:Int))=true then
    ({kind:=(1:Int),n:=(1:Int),s:=(ByteArray.mk #[])})
   else
    (z7)
theorem z20h(a:Int):z17z a=some (zx1 (z60 a)):=by rw[z20g];unfold z60;simp only[z8];repeat(first|rfl|split)
def zeb:FnC Un:=fnF1 (dI .i64) fun a=>([],zx1 (z60 a))
theorem zlr:FnOK 155 zeb:=fnK1 z1a (M:=z1tu) rfl ⟨zs2,trivial⟩ trivial trivial trivial trivial Tryz.func155 fun a=>GiF.r fun _ _=>z20h a
def z1lv:Mc Un:=mcF_ [(154,z1gs)] [] [] [] []
def z1dq(v:Val):Option (RF Un):=fnF_ z1lv z23b Tryz.f161 0 [.d] [.d (.agg (enc Ty.val v))]
theorem z24p(v:Val):z1dq v=cndO (v.kind !=1) (some (z2e ((1:Int)))) (some (z2e (zpu (v.n !=0)))):=by kernel_rfl
def z3v(v:Val):Int:=
  if(v.kind !=(1:Int))=true then
   ((1:Int))
  else
   (zpu (v.n !=(0:Int)))
theorem z24q(v:Val):z1dq v=some (z2e (z3v v)):=by rw[z24p];unfold z3v;simp only[z8];repeat(first|rfl|split)
def zde:FnC Un:=fnF1 (dS .val) fun v=>([],z2e (z3v v))
theorem zhu:FnOK 161 zde:=fnK1 zr (M:=z1lv) rfl ⟨z1tt,trivial⟩ trivial trivial trivial trivial Tryz.func161 fun v=>GiF.r fun _ _=>z24q v
def zvr:Mc Un:=mcF_ [(153,zn1)] [] [] [] []
def z181:Nat→NS:=nsF_ [(3,{ts:=bl 17 456,bs:=bl 17 0,nm:=[]})] false
def zgk(l:List Int)(v0:Int)(v1:Int):S Un:=(st 17 17 68 0 [(3,ai v0),(6,al .int l),(7,ai (↑l.length:Int)),(8,ai v1)] [] [])
def zs4:S Un→Option (EX Un):=lpF_ zvr z181 Tryz.f208 [1,1,0,1,2,2] 3
def z1lw:Exit→S Un→Option (RF Un):=cxF_ zvr z181 Tryz.f208 [1,1,0,1,2] [.d]
def z1lx(l:List Int):Option (RF Un):=fnF_ zvr z181 Tryz.f208 0 [.d] [.d (.v (.dat (U:=Un) Ty.int l))]
theorem z296(l:List Int):z1lx l=(zs4 (zgk l (0:Int) (0:Int))).bind (ze z1lw):=by kernel_rfl
theorem z1ly(l:List Int)(v0:Int)(v1:Int):zs4 (zgk l v0 v1)=cndO (decide (v1<(↑l.length:Int))) (obO (0≤v1∧v1<(↑l.length:Int)) (zs4 (zgk l (z8p v0 (l.getD v1.toNat (0:Int))) (IntKind.i64.wrap (v1+1))))) (some (.exit 0,(zgk l v0 v1))):=lpQ_ (by kernel_rfl)
theorem z1w0(l:List Int)(v0:Int)(v1:Int):z1lw (.exit 0) (zgk l v0 v1)=some (z2e (v0)):=by kernel_rfl
def z1ad(l:List Int):Int:=l.foldl (fun m a=>z8p m a) 0
theorem z20i(l:List Int)(hl:WL .int l):z1lx l=some (z2e (z1ad l)):=by
 obtain⟨lp,_⟩:=z1p (e:=.exit 0) (L:=zs4) (st:=fun(m:Int) i=>zgk l m i) (l:=l) (d:=0) (g:=fun m a=>z8p m a) (fun _ _=>True) hl.len
  (fun m i x hi hx _=>by
   refine⟨trivial,?_⟩;rw[z1ly];simp only[z8,hi,decide_true,if_true,and_true,y5,hx]
   rw[z6 (by omega)])
  (fun m _=>by rw[z1ly];simp[z8]) 0 trivial
 rw[z296,zg lp,z1w0];rfl
def z1u2:FnC Un:=fnF1 (dL .int) fun l=>([],z2e (z1ad l))
theorem z297:FnOK 208 z1u2:=fnK1 z11 (M:=zvr) rfl ⟨z17y,trivial⟩ trivial trivial trivial trivial Tryz.func208 fun l=>GiF.r fun w _=>z20i l (wfA_ w 0)
end
end Go.Proofs.YtjfpbchdcbhfgaaGreat.B
namespace Go.Proofs.YtjfpbchdcbhfgaaGreat.B
open Go Go.RowKit
set_option maxRecDepth 100000
noncomputable section
attribute [local irreducible] awp ctxK zx z1f retQ z1l awf ctxF z1k
noncomputable def deq{α:Type}(a b:α):Bool:=@decide (a=b) (Classical.propDecidable _)
end
end Go.Proofs.YtjfpbchdcbhfgaaGreat.B
namespace Go.Proofs
open Go.Shelf
def Tryz.lays106_ren:Go.Shelf.Ren:=⟨fun|106=>194|213=>229|265=>245|n=>n,fun|9=>9|3=>3|n=>n,fun|n=>n⟩
theorem Tryz.lays106:Go.Proofs.Lays.n106 Tryz.prog Tryz.lays106_ren:={
  mixed:=by kernel_rfl
  f106:=Tryz.func194.trans (congrArg some (by kernel_rfl))
  f213:=Tryz.func229.trans (congrArg some (by kernel_rfl))
  f265:=Tryz.func245.trans (congrArg some (by kernel_rfl))
  t3:=Tryz.underlying3
  a3:=Tryz.isAgg3
  z3:=Tryz.sizeOf3
  v3:=Tryz.zeroValue3
  t9:=Tryz.underlying9
  a9:=Tryz.isAgg9
  z9:=Tryz.sizeOf9
  v9:=Tryz.zeroValue9}
open Go.RowKit in
theorem Tryz.strings_Compare(a b:ByteArray)(w:World):
  Calls Tryz.prog 194 #[.string a,.string b] w fun e w'=>e=.returned (.int .i64 (Lib.compareBytes a.data.toList b.data.toList))∧w'=w:=Any.strings_Compare Tryz.lays106 a b w
def Tryz.lays137_ren:Go.Shelf.Ren:=⟨fun|137=>235|217=>246|266=>251|n=>n,fun|9=>9|5=>5|3=>3|n=>n,fun|n=>n⟩
theorem Tryz.lays137:Go.Proofs.Lays.n137 Tryz.prog Tryz.lays137_ren:={
  mixed:=by kernel_rfl
  f137:=Tryz.func235.trans (congrArg some (by kernel_rfl))
  f217:=Tryz.func246.trans (congrArg some (by kernel_rfl))
  f266:=Tryz.func251.trans (congrArg some (by kernel_rfl))
  t3:=Tryz.underlying3
  a3:=Tryz.isAgg3
  z3:=Tryz.sizeOf3
  v3:=Tryz.zeroValue3
  t5:=Tryz.underlying5
  a5:=Tryz.isAgg5
  z5:=Tryz.sizeOf5
  v5:=Tryz.zeroValue5
  t9:=Tryz.underlying9
  a9:=Tryz.isAgg9
  z9:=Tryz.sizeOf9
  v9:=Tryz.zeroValue9}
open Go.RowKit in
theorem Tryz.strings_IndexByte(s:ByteArray)(c:Int)(w:World):
  Calls Tryz.prog 235 #[.string s,.int .u8 c] w fun e w'=>e=.returned (.int .i64 (Lib.indexByte s.data.toList c.toNat.toUInt8))∧w'=w:=Any.strings_IndexByte Tryz.lays137 s c w
def Tryz.laysGw15_ren:Go.Shelf.Ren:=⟨fun|15=>247|20=>252|n=>n,fun|9=>9|23=>221|3=>3|4=>4|0=>0|21=>21|n=>n,fun|n=>n⟩
theorem Tryz.laysGw15:Go.Proofs.LaysGw.n15 Tryz.prog Tryz.laysGw15_ren:={
  mixed:=by kernel_rfl
  f15:=Tryz.func247.trans (congrArg some (by kernel_rfl))
  f20:=Tryz.func252.trans (congrArg some (by kernel_rfl))
  t0:=Tryz.underlying0
  a0:=Tryz.isAgg0
  z0:=Tryz.sizeOf0
  v0:=Tryz.zeroValue0
  i0:=by kernel_rfl
  t3:=Tryz.underlying3
  a3:=Tryz.isAgg3
  z3:=Tryz.sizeOf3
  v3:=Tryz.zeroValue3
  i3:=by kernel_rfl
  t4:=Tryz.underlying4
  a4:=Tryz.isAgg4
  z4:=Tryz.sizeOf4
  v4:=Tryz.zeroValue4
  i4:=by kernel_rfl
  t9:=Tryz.underlying9
  a9:=Tryz.isAgg9
  z9:=Tryz.sizeOf9
  v9:=Tryz.zeroValue9
  i9:=by kernel_rfl
  t21:=Tryz.underlying21
  a21:=Tryz.isAgg21
  z21:=Tryz.sizeOf21
  v21:=Tryz.zeroValue21
  i21:=by kernel_rfl
  t23:=Tryz.underlying221
  a23:=Tryz.isAgg221
  z23:=Tryz.sizeOf221
  v23:=Tryz.zeroValue221
  i23:=by kernel_rfl}
open Go.RowKit Go.Lib in
theorem Tryz.strings_IndexFunc(g:Nat)(lb:Array Value)(eg:∀args w,(callFunc g args).run Tryz.prog w=.ok (.enter g args) w)(p:Nat→Bool)(s:ByteArray)(w:World)(hp:PredAt Tryz.prog g lb encR p w):
  Calls Tryz.prog 247 #[.string s,.func (.func g) #[] lb] w fun e w'=>e=.returned (.int .i64 (Lib.idxFunc p true s))∧Below w.heap.size w w':=Any.strings_IndexFunc Tryz.laysGw15 g lb eg p s w hp
def Tryz.lays107_ren:Go.Shelf.Ren:=⟨fun|107=>206|108=>234|n=>n,fun|28=>42|3=>3|4=>4|0=>0|n=>n,fun|n=>n⟩
theorem Tryz.lays107:Go.Proofs.Lays.n107 Tryz.prog Tryz.lays107_ren:={
  mixed:=by kernel_rfl
  f107:=Tryz.func206.trans (congrArg some (by kernel_rfl))
  f108:=Tryz.func234.trans (congrArg some (by kernel_rfl))
  t0:=Tryz.underlying0
  a0:=Tryz.isAgg0
  z0:=Tryz.sizeOf0
  v0:=Tryz.zeroValue0
  t3:=Tryz.underlying3
  a3:=Tryz.isAgg3
  z3:=Tryz.sizeOf3
  v3:=Tryz.zeroValue3
  t4:=Tryz.underlying4
  a4:=Tryz.isAgg4
  z4:=Tryz.sizeOf4
  v4:=Tryz.zeroValue4
  t28:=Tryz.underlying42
  a28:=Tryz.isAgg42
  z28:=Tryz.sizeOf42
  v28:=Tryz.zeroValue42}
open Go.Lib in
theorem Tryz.slices_Contains_int(b off n c:Nat)(zs:List Int)(x:Int)(w:World)(hz:n≤zs.length)(hbig:n≤9223372036854775807)(hc:∀j,j<zs.length→w.cell? ⟨b,off+j,none⟩=some (.int .i64 (zs.getD j 0))):
  Calls Tryz.prog 206 #[.slice (some ⟨b,off,none⟩) n c,.int .i64 x] w fun e w'=>e=.returned (.bool ((zs.take n).contains x))∧w'=w:=Any.slices_Contains_int Tryz.lays107 b off n c zs x w hz hbig hc
end Go.Proofs
namespace Go.Proofs.YtjfpbchdcbhfgaaGreat.B
open Go Go.RowKit
set_option maxRecDepth 1000000
def idxB(s:ByteArray)(c:Int):Int:=Lib.indexByte s.data.toList c.toNat.toUInt8
theorem z182:∀(l:List UInt8)(c:UInt8),Lib.indexByte l c≤l.length
 |[],_=>by simp[Lib.indexByte]
 |b::l,c=>by
  have:=z182 l c;unfold Lib.indexByte;rw[yt]
  repeat' split
  all_goals omega
theorem z298(s:ByteArray)(c:Int): -1≤idxB s c∧idxB s c≤s.size:=by
 unfold idxB;have h1:=Lib.indexByte_ge s.data.toList c.toNat.toUInt8;have h2:=z182 s.data.toList c.toNat.toUInt8;rw[y1l]at h2;exact⟨h1,h2⟩
def zef:FnC Un:=fun args=>match args with
 |[x0,x1]=>(dStr x0).bind fun s=>(dI .u8 x1).bind fun c=>some ([],[.c (.s (.int .i64 (idxB s c)))],[])
 |_=>none
theorem z126:FnOK 235 zef:=by
 intro args ob rs os h hob;unfold zef at h;split at h
 ·rename_i x0 x1;simp only[y7,y8,ym]at h;obtain⟨s,e0,c,e1,rfl,rfl,rfl⟩:=h;obtain rfl:=z4l e0;obtain rfl:=z1a e1;refine⟨?_,zj Tryz.func235 (by kernel_rfl) (by kernel_rfl)⟩;have hx:=z298 s c;by_cases hr:s.size≤9223372036854775807
  ·refine zvk (oneC_i64.2 (by omega)) fun w vs St hvs=>?_
   match vs,hvs with
   |[v0,v1],⟨h0,h1,_⟩=>
    obtain⟨rfl,-⟩:=zts h0;obtain⟨rfl,-⟩:=ztt h1;exact Tryz.strings_IndexByte s c w
  ·intro w St vs hbd hvs hld
   match vs,hvs with
   |[v0,v1],⟨h0,h1,_⟩=>
    obtain⟨rfl,g0⟩:=zts h0;exact absurd g0 hr
 ·simp at h
end Go.Proofs.YtjfpbchdcbhfgaaGreat.B
namespace Go.Proofs.YtjfpbchdcbhfgaaGreat.B
open Go Go.RowKit
set_option maxRecDepth 100000
noncomputable section
attribute [local irreducible] awp ctxK zx z1f retQ z1l awf ctxF z1k
def zls:Mc Un:=mcF_ [(235,zef)] [] [] [] []
def zty(r:List Sign):RF Un:=([.c (.ob 0 0)],[⟨0,Ty.sign,r,none,true⟩])
def ztz:Nat→NS:=nsF_ [(3,{ts:=bl 66 25,bs:=bl 66 0,nm:=[(.sl 3,264)]})] false
def z2j(p:ByteArray)(v0:Int)(v1:List Sign):S Un:=(st 66 66 265 0 [(0,at_ p),(3,ao 264),(4,ai v0)] [] [(264,some ⟨(0:Nat),Ty.sign,v1,some (0:Nat),true⟩)])
def z5o:S Un→Option (EX Un):=lpF_ zls ztz Tryz.f207 [1,1,0,1,2,2] 3
def z13q:Exit→S Un→Option (RF Un):=cxF_ zls ztz Tryz.f207 [1,1,0,1,2] [.o]
def z13r(p:ByteArray):Option (RF Un):=fnF_ zls ztz Tryz.f207 1 [.o] [.d (.v (cs p))]
theorem z1w1(p:ByteArray):z13r p=(z5o (z2j p (0:Int) ([]))).bind (ze z13q):=by kernel_rfl
def zdv(p:ByteArray)(v0:Int)(v1:List Sign):Option (EX Un):=obO (0≤v0∧v0<(↑p.size:Int)) (obO ((v1.length+([{kind:=(0:Int),b:=(↑(p.toList.getD v0.toNat 0).toNat:Int)}]:List Sign).length)*(16:Nat)≤zi) (z5o (z2j p (IntKind.i64.wrap (v0+1)) (v1++[{kind:=(0:Int),b:=(↑(p.toList.getD v0.toNat 0).toNat:Int)}]))))
theorem z13s(p:ByteArray)(v0:Int)(v1:List Sign):z5o (z2j p v0 v1)=cndO (decide (v0<(↑p.size:Int))) (obO (0≤v0∧v0<(↑p.size:Int)) (cndO ((↑(p.toList.getD v0.toNat 0).toNat:Int)==(37:Int)) (obO ((v1.length+([{kind:=(2:Int),b:=(0:Int)}]:List Sign).length)*(16:Nat)≤zi) (z5o (z2j p (IntKind.i64.wrap (v0+1)) (v1++[{kind:=(2:Int),b:=(0:Int)}])))) (obO (0≤v0∧v0<(↑p.size:Int)) (cndO ((↑(p.toList.getD v0.toNat 0).toNat:Int)==(95:Int)) (obO ((v1.length+([{kind:=(1:Int),b:=(0:Int)}]:List Sign).length)*(16:Nat)≤zi) (z5o (z2j p (IntKind.i64.wrap (v0+1)) (v1++[{kind:=(1:Int),b:=(0:Int)}])))) (obO (0≤v0∧v0<(↑p.size:Int)) (cndO ((↑(p.toList.getD v0.toNat 0).toNat:Int)==(92:Int)) (cndO (decide (IntKind.i64.wrap (v0+1)<(↑p.size:Int))) (obO (0≤IntKind.i64.wrap (v0+1)∧IntKind.i64.wrap (v0+1)<(↑p.size:Int)) (cndO (decide (idxB (ByteArray.mk #[37,95,92]) (↑(p.toList.getD (IntKind.i64.wrap (v0+1)).toNat 0).toNat:Int)≥(0:Int))) (obO (0≤IntKind.i64.wrap (v0+1)∧IntKind.i64.wrap (v0+1)<(↑p.size:Int)) (obO ((v1.length+([{kind:=(0:Int),b:=(↑(p.toList.getD (IntKind.i64.wrap (v0+1)).toNat 0).toNat:Int)}]:List Sign).length)*(16:Nat)≤zi) (z5o (z2j p (IntKind.i64.wrap (IntKind.i64.wrap (v0+1)+1)) (v1++[{kind:=(0:Int),b:=(↑(p.toList.getD (IntKind.i64.wrap (v0+1)).toNat 0).toNat:Int)}]))))) (zdv p v0 v1))) (zdv p v0 v1)) (zdv p v0 v1))))))) (some (.exit 0,(z2j p v0 v1))):=lpQ_ (by kernel_rfl)
theorem z1gt(p:ByteArray)(v0:Int)(v1:List Sign):z13q (.exit 0) (z2j p v0 v1)=some (zty (v1)):=by kernel_rfl
def escB(d:UInt8):Bool:=decide (idxB (ByteArray.mk #[37,95,92]) (d.toNat:Int)≥0)
def za2:List UInt8→List Sign
 |[]=>[]
 |[c]=>if(c.toNat:Int)=37 then[⟨2,0⟩]else if(c.toNat:Int)=95 then[⟨1,0⟩]else[⟨0,(c.toNat:Int)⟩]
 |c::d::r=>if(c.toNat:Int)=37 then⟨2,0⟩::za2 (d::r)else if(c.toNat:Int)=95 then⟨1,0⟩::za2 (d::r)else if(c.toNat:Int)=92∧escB d=true then⟨0,(d.toNat:Int)⟩::za2 r else⟨0,(c.toNat:Int)⟩::za2 (d::r)
def z1c(p:ByteArray):List Sign:=za2 p.toList
theorem z127:∀(n:Nat)(l:List UInt8),l.length≤n→(za2 l).length≤l.length
 |_,[],_=>y6 _
 |_,[c],_=>by
  grind[za2]
 |n+1,c::d::r,h=>by
  simp at h;have h1:=z127 n (d::r) (by grind);have h2:=z127 n r (by omega);grind[List.length_cons,za2]
 |0,c::d::r,h=>by grind
theorem z299(p:ByteArray)(hp:p.size≤2000000):∀(n i:Nat)(o:List Sign),p.size- i≤n→i≤p.size→o.length≤i→z5o (z2j p (i:Int) o)=some (.exit 0,z2j p (p.size:Int) (o++za2 (p.toList.drop i))):=by
 intro n;have hsz:=z58 p
 induction n with
 |zero=>
  intro i o h1 h2 h3;have e:i=p.size:=by omega
  subst e;rw[z13s,z8,if_neg (by simp),y22 (by omega)];simp only[za2,y14]
 |succ n ih=>
  intro i o h1 h2 h3;rcases yj i p.size with hi|hi
  ·have hw:IntKind.i64.wrap ((i:Int)+1)=((i+1:Nat):Int):=by grind[z1u]
   have hg:(p.toList.getD i 0)=p.toList[i]'(by omega):=by grind
   have hd:p.toList.drop i=p.toList[i]'(by omega)::p.toList.drop (i+1):=y1u (by omega);have ih1:∀x:Sign,z5o (z2j p ((i+1:Nat):Int) (o++[x]))=some (.exit 0,z2j p (p.size:Int) (o++x::za2 (p.toList.drop (i+1)))):=by
    intro x;rw[ih (i+1) (o++[x]) (by omega) (by omega) (by grind),y12];rfl
   have e1:zdv p (i:Int) o=some (.exit 0,z2j p (p.size:Int) (o++⟨0,((p.toList[i]'(by omega)).toNat:Int)⟩::za2 (p.toList.drop (i+1)))):=by
    unfold zdv;rw[z6 (by omega),z6 (by grind[zi,List.length_singleton]),y5,hg,hw,ih1]
   rw[z13s,e1];simp only[z8,decide_eq_true_eq,beq_iff_eq,y5,hg,hw];rw[if_pos (by omega),z6 (by omega),z6 (by grind[zi,List.length_singleton]),z6 (by omega),z6 (by grind[zi,List.length_singleton]),z6 (by omega),ih1,ih1,hd];generalize p.toList[i]'(by omega)=c;rcases yj (i+1) p.size with hj|hj
   ·have hg2:(p.toList.getD (i+1) 0)=p.toList[i+1]'(by omega):=by grind
    have hd2:p.toList.drop (i+1)=p.toList[i+1]'(by omega)::p.toList.drop (i+1+1):=y1u (by omega);have hw2:IntKind.i64.wrap (((i+1:Nat):Int)+1)=((i+1+1:Nat):Int):=by grind[z1u]
    have ih2:∀x:Sign,z5o (z2j p ((i+1+1:Nat):Int) (o++[x]))=some (.exit 0,z2j p (p.size:Int) (o++x::za2 (p.toList.drop (i+1+1)))):=by
     intro x;rw[ih (i+1+1) (o++[x]) (by omega) (by omega) (by grind),y12];rfl
    rw[if_pos (show((i+1:Nat):Int)<(p.size:Int) by omega),z6 (by omega),z6 (by omega),z6 (by grind[zi,List.length_singleton]),hg2,hw2,ih2,hd2];generalize p.toList[i+1]'(by omega)=d;simp only[za2];by_cases c1:(c.toNat:Int)=37
    ·grind
    ·by_cases c2:(c.toNat:Int)=95
     ·grind
     ·by_cases c3:(c.toNat:Int)=92
      ·by_cases c4:escB d=true
       ·have c4':idxB (ByteArray.mk #[37,95,92]) (d.toNat:Int)≥0:=by unfold escB at c4;grind
        grind
       ·have c4':¬idxB (ByteArray.mk #[37,95,92]) (d.toNat:Int)≥0:=fun e=>c4 (by grind[escB,decide_eq_true]);grind
      grind
   ·have hd2:p.toList.drop (i+1)=[]:=y22 (by omega);rw[if_neg (show¬((i+1:Nat):Int)<(p.size:Int) by omega),hd2];simp only[za2];by_cases c1:(c.toNat:Int)=37
    ·grind
    ·by_cases c2:(c.toNat:Int)=95
     all_goals simp_all
  grind
theorem z1lz(p:ByteArray)(_hp:WStr p)(h:p.size≤2000000):z13r p=some (zty (z1c p)):=by
 have lp:=z299 p h p.size 0 [] (by omega) (by omega) (y6 _);rw[z1w1];refine(zg lp).trans ?_;rw[z1gt];rfl
def z183:FnC Un:=fnF1 dStr fun p=>([p.size≤2000000],zty (z1c p))
theorem z1w2:FnOK 207 z183:=fnK1 z4l (M:=zls) rfl ⟨z126,trivial⟩ trivial trivial trivial trivial Tryz.func207 fun p=>GiF.r fun w o=>z1lz p (wfA_ w 0) (obA_ o 0)
def zco:Mc Un:=mcF_ [(207,z183)] [] [] [] []
def zfm:Nat→NS:=nsF_ [(4,{ts:=bl 87 1009,bs:=bl 87 0,nm:=[(.sl 5,348)]}),(15,{ts:=bl 87 160,bs:=bl 87 0,nm:=[(.sl 5,349)]})] false
def z2c(s:ByteArray)(p:ByteArray)(v0:Int)(v1:Int)(v2:Int)(v3:Int):S Un:=(st 87 87 350 0 [(0,at_ s),(4,ab false),(5,ao 348),(6,ai v2),(7,ai v0),(8,ai v1),(9,ai v3)] [] [(348,some ⟨(0:Nat),Ty.sign,z1c p,none,true⟩)])
def z2t(p:ByteArray)(v0:Int):S Un:=(st 87 87 350 0 [(5,ao 349),(7,ai v0)] [] [(349,some ⟨(0:Nat),Ty.sign,z1c p,none,true⟩)])
def z4y:S Un→Option (EX Un):=lpF_ zco zfm Tryz.f167 [1,1,1,1,0,2,2] 4
def z61:S Un→Option (EX Un):=lpF_ zco zfm Tryz.f167 [1,1,1,1,1,0,2,2] 15
def z8g:Exit→S Un→Option (RF Un):=cxF_ zco zfm Tryz.f167 [1,1,1,1,0,2] [.d]
def zn2:Exit→S Un→Option (RF Un):=cxF_ zco zfm Tryz.f167 [1,1,1,1,1,0,2] [.d]
def zin(s:ByteArray)(p:ByteArray):Option (RF Un):=fnF_ zco zfm Tryz.f167 2 [.d] [.d (.v (cs s)),.d (.v (cs p))]
theorem z1w3(s:ByteArray)(p:ByteArray):zin s p=obO (p.size≤(2000000:Nat)) ((z4y (z2c s p (0:Int) (-1:Int) (0:Int) (0:Int))).bind (ze z8g)):=by kernel_rfl
def zio(s:ByteArray)(p:ByteArray)(v0:Int)(v1:Int)(v2:Int)(v3:Int):Option (EX Un):=cndO (decide (v1≥0)) (z4y (z2c s p (IntKind.i64.wrap (v1+1)) v1 (IntKind.i64.wrap (v3+1)) (IntKind.i64.wrap (v3+1)))) (some (.ret,(z2c s p v0 v1 v2 v3)))
def zip(s:ByteArray)(p:ByteArray)(v0:Int)(v1:Int)(v2:Int)(v3:Int):Option (EX Un):=cndO (decide (v0<(↑(z1c p).length:Int))) (obO (0≤v0∧v0<(↑(z1c p).length:Int)) (cndO (((z1c p).getD v0.toNat zmq).kind ==1) (z4y (z2c s p (IntKind.i64.wrap (v0+1)) v1 (IntKind.i64.wrap (v2+1)) v3)) (obO (0≤v0∧v0<(↑(z1c p).length:Int)) (obO (0≤v2∧v2<(↑s.size:Int)) (cndO (((z1c p).getD v0.toNat zmq).b ==(↑(s.toList.getD v2.toNat 0).toNat:Int)) (z4y (z2c s p (IntKind.i64.wrap (v0+1)) v1 (IntKind.i64.wrap (v2+1)) v3)) (zio s p v0 v1 v2 v3)))))) (zio s p v0 v1 v2 v3)
theorem z13t(s:ByteArray)(p:ByteArray)(v0:Int)(v1:Int)(v2:Int)(v3:Int):z4y (z2c s p v0 v1 v2 v3)=cndO (decide (v2<(↑s.size:Int))) (cndO (decide (v0<(↑(z1c p).length:Int))) (obO (0≤v0∧v0<(↑(z1c p).length:Int)) (cndO (((z1c p).getD v0.toNat zmq).kind ==2) (z4y (z2c s p (IntKind.i64.wrap (v0+1)) v0 v2 v2)) (zip s p v0 v1 v2 v3))) (zip s p v0 v1 v2 v3)) (some (.exit 0,(z2c s p v0 v1 v2 v3))):=lpQ_ (by kernel_rfl)
theorem z1b6(s:ByteArray)(p:ByteArray)(v0:Int)(v1:Int)(v2:Int)(v3:Int):z8g .ret (z2c s p v0 v1 v2 v3)=some (z8z (false)):=by kernel_rfl
theorem z1gu(s:ByteArray)(p:ByteArray)(v0:Int)(v1:Int)(v2:Int)(v3:Int):z8g (.exit 0) (z2c s p v0 v1 v2 v3)=(z61 (z2t p v0)).bind (ze zn2):=by kernel_rfl
theorem zn3(p:ByteArray)(v0:Int):z61 (z2t p v0)=cndO (decide (v0<(↑(z1c p).length:Int))) (obO (0≤v0∧v0<(↑(z1c p).length:Int)) (cndO (((z1c p).getD v0.toNat zmq).kind ==2) (z61 (z2t p (IntKind.i64.wrap (v0+1)))) (some (.exit 3,(z2t p v0))))) (some (.exit 3,(z2t p v0))):=lpQ_ (by kernel_rfl)
theorem zrc(p:ByteArray)(v0:Int):zn2 (.exit 3) (z2t p v0)=some (z8z (v0==(↑(z1c p).length:Int))):=by kernel_rfl
theorem z2cu(s p:ByteArray)(hp:(z1c p).length≤2000000):∀(c k:Nat),(z1c p).length - k=c→k≤(z1c p).length→∃r,(z61 (z2t p (k:Int))).bind (ze zn2)=some (z8z r):=by
 intro c
 induction c with
 |zero=>
  intro k h1 h2;have e:z61 (z2t p (k:Int))=some (.exit 3,z2t p (k:Int)):=by rw[zn3,z8,if_neg (by grind)]
  rw[zg e,zrc];grind
 |succ c ih=>
  intro k h1 h2;by_cases hk:((z1c p).getD k zmq).kind=2
  ·have e:z61 (z2t p (k:Int))=z61 (z2t p ((k+1:Nat):Int)):=by
    rw[zn3,z8,if_pos (by grind),z6 (by omega),y5,z8,if_pos (by grind),show IntKind.i64.wrap ((k:Int)+1)=((k+1:Nat):Int) by grind[z1u]]
   grind
  ·have e:z61 (z2t p (k:Int))=some (.exit 3,z2t p (k:Int)):=by
    rw[zn3,z8,if_pos (by grind),z6 (by omega),y5,z8,if_neg (by grind)]
   rw[zg e,zrc];grind
theorem z2cv(s p:ByteArray)(hs:s.size≤2000000)(hp:(z1c p).length≤2000000):∀(a b c k at_ from_:Nat)(star:Int),s.size- from_=a→s.size- at_=b→(z1c p).length - k=c→
  at_≤s.size→from_≤at_→k≤(z1c p).length→star<((z1c p).length:Int)→-1≤star→
  ∃r,(z4y (z2c s p (k:Int) star (at_:Int) (from_:Int))).bind (ze z8g)=some (z8z r):=by
 intro a
 induction a using Nat.strongRecOn with
 |ind a iha=>
  intro b
  induction b using Nat.strongRecOn with
  |ind b ihb=>
   intro c
   induction c using Nat.strongRecOn with
   |ind c ihc=>
    intro k at_ from_ star h1 h2 h3 h4 h5 h6 h7 h8;rcases yj at_ s.size with ha|ha
    ·have wk:k<(z1c p).length→IntKind.i64.wrap ((k:Int)+1)=((k+1:Nat):Int):=fun h=>by grind[z1u]
     have wa:IntKind.i64.wrap ((at_:Int)+1)=((at_+1:Nat):Int):=by grind[z1u]
     have wf:IntKind.i64.wrap ((from_:Int)+1)=((from_+1:Nat):Int):=by grind[z1u]
     have t1:∃r,(zio s p (k:Int) star (at_:Int) (from_:Int)).bind (ze z8g)=some (z8z r):=by
      unfold zio;by_cases hst:star≥0
      ·obtain⟨q,rfl⟩:=y4b hst;rw[z8,if_pos (decide_eq_true hst),wf,show IntKind.i64.wrap ((q:Int)+1)=((q+1:Nat):Int) by grind[z1u]];exact iha (s.size- (from_+1)) (by omega) _ _ (q+1) (from_+1) (from_+1) (q:Int) rfl rfl rfl (by omega) (by omega) (by omega) h7 h8
      ·have e:cndO (decide (star≥0)) (z4y (z2c s p (IntKind.i64.wrap (star+1)) star (IntKind.i64.wrap ((from_:Int)+1)) (IntKind.i64.wrap ((from_:Int)+1)))) (some (.ret,(z2c s p (k:Int) star (at_:Int) (from_:Int))))=some (.ret,(z2c s p (k:Int) star (at_:Int) (from_:Int))):=by simp_all[z8,if_neg]
       rw[zg e,z1b6];simp
     have t2:∃r,(zip s p (k:Int) star (at_:Int) (from_:Int)).bind (ze z8g)=some (z8z r):=by
      unfold zip;rcases yj k (z1c p).length with hk|hk
      ·have ihm:∃r,(z4y (z2c s p ((k+1:Nat):Int) star ((at_+1:Nat):Int) (from_:Int))).bind (ze z8g)=some (z8z r):=
        ihb (s.size- (at_+1)) (by omega) _ (k+1) (at_+1) from_ star h1 rfl rfl (by omega) (by omega) (by omega) h7 h8
       rw[z8,if_pos (by grind),z6 (by omega),z6 (by omega),z6 (by omega),wk hk,wa,z8,z8];split
       ·omega
       ·split
        all_goals omega
      simp_all[z8,if_neg]
     rw[z13t,z8,if_pos (by grind),z8];rcases yj k (z1c p).length with hk|hk
     ·rw[if_pos (by grind),z6 (by omega),z8];split
      ·rw[wk hk];rcases yj (s.size- at_) a with hlt|hge
       ·exact iha (s.size- at_) hlt _ _ (k+1) at_ at_ (k:Int) rfl rfl rfl (by omega) (by omega) (by omega) (by omega) (by omega)
       ·exact ihc ((z1c p).length - (k+1)) (by omega) (k+1) at_ at_ (k:Int) (by omega) h2 rfl (by omega) (by omega) (by omega) (by omega) (by omega)
      omega
     simp_all[if_neg]
    ·have e:z4y (z2c s p (k:Int) star (at_:Int) (from_:Int))=some (.exit 0,z2c s p (k:Int) star (at_:Int) (from_:Int)):=by rw[z13t,z8,if_neg (by grind)]
     rw[zg e,z1gu];exact z2cu s p hp _ k rfl h6
theorem z29a(s p:ByteArray)(hs:s.size≤2000000)(hp:p.size≤2000000):∃r,zin s p=some (z8z r):=by
 have hl:(z1c p).length≤2000000:=by
  have:=z127 _ p.toList (y6 _);grind[z58,z1c]
 rw[z1w3,z6 hp];exact z2cv s p hs hl _ _ _ 0 0 0 (-1) rfl rfl rfl (by omega) (by omega) (by omega) (by omega) (by omega)
noncomputable def zlt(s p:ByteArray):Bool:=@dite _ (∃r,zin s p=some (z8z r)) (Classical.propDecidable _) (fun h=>h.choose) (fun _=>false)
theorem z1m0(s p:ByteArray)(_hs:WStr s)(_hp:WStr p)(h1:s.size≤2000000)(h2:p.size≤2000000):zin s p=some (z8z (zlt s p)):=by
 have h:=z29a s p h1 h2;unfold zlt;grind
def z184:FnC Un:=fnF2 dStr dStr fun s p=>([s.size≤2000000,p.size≤2000000],z8z (zlt s p))
theorem z1w4:FnOK 167 z184:=fnK2 z4l z4l (M:=zco) rfl ⟨z1w2,trivial⟩ trivial trivial trivial trivial Tryz.func167 fun s p=>GiF.r fun w o=>z1m0 s p (wfA_ w 0) (wfA_ w 1) (obA_ o 0) (obA_ o 1)
end
end Go.Proofs.YtjfpbchdcbhfgaaGreat.B
namespace Go.Proofs.YtjfpbchdcbhfgaaGreat.B
open Go Go.RowKit
set_option maxRecDepth 100000
noncomputable section
attribute [local irreducible] awp ctxK zx z1f retQ z1l awf ctxF z1k
def zos:Nat→NS:=nsF_ [(2,{ts:=bl 19 403,bs:=bl 19 0,nm:=[]})] false
def z4s(s:List Val)(f_o:Val→Prop)(f:Val→Bool)(v0:Int):S Un:=(st 19 19 76 0 [(0,al .val s),(1,AV.one (A.c (C.fv (zw f_o f)))),(4,ai (0:Int)),(7,ai (↑s.length:Int)),(8,ai v0)] [] [])
def zjd(s:List Val)(f_o:Val→Prop)(f:Val→Bool)(v0:Int)(v1:Int):S Un:=(st 19 19 76 0 [(0,al .val s),(1,AV.one (A.c (C.fv (zw f_o f)))),(4,ai v1),(7,ai (↑s.length:Int)),(8,ai v0)] [] [])
def z7z:S Un→Option (EX Un):=lpF_ z1bz zos Tryz.f209 [1,0,1,2,2] 2
def zlu:Exit→S Un→Option (RF Un):=cxF_ z1bz zos Tryz.f209 [1,0,1,2] [.d]
def z185(s:List Val)(f_o:Val→Prop)(f:Val→Bool):Option (RF Un):=fnF_ z1bz zos Tryz.f209 0 [.d] [.d (.v (.dat (U:=Un) Ty.val s)),.fn (zw f_o f)]
theorem z20j(s:List Val)(f_o:Val→Prop)(f:Val→Bool):z185 s f_o f=(z7z (z4s s f_o f (0:Int))).bind (ze zlu):=by kernel_rfl
theorem zu0(s:List Val)(f_o:Val→Prop)(f:Val→Bool)(v0:Int):z7z (z4s s f_o f v0)=cndO (decide (v0<(↑s.length:Int))) (obO (0≤v0∧v0<(↑s.length:Int)) (obO (f_o (s.getD v0.toNat z7)) (cndO (f (s.getD v0.toNat z7)) (some (.ret,(zjd s f_o f v0 v0))) (z7z (z4s s f_o f (IntKind.i64.wrap (v0+1))))))) (some (.exit 0,(z4s s f_o f v0))):=lpQ_ (by kernel_rfl)
theorem z1gv(s:List Val)(f_o:Val→Prop)(f:Val→Bool)(v0:Int)(v1:Int):zlu .ret (zjd s f_o f v0 v1)=some (z17t (v1)):=by kernel_rfl
theorem z1m1(s:List Val)(f_o:Val→Prop)(f:Val→Bool)(v0:Int):zlu (.exit 0) (z4s s f_o f v0)=some (z17t ((-1:Int))):=by kernel_rfl
def zb9(o:Val→Prop)(s:List Val):Prop:=∀x∈s,o x
def z3e(s:List Val)(_o:Val→Prop)(f:Val→Bool):Int:=match s.findIdx? f with|some i=>(i:Int)|none=>-1
theorem z1gw(s:List Val)(o:Val→Prop)(f:Val→Bool):0≤z3e s o f↔s.any f=true:=by
 grind[z3e,List.findIdx?_eq_none_iff,List.any_eq_true,absurd,List.findIdx?_eq_some_iff_getElem,List.getElem_mem]
theorem z1qd(s:List Val)(o:Val→Prop)(f:Val→Bool)(hs:WL .val s)(ho:zb9 o s):z185 s o f=some (z17t (z3e s o f)):=by
 have key:∀(r:List Val)(i:Nat),s.drop i=r→i≤s.length→(z7z (z4s s o f i)).bind (ze zlu)=some (z17t (match r.findIdx? f with|some k=>((i+k:Nat):Int)|none=>-1)):=by
  intro r
  induction r with
  |nil=>
   intro i hr hi;have:s.length≤i:=by simp_all
   have e:z7z (z4s s o f i)=some (.exit 0,z4s s o f i):=by rw[zu0,z8,if_neg (by grind)]
   rw[zg e,z1m1];rfl
  |cons x r ih=>
   intro i hr hi;obtain⟨a1,a2,a3,hm⟩:=z55 hr;have hx:s.getD i z7=x:=a2 z7;by_cases hf:f x=true
   ·have e:z7z (z4s s o f i)=some (.ret,zjd s o f i i):=by
     rw[zu0,z8,if_pos (by grind),z6 (by omega),y5,hx,z6 (ho x hm),z8,if_pos hf]
    rw[zg e,z1gv];simp[y2k,hf]
   ·have e:z7z (z4s s o f i)=z7z (z4s s o f ((i+1:Nat):Int)):=by
     rw[zu0,z8,if_pos (by grind),z6 (by omega),y5,hx,z6 (ho x hm),z8,if_neg hf,z3s a1 hs.len]
    rw[e,ih (i+1) a3 (by omega)];congr 2;grind
 rw[z20j];have:=key s 0 rfl (ya _);refine Eq.trans this ?_;simp[z3e]
def zhv:FnC Un:=fun args=>match args with
 |[x0,x1]=>(dL .val x0).bind fun s=>(dF x1).bind fun f=>some ([f=(zw (z18 f) (z1m f)),zb9 (z18 f) s],zac (z3e s (z18 f) (z1m f)),zad (z3e s (z18 f) (z1m f)))
 |_=>none
theorem z186:FnOK 209 zhv:=by
 intro args ob rs os h hob;unfold zhv at h;split at h
 ·simp only[y7,y8,ym]at h;obtain⟨s,e0,f,e1,rfl,rfl,rfl⟩:=h;obtain rfl:=z11 e0;obtain rfl:=znm e1;have hfv0:=hob _ (ye (i:=0) rfl);generalize z1m f=pp0 at*;generalize z18 f=qq0 at*;subst hfv0;exact⟨z2f (M:=z1bz) rfl (z4o (l1:=[]) (l2:=[]) (l3:=[]) (l4:=[]) (l5:=[]) trivial trivial trivial trivial trivial) Tryz.func209 (by rfl) zos 0 [.d] (fun hwf=>(z1qd s qq0 pp0 (z42 hwf (a:=.d (.v (.dat (U:=Un) Ty.val s))) (ye (i:=0) rfl)) (hob _ (ye (i:=1) rfl)))),zj Tryz.func209 (by rfl) (by rfl)⟩
 grind
def z1dt:Mc Un:=mcF_ [(209,zhv)] [] [] [] []
def z1dw(r:Bool):RF Un:=(zt1 r,zt2 r)
def z187(s:List Val)(f_o:Val→Prop)(f:Val→Bool):Option (RF Un):=fnF_ z1dt z23b Tryz.f199 0 [.d] [.d (.v (.dat (U:=Un) Ty.val s)),.fn (zw f_o f)]
theorem z20k(s:List Val)(f_o:Val→Prop)(f:Val→Bool):z187 s f_o f=obO (zw f_o f=zw (z18 (zw f_o f)) (z1m (zw f_o f))) (obO (zb9 (z18 (zw f_o f)) s) (some (z1dw (decide (z3e s (z18 (zw f_o f)) (z1m (zw f_o f))≥0))))):=by kernel_rfl
def zju(s:List Val)(_o:Val→Prop)(f:Val→Bool):Bool:=s.any f
theorem z1qe(s:List Val)(o:Val→Prop)(f:Val→Bool)(_hs:WL .val s)(ho:zb9 o s):z187 s o f=some (z1dw (zju s o f)):=by
 rw[z20k];simp only[zj4,zj3];rw[z6 trivial,z6 ho];grind[zju,z1gw,z3e]
def zxx:FnC Un:=fun args=>match args with
 |[x0,x1]=>(dL .val x0).bind fun s=>(dF x1).bind fun f=>some ([f=(zw (z18 f) (z1m f)),zb9 (z18 f) s],zt1 (zju s (z18 f) (z1m f)),zt2 (zju s (z18 f) (z1m f)))
 |_=>none
theorem z20l:FnOK 199 zxx:=by
 intro args ob rs os h hob;unfold zxx at h;split at h
 ·simp only[y7,y8,ym]at h;obtain⟨s,e0,f,e1,rfl,rfl,rfl⟩:=h;obtain rfl:=z11 e0;obtain rfl:=znm e1;have hfv0:=hob _ (ye (i:=0) rfl);generalize z1m f=pp0 at*;generalize z18 f=qq0 at*;subst hfv0;exact⟨z2f (M:=z1dt) rfl (z4o (l1:=[(209,zhv)]) (l2:=[]) (l3:=[]) (l4:=[]) (l5:=[]) ⟨z186,trivial⟩ trivial trivial trivial trivial) Tryz.func199 (by rfl) z23b 0 [.d] (fun hwf=>(z1qe s qq0 pp0 (z42 hwf (a:=.d (.v (.dat (U:=Un) Ty.val s))) (ye (i:=0) rfl)) (hob _ (ye (i:=1) rfl)))),zj Tryz.func199 (by rfl) (by rfl)⟩
 grind
end
end Go.Proofs.YtjfpbchdcbhfgaaGreat.B
namespace Go.Proofs.YtjfpbchdcbhfgaaGreat.B
open Go Go.RowKit
set_option maxRecDepth 100000
noncomputable section
attribute [local irreducible] awp ctxK zx z1f retQ z1l awf ctxF z1k
def zu1(r:Val):List (A Un):=[.agg (encC Ty.val r)]
def zu2(_r:Val):List (Ob Un):=[]
def zu3(r:Val):RF Un:=(zu1 r,zu2 r)
def z13u(b:Bool):Option (RF Un):=fnF_ z1bz z23b Tryz.f39 0 [.d] [.d (.v (cb b))]
theorem z1w5(b:Bool):z13u b=cndO (b) (some (zu3 ({kind:=(1:Int),n:=(1:Int),s:=(ByteArray.mk #[])}))) (some (zu3 ({kind:=(1:Int),n:=(0:Int),s:=(ByteArray.mk #[])}))):=by kernel_rfl
def z2y(b:Bool):Val:=
  if(b)=true then
   ({kind:=(1:Int),n:=(1:Int),s:=(ByteArray.mk #[])})
  else
   ({kind:=(1:Int),n:=(0:Int),s:=(ByteArray.mk #[])})
theorem z1w6(b:Bool):z13u b=some (zu3 (z2y b)):=by rw[z1w5];unfold z2y;simp only[z8];repeat(first|rfl|split)
def zcp:FnC Un:=fun args=>match args with
 |[x0]=>(dB x0).bind fun b=>some ([],zu1 (z2y b),zu2 (z2y b))
 |_=>none
theorem zqq:FnOK 39 zcp:=by
 intro args ob rs os h hob;unfold zcp at h;split at h
 ·simp only[y7,y8,ym]at h;obtain⟨b,e0,rfl,rfl,rfl⟩:=h;obtain rfl:=z1iu e0;exact⟨z2f (M:=z1bz) rfl (z4o (l1:=[]) (l2:=[]) (l3:=[]) (l4:=[]) (l5:=[]) trivial trivial trivial trivial trivial) Tryz.func39 (by kernel_rfl) z23b 0 [.d] (fun hwf=>(z1w6 b)),zj Tryz.func39 (by kernel_rfl) (by kernel_rfl)⟩
 ·simp at h
def z24(b:Bool):Val:=⟨1,if b=true then 1 else 0,⟨#[]⟩⟩
@[simp] theorem zvs(b:Bool):z2y b=z24 b:=by unfold z2y z24;cases b<;>rfl
end
end Go.Proofs.YtjfpbchdcbhfgaaGreat.B
namespace Go.Proofs.YtjfpbchdcbhfgaaGreat.B
open Go Go.RowKit
set_option maxRecDepth 1000000
def twoN(op a b:Int):Int×Bool:=if op=5 then zzg a b else if op=6 then zgj a b else if op=7 then zzh a b else if op=8 then zzi a b else zzj a b
def twoF(op:Int):FV Un:=fun args=>match args with
 |[x0,x1]=>(dI .i64 (.d x0)).bind fun a=>(dI .i64 (.d x1)).bind fun b=>some ([],[.v (.s (.int .i64 (twoN op a b).1)),.v (.s (.bool (twoN op a b).2))])
 |_=>none
def zu4:FnC Un:=fun args=>match args with
 |[x0]=>(dI .i64 x0).bind fun op=>some ([5≤op∧op≤9],[.c (.fv (twoF op))],[])
 |_=>none
def soB(op c:Int):Bool:=if op=11 then decide (c=0)else if op=12 then decide (c=-1∨c=1)else if op=13 then decide (c=-1)else if op=14 then decide (c=-1∨c=0)else if op=15 then decide (c=1)else decide (c=0∨c=1)
def cmpO(op:Int)(a b:Val):Val:=if(cmpV a b).2=true then z24 (soB op (cmpV a b).1)else z7
def zbz:FnC Un:=fun args=>match args with
 |[x0,x1,x2]=>(dI .i64 x0).bind fun op=>(dS .val x1).bind fun a=>(dS .val x2).bind fun b=>some ([11≤op∧op≤16],[.agg (encC Ty.val (cmpO op a b))],[])
 |_=>none
def zs5(f b:Int)(c:UInt8):UInt8:=if(c.toNat:Int)≥f∧(c.toNat:Int)<IntKind.u8.wrap (f+26)then UInt8.ofNat (IntKind.u8.wrap (IntKind.i64.wrap ((c.toNat:Int)+b))).toNat else c
def zlv(s:ByteArray)(f b:Int):ByteArray:=⟨(s.toList.map (zs5 f b)).toArray⟩
theorem z128(s:ByteArray)(f b:Int):(zlv s f b).size=s.size:=by
 unfold zlv;show(s.toList.map (zs5 f b)).toArray.size=s.size;rw[List.size_toArray,yq,z58]
def zlw:FnC Un:=fun args=>match args with
 |[x0,x1,x2]=>(dStr x0).bind fun s=>(dI .u8 x1).bind fun f=>(dI .i64 x2).bind fun b=>some ([s.size≤2000000],[.c (.s (.string (zlv s f b)))],[])
 |_=>none
theorem z2hz{f:FuncId}{φ:FV Un}(h:FvOK f φ){St:Nat→Nat→Prop}{w:World}:FunRel Tryz.prog En St w (.func (.func f) #[] #[]) φ:=by
 refine⟨f,#[],rfl,h.1,fun St' w' hk hb hld args ob rs hφ hob vs hvs=>?_⟩;have hc:=h.2 args ob rs hφ hob w' St' vs hb (All2.map_right D.d (fun _ _ h=>h) hvs) hld;rw[Array.append_empty];exact hc
theorem updM{mt et:TypeId}(hm:Tryz.prog.underlying mt=some (.map 3 et))(w:World)(es:Array MapEntry)(c:Nat)(k:Int)(v:Value)(hn:Instr.findNow (.int .i64) (.int .i64 k) es.toList 0=some none):
  (Instr.mapUpdate mt (.map (some w.heap.size)) (.int .i64 k) v).run Tryz.prog (w.alloc (.map es c))=.ok () (w.alloc (.map (es.push {key:=.int .i64 k,val:=v,born:=c}) (c+1))):=by
 have hd:Tryz.prog.underlying 3=some (.int .i64):=by kernel_rfl
 have hb:(w.alloc (.map es c)).heap[w.heap.size]?=some (.map es c):=by unfold World.alloc;simp
 have hk:MapKept.IsKey (.int .i64) (.int .i64 k):=by simp[MapKept.IsKey]
 simp[Instr.mapUpdate,run_underlying hm,MapKept.run_getObj_map hb,MapKept.run_checkKey hd hk,MapKept.run_findKey hd hn,MapKept.run_setObj_map _ hb,Result.andThen];unfold World.alloc;simp only;congr 1;apply y33;simp[y2t]
theorem z2kb{mt et:TypeId}(hm:Tryz.prog.underlying mt=some (.map 3 et))(w:World)(es:Array MapEntry)(c:Nat)(k:Int)(i:Nat)(v:Value)(hn:Instr.findNow (.int .i64) (.int .i64 k) es.toList 0=some (some (i,v))):
  (Instr.lookup mt (.map (some w.heap.size)) (.int .i64 k) false).run Tryz.prog (w.alloc (.map es c))=.ok v (w.alloc (.map es c)):=by
 have hd:Tryz.prog.underlying 3=some (.int .i64):=by kernel_rfl
 have hb:(w.alloc (.map es c)).heap[w.heap.size]?=some (.map es c):=by unfold World.alloc;simp
 have hk:MapKept.IsKey (.int .i64) (.int .i64 k):=by simp[MapKept.IsKey]
 simp[Instr.lookup,run_underlying hm,MapKept.run_getObj_map hb,MapKept.run_checkKey hd hk,MapKept.run_findKey hd hn,Result.andThen]
def twoE:List MapEntry:=[⟨.int .i64 5,.func (.func 202) #[] #[],0⟩,⟨.int .i64 6,.func (.func 201) #[] #[],1⟩,⟨.int .i64 7,.func (.func 203) #[] #[],2⟩,⟨.int .i64 8,.func (.func 204) #[] #[],3⟩,⟨.int .i64 9,.func (.func 205) #[] #[],4⟩]
theorem z2fh(op:Int)(i:Nat)(v:Value)(hn:Instr.findNow (.int .i64) (.int .i64 op) twoE 0=some (some (i,v)))(w:World):Calls Tryz.prog 162 #[.int .i64 op] w fun e w'=>e=.returned v∧Ext w w':=by
 have mixed:Tryz.prog.follows .mixedOrders=true:=by kernel_rfl
 have hmm:=@run_makeMap Tryz.prog;have hm:Tryz.prog.underlying 192=some (.map 3 102):=by kernel_rfl
 have u1:=updM hm w #[] 0 5 (.func (.func 202) #[] #[]) rfl;have u2:=updM hm w #[⟨.int .i64 5,.func (.func 202) #[] #[],0⟩] 1 6 (.func (.func 201) #[] #[]) rfl;have u3:=updM hm w #[⟨.int .i64 5,.func (.func 202) #[] #[],0⟩,⟨.int .i64 6,.func (.func 201) #[] #[],1⟩] 2 7 (.func (.func 203) #[] #[]) rfl;have u4:=updM hm w #[⟨.int .i64 5,.func (.func 202) #[] #[],0⟩,⟨.int .i64 6,.func (.func 201) #[] #[],1⟩,⟨.int .i64 7,.func (.func 203) #[] #[],2⟩] 3 8 (.func (.func 204) #[] #[]) rfl;have u5:=updM hm w #[⟨.int .i64 5,.func (.func 202) #[] #[],0⟩,⟨.int .i64 6,.func (.func 201) #[] #[],1⟩,⟨.int .i64 7,.func (.func 203) #[] #[],2⟩,⟨.int .i64 8,.func (.func 204) #[] #[],3⟩] 4 9 (.func (.func 205) #[] #[]) rfl;have lk:=z2kb hm w #[⟨.int .i64 5,.func (.func 202) #[] #[],0⟩,⟨.int .i64 6,.func (.func 201) #[] #[],1⟩,⟨.int .i64 7,.func (.func 203) #[] #[],2⟩,⟨.int .i64 8,.func (.func 204) #[] #[],3⟩,⟨.int .i64 9,.func (.func 205) #[] #[],4⟩] 5 op i v hn
 go_enter Tryz.func162,Tryz.ntmps162
 go_wp2
 go_ret;exact⟨rfl,(Ext.refl w).alloc _⟩
theorem zu5{f:FuncId}{F:FnC Un}(g:Int→Int→Int×Bool)(op:Int)(hg:∀a b,twoN op a b=g a b)(hb:z32 Tryz.prog f)(hok:FnOK f F)
  (hF:∀a b,F [.d (.v (.s (.int .i64 a))),.d (.v (.s (.int .i64 b)))]=some ([],[.c (.s (.int .i64 (g a b).1)),.c (.s (.bool (g a b).2))],[])):FvOK f (twoF op):=by
 refine⟨hb,fun args ob rs h hob=>?_⟩;unfold twoF at h;split at h
 ·simp only[y7,y8,ym]at h;obtain⟨a,e0,b,e1,rfl,rfl⟩:=h;simp only[yr,y1m];rw[z1a e0,z1a e1,hg];exact Contract.data (hok _ [] _ _ (hF a b) (by simp)).1
 ·simp at h
theorem z1w7:FnOK 162 zu4:=by
 have k5:FvOK 202 (twoF 5):=zu5 zzg 5 (fun _ _=>rfl) (zj Tryz.func202 (by kernel_rfl) (by kernel_rfl)) z28l (fun a b=>rfl);have k6:FvOK 201 (twoF 6):=zu5 zgj 6 (fun _ _=>rfl) (zj Tryz.func201 (by kernel_rfl) (by kernel_rfl)) z1lm (fun a b=>rfl);have k7:FvOK 203 (twoF 7):=zu5 zzh 7 (fun _ _=>rfl) (zj Tryz.func203 (by kernel_rfl) (by kernel_rfl)) z28r (fun a b=>rfl);have k8:FvOK 204 (twoF 8):=zu5 zzi 8 (fun _ _=>rfl) (zj Tryz.func204 (by kernel_rfl) (by kernel_rfl)) z28t (fun a b=>rfl);have k9:FvOK 205 (twoF 9):=zu5 zzj 9 (fun _ _=>rfl) (zj Tryz.func205 (by kernel_rfl) (by kernel_rfl)) z28v (fun a b=>rfl);intro args ob rs os h hob;unfold zu4 at h;split at h
 ·rename_i x0;simp only[y7,y8,ym]at h;obtain⟨op,e0,rfl,rfl,rfl⟩:=h;obtain rfl:=z1a e0;refine⟨?_,zj Tryz.func162 (by kernel_rfl) (by kernel_rfl)⟩;have hr:=hob _ (yi.2 rfl);have fin:∀(f:FuncId)(i:Nat),FvOK f (twoF op)→Instr.findNow (.int .i64) (.int .i64 op) twoE 0=some (some (i,.func (.func f) #[] #[]))→Contract Tryz.prog En 162 [.d (.v (.s (.int .i64 op)))] [.c (.fv (twoF op))] []:=by
   intro f i hk hn w St vs hbd hvs hld
   match vs,hvs with
   |[v0],⟨h0,_⟩=>
    obtain⟨rfl,-⟩:=ztt h0;refine(z2fh op i _ hn w).mono ?_;rintro e w' ⟨rfl,hx⟩;let gg:G:={β:=fun _=>0,lb:=fun _=>False,ω:=fun _ _=>none,tk:=fun _=>(none,0)};exact⟨_,rfl,hx,gg,fun _ h=>h,fun b o x _ h=>by simp[gg]at h,fun b o x h=>by simp[gg]at h,z2hz hk,fun k o h=>by simp at h⟩
  have hc:op=5∨op=6∨op=7∨op=8∨op=9:=by omega
  rcases hc with rfl|rfl|rfl|rfl|rfl
  ·exact fin _ 0 k5 rfl
  ·exact fin _ 1 k6 rfl
  ·exact fin _ 2 k7 rfl
  ·exact fin _ 3 k8 rfl
  ·exact fin _ 4 k9 rfl
 ·simp at h
end Go.Proofs.YtjfpbchdcbhfgaaGreat.B
namespace Go.Proofs.YtjfpbchdcbhfgaaGreat.B
open Go Go.RowKit
set_option maxRecDepth 1000000
def aggV(a:Val):Value:=.agg #[.int .i64 a.kind,.int .i64 a.n,.string a.s]
theorem zje{w w1:World}{x y z:Obj}(h:Ext (((w.alloc x).alloc y).alloc z) w1):w1.heap[w.heap.size+1+1]?=some z:=by
 have e:(((w.alloc x).alloc y).alloc z).heap=((w.heap.push x).push y).push z:=rfl;have hs:((w.heap.push x).push y).size=w.heap.size+1+1:=by rw[y2u,y2u]
 refine(h.block (by rw[e,y2u,hs];omega)).trans ?_;rw[e,←hs];exact y4r
theorem zcq{w:World}{b:Nat}{x y z:Value}{t:TypeId}(h:w.heap[b]?=some (.cells #[x,y,z] t)):w.cell? ⟨b,0,none⟩=some x∧w.cell? ⟨b,1,none⟩=some y∧w.cell? ⟨b,2,none⟩=some z∧∀o,w.frozen? ⟨b,o,none⟩=false:=by
 refine⟨?_,?_,?_,fun o=>?_⟩
 ·unfold World.cell?;simp only[h];rfl
 ·unfold World.cell?;simp only[h];rfl
 ·unfold World.cell?;simp only[h];rfl
 ·unfold World.frozen?;simp only[h];simp
theorem z1w8(op:Int)(a b:Val)(w:World)(hn:(cmpV a b).2=false)(hld:Laid w)(hc:∀W,Laid W→Calls Tryz.prog 152 #[aggV a,aggV b] W fun e w'=>e=.returned (.tuple #[.int .i64 (cmpV a b).1,.bool false])∧Ext W w'):
  Calls Tryz.prog 164 #[.int .i64 op,aggV a,aggV b] w fun e w'=>e=.returned (aggV z7)∧Ext w w':=by
 unfold aggV at hc ⊢;have mixed:Tryz.prog.follows .mixedOrders=true:=by kernel_rfl
 have hmm:=@run_makeMap Tryz.prog
 go_enter Tryz.func164,Tryz.ntmps164
 go_wp2_with (go_at_call 152;go_loud (refine(hc _ (hld.ext ((((Ext.refl w).alloc _).alloc _).alloc _))).mono ?_;rintro e w1 ⟨rfl,h1⟩;have hz:=zcq (zje h1);obtain⟨z0,z1,z2,q0⟩:=hz))
 refine bodyPost_ret (v:=.agg #[.int .i64 0,.int .i64 0,.string ⟨#[]⟩]) (by unfold results;go_simp) rfl ?_;refine⟨rfl,?_⟩;have hx:Ext w w1:=((((Ext.refl w).alloc _).alloc _).alloc _).trans h1;exact((hx.setCell (by show w.heap.size≤w.heap.size+1+1;omega) _).setCell (by show w.heap.size≤w.heap.size+1+1;omega) _).setCell (by show w.heap.size≤w.heap.size+1+1;omega) _
theorem zot:∀(os:List Obj)(w:World),os.foldl World.alloc w={w with heap:=w.heap++os.toArray}
 |[],w=>by simp
 |o::os,w=>by
  rw[yu,zot os];unfold World.alloc;simp
theorem z1m2(os:List Obj)(w:World)(m:Obj):(os.foldl World.alloc (w.alloc m)).heap=w.heap.push m++os.toArray:=by
 rw[zot];rfl
theorem z1u3(os:List Obj)(w:World)(m:Obj):(os.foldl World.alloc (w.alloc m)).heap[w.heap.size]?=some m:=by
 rw[z1m2,y3p (by rw[y2u];omega)];exact y4r
theorem z2cw(os:List Obj)(w:World)(m m':Obj):{os.foldl World.alloc (w.alloc m)with heap:=(os.foldl World.alloc (w.alloc m)).heap.setIfInBounds w.heap.size m'}=os.foldl World.alloc (w.alloc m'):=by
 rw[zot,zot];unfold World.alloc;simp only;congr 1;apply y33;simp[y2t]
theorem updC{mt et:TypeId}(hm:Tryz.prog.underlying mt=some (.map 3 et))(os:List Obj)(w:World)(es:Array MapEntry)(c:Nat)(k:Int)(v:Value)(hn:Instr.findNow (.int .i64) (.int .i64 k) es.toList 0=some none):
  (Instr.mapUpdate mt (.map (some w.heap.size)) (.int .i64 k) v).run Tryz.prog (os.foldl World.alloc (w.alloc (.map es c)))=.ok () (os.foldl World.alloc (w.alloc (.map (es.push {key:=.int .i64 k,val:=v,born:=c}) (c+1)))):=by
 have hd:Tryz.prog.underlying 3=some (.int .i64):=by kernel_rfl
 have hb:=z1u3 os w (.map es c);have hk:MapKept.IsKey (.int .i64) (.int .i64 k):=by simp[MapKept.IsKey]
 have hs:=z2cw os w (.map es c) (.map (es.push {key:=.int .i64 k,val:=v,born:=c}) (c+1));simp[Instr.mapUpdate,run_underlying hm,MapKept.run_getObj_map hb,MapKept.run_checkKey hd hk,MapKept.run_findKey hd hn,MapKept.run_setObj_map _ hb,Result.andThen];exact hs
theorem z1ae{mt et:TypeId}(hm:Tryz.prog.underlying mt=some (.map 3 et))(os:List Obj)(w:World)(es:Array MapEntry)(c:Nat)(k:Int)(i:Nat)(v:Value)(hn:Instr.findNow (.int .i64) (.int .i64 k) es.toList 0=some (some (i,v))):
  (Instr.lookup mt (.map (some w.heap.size)) (.int .i64 k) false).run Tryz.prog (os.foldl World.alloc (w.alloc (.map es c)))=.ok v (os.foldl World.alloc (w.alloc (.map es c))):=by
 have hd:Tryz.prog.underlying 3=some (.int .i64):=by kernel_rfl
 have hb:=z1u3 os w (.map es c);have hk:MapKept.IsKey (.int .i64) (.int .i64 k):=by simp[MapKept.IsKey]
 simp[Instr.lookup,run_underlying hm,MapKept.run_getObj_map hb,MapKept.run_checkKey hd hk,MapKept.run_findKey hd hn,Result.andThen]
def sgn(w:World):List (Int×Nat×List Int):=[(11,w.heap.size+1,[0]),(12,w.heap.size+1+1,[-1,1]),(13,w.heap.size+1+1+1,[-1]),(14,w.heap.size+1+1+1+1,[-1,0]),(15,w.heap.size+1+1+1+1+1,[1]),(16,w.heap.size+1+1+1+1+1+1,[0,1])]
def ent(w:World)(n:Nat):List MapEntry:=((sgn w).take n).zipIdx.map fun x=>⟨.int .i64 x.1.1,.slice (some ⟨x.1.2.1,0,none⟩) x.1.2.2.length x.1.2.2.length,x.2⟩
def rowO(l:List Int):Obj:=.cells (l.map (Value.int .i64)).toArray 3
theorem zjv(os:List Obj)(w:World)(m:Obj)(q:Nat)(o:Obj)(h:os[q]?=some o):(os.foldl World.alloc (w.alloc m)).heap[w.heap.size+1+q]?=some o:=by
 rw[z1m2,Array.getElem?_append_right (by rw[y2u];omega),y2u];rw[show w.heap.size+1+q- (w.heap.size+1)=q by omega,List.getElem?_toArray];exact h
theorem zjw{W:World}{blk:Nat}{zs:List Int}(h:W.heap[blk]?=some (rowO zs)):∀j,j<zs.length→W.cell? ⟨blk,0+j,none⟩=some (.int .i64 (zs.getD j 0)):=by
 intro j hj;unfold World.cell?;simp only[h,rowO];simp[hj,yd]
theorem zjx(os:List Obj)(w:World)(m:Obj):Ext w (os.foldl World.alloc (w.alloc m)):=by
 have:∀(os:List Obj)(u:World),Ext w u→Ext w (os.foldl World.alloc u):=by
  intro os
  induction os with
  |nil=>intro u h;exact h
  |cons o os ih=>intro u h;exact ih _ (h.alloc o)
 exact this os _ ((Ext.refl w).alloc m)
theorem z2kc(c:Int):(List.take 1 ([0]:List Int)).contains c=soB 11 c:=by
 simp only[y1y,y1z,y2v,y2w,y2x];unfold soB;rw[if_pos rfl,y2c];simp only[y1f,beq_iff_eq,decide_eq_true_eq]
set_option maxHeartbeats 2000000 in
theorem z24r(a b:Val)(w:World)(hld:Laid w)(hc:∀W,Laid W→Calls Tryz.prog 152 #[aggV a,aggV b] W fun e w'=>e=.returned (.tuple #[.int .i64 (cmpV a b).1,.bool true])∧Ext W w')
  (hB:∀W x,Laid W→Calls Tryz.prog 39 #[.bool x] W fun e w'=>e=.returned (.agg #[.int .i64 (z24 x).kind,.int .i64 (z24 x).n,.string (z24 x).s])∧Ext W w'):
  Calls Tryz.prog 164 #[.int .i64 11,aggV a,aggV b] w fun e w'=>e=.returned (aggV (z24 (soB 11 (cmpV a b).1)))∧Ext w w':=by
 unfold aggV at hc ⊢;have mixed:Tryz.prog.follows .mixedOrders=true:=by kernel_rfl
 have hmm:=@run_makeMap Tryz.prog;have hm:Tryz.prog.underlying 193=some (.map 3 42):=by kernel_rfl
 go_enter Tryz.func164,Tryz.ntmps164
 go_wp2_with (first
  |(go_at_call 152;refine(hc _ (hld.ext ((((Ext.refl w).alloc _).alloc _).alloc _))).mono ?_;rintro e w1 ⟨rfl,h1⟩;have hz:=zje h1;obtain⟨z0,z1,z2,q0⟩:=zcq hz;have hx:Ext w w1:=((((Ext.refl w).alloc _).alloc _).alloc _).trans h1;have u1:=updC hm [rowO [0]] w1 (ent w1 0).toArray 0 11 (.slice (some ⟨w1.heap.size+1,0,none⟩) 1 1) rfl;have u2:=updC hm [rowO [0],rowO [-1,1]] w1 (ent w1 1).toArray 1 12 (.slice (some ⟨w1.heap.size+1+1,0,none⟩) 2 2) rfl;have u3:=updC hm [rowO [0],rowO [-1,1],rowO [-1]] w1 (ent w1 2).toArray 2 13 (.slice (some ⟨w1.heap.size+1+1+1,0,none⟩) 1 1) rfl;have u4:=updC hm [rowO [0],rowO [-1,1],rowO [-1],rowO [-1,0]] w1 (ent w1 3).toArray 3 14 (.slice (some ⟨w1.heap.size+1+1+1+1,0,none⟩) 2 2) rfl;have u5:=updC hm [rowO [0],rowO [-1,1],rowO [-1],rowO [-1,0],rowO [1]] w1 (ent w1 4).toArray 4 15 (.slice (some ⟨w1.heap.size+1+1+1+1+1,0,none⟩) 1 1) rfl;have u6:=updC hm [rowO [0],rowO [-1,1],rowO [-1],rowO [-1,0],rowO [1],rowO [0,1]] w1 (ent w1 5).toArray 5 16 (.slice (some ⟨w1.heap.size+1+1+1+1+1+1,0,none⟩) 2 2) rfl;have lk:=z1ae hm [rowO [0],rowO [-1,1],rowO [-1],rowO [-1,0],rowO [1],rowO [0,1]] w1 (ent w1 6).toArray 6 11 0 (.slice (some ⟨w1.heap.size+1,0,none⟩) 1 1) rfl;have hro:=zjw (zjv [rowO [0],rowO [-1,1],rowO [-1],rowO [-1,0],rowO [1],rowO [0,1]] w1 (.map (ent w1 6).toArray 6) 0 (rowO [0]) rfl);have hce:=zjx [rowO [0],rowO [-1,1],rowO [-1],rowO [-1,0],rowO [1],rowO [0,1]] w1 (.map (ent w1 6).toArray 6);simp only[yu,y2e,ent,sgn,rowO,y1z,y1y,y2y,y2z,yr,y1m,yt,y1w,y30,y16,yz,y15,Nat.reduceAdd]at u1 u2 u3 u4 u5 u6 lk hro hce)
  |(go_at_call 206;refine(Tryz.slices_Contains_int (w1.heap.size+1) 0 1 1 [0] (cmpV a b).1 _ (by decide) (by decide) (fun j hj=>by rw[y15];exact hro j hj)).mono ?_;rintro e w2 ⟨rfl,rfl⟩;simp only[z2kc])
  |(go_at_call 39;refine(hB _ _ (hld.ext (hx.trans hce))).mono ?_;rintro e w3 ⟨rfl,h3⟩;have hlt:w.heap.size+1+1<w1.heap.size:=z6e (p:=⟨w.heap.size+1+1,0,none⟩) z0;have h4:=hce.trans h3;have hz3:=(h4.block hlt).trans hz;obtain⟨y0,y1,y2,p0⟩:=zcq hz3))
 refine bodyPost_ret (v:=.agg #[.int .i64 (z24 (soB 11 (cmpV a b).1)).kind,.int .i64 (z24 (soB 11 (cmpV a b).1)).n,.string (z24 (soB 11 (cmpV a b).1)).s]) (by unfold results;go_simp) rfl ?_;refine⟨rfl,?_⟩;have h5:=hx.trans h4;exact((h5.setCell (by show w.heap.size≤w.heap.size+1+1;omega) _).setCell (by show w.heap.size≤w.heap.size+1+1;omega) _).setCell (by show w.heap.size≤w.heap.size+1+1;omega) _
theorem z2kd(c:Int):(List.take 2 ([-1,1]:List Int)).contains c=soB 12 c:=by
 simp only[y1y,y1z,y2v,y2w,y2x];unfold soB;rw[if_neg (by decide),if_pos rfl,y2c];simp only[y1f,beq_iff_eq,decide_eq_true_eq]
set_option maxHeartbeats 2000000 in
theorem z24s(a b:Val)(w:World)(hld:Laid w)(hc:∀W,Laid W→Calls Tryz.prog 152 #[aggV a,aggV b] W fun e w'=>e=.returned (.tuple #[.int .i64 (cmpV a b).1,.bool true])∧Ext W w')
  (hB:∀W x,Laid W→Calls Tryz.prog 39 #[.bool x] W fun e w'=>e=.returned (.agg #[.int .i64 (z24 x).kind,.int .i64 (z24 x).n,.string (z24 x).s])∧Ext W w'):
  Calls Tryz.prog 164 #[.int .i64 12,aggV a,aggV b] w fun e w'=>e=.returned (aggV (z24 (soB 12 (cmpV a b).1)))∧Ext w w':=by
 unfold aggV at hc ⊢;have mixed:Tryz.prog.follows .mixedOrders=true:=by kernel_rfl
 have hmm:=@run_makeMap Tryz.prog;have hm:Tryz.prog.underlying 193=some (.map 3 42):=by kernel_rfl
 go_enter Tryz.func164,Tryz.ntmps164
 go_wp2_with (first
  |(go_at_call 152;refine(hc _ (hld.ext ((((Ext.refl w).alloc _).alloc _).alloc _))).mono ?_;rintro e w1 ⟨rfl,h1⟩;have hz:=zje h1;obtain⟨z0,z1,z2,q0⟩:=zcq hz;have hx:Ext w w1:=((((Ext.refl w).alloc _).alloc _).alloc _).trans h1;have u1:=updC hm [rowO [0]] w1 (ent w1 0).toArray 0 11 (.slice (some ⟨w1.heap.size+1,0,none⟩) 1 1) rfl;have u2:=updC hm [rowO [0],rowO [-1,1]] w1 (ent w1 1).toArray 1 12 (.slice (some ⟨w1.heap.size+1+1,0,none⟩) 2 2) rfl;have u3:=updC hm [rowO [0],rowO [-1,1],rowO [-1]] w1 (ent w1 2).toArray 2 13 (.slice (some ⟨w1.heap.size+1+1+1,0,none⟩) 1 1) rfl;have u4:=updC hm [rowO [0],rowO [-1,1],rowO [-1],rowO [-1,0]] w1 (ent w1 3).toArray 3 14 (.slice (some ⟨w1.heap.size+1+1+1+1,0,none⟩) 2 2) rfl;have u5:=updC hm [rowO [0],rowO [-1,1],rowO [-1],rowO [-1,0],rowO [1]] w1 (ent w1 4).toArray 4 15 (.slice (some ⟨w1.heap.size+1+1+1+1+1,0,none⟩) 1 1) rfl;have u6:=updC hm [rowO [0],rowO [-1,1],rowO [-1],rowO [-1,0],rowO [1],rowO [0,1]] w1 (ent w1 5).toArray 5 16 (.slice (some ⟨w1.heap.size+1+1+1+1+1+1,0,none⟩) 2 2) rfl;have lk:=z1ae hm [rowO [0],rowO [-1,1],rowO [-1],rowO [-1,0],rowO [1],rowO [0,1]] w1 (ent w1 6).toArray 6 12 1 (.slice (some ⟨w1.heap.size+1+1,0,none⟩) 2 2) rfl;have hro:=zjw (zjv [rowO [0],rowO [-1,1],rowO [-1],rowO [-1,0],rowO [1],rowO [0,1]] w1 (.map (ent w1 6).toArray 6) 1 (rowO [-1,1]) rfl);have hce:=zjx [rowO [0],rowO [-1,1],rowO [-1],rowO [-1,0],rowO [1],rowO [0,1]] w1 (.map (ent w1 6).toArray 6);simp only[yu,y2e,ent,sgn,rowO,y1z,y1y,y2y,y2z,yr,y1m,yt,y1w,y30,y16,yz,y15,Nat.reduceAdd]at u1 u2 u3 u4 u5 u6 lk hro hce)
  |(go_at_call 206;refine(Tryz.slices_Contains_int (w1.heap.size+1+1) 0 2 2 [-1,1] (cmpV a b).1 _ (by decide) (by decide) (fun j hj=>by rw[y15];exact hro j hj)).mono ?_;rintro e w2 ⟨rfl,rfl⟩;simp only[z2kd])
  |(go_at_call 39;refine(hB _ _ (hld.ext (hx.trans hce))).mono ?_;rintro e w3 ⟨rfl,h3⟩;have hlt:w.heap.size+1+1<w1.heap.size:=z6e (p:=⟨w.heap.size+1+1,0,none⟩) z0;have h4:=hce.trans h3;have hz3:=(h4.block hlt).trans hz;obtain⟨y0,y1,y2,p0⟩:=zcq hz3))
 refine bodyPost_ret (v:=.agg #[.int .i64 (z24 (soB 12 (cmpV a b).1)).kind,.int .i64 (z24 (soB 12 (cmpV a b).1)).n,.string (z24 (soB 12 (cmpV a b).1)).s]) (by unfold results;go_simp) rfl ?_;refine⟨rfl,?_⟩;have h5:=hx.trans h4;exact((h5.setCell (by show w.heap.size≤w.heap.size+1+1;omega) _).setCell (by show w.heap.size≤w.heap.size+1+1;omega) _).setCell (by show w.heap.size≤w.heap.size+1+1;omega) _
theorem z2ke(c:Int):(List.take 1 ([-1]:List Int)).contains c=soB 13 c:=by
 simp only[y1y,y1z,y2v,y2w,y2x];unfold soB;rw[if_neg (by decide),if_neg (by decide),if_pos rfl,y2c];simp only[y1f,beq_iff_eq,decide_eq_true_eq]
set_option maxHeartbeats 2000000 in
theorem z24t(a b:Val)(w:World)(hld:Laid w)(hc:∀W,Laid W→Calls Tryz.prog 152 #[aggV a,aggV b] W fun e w'=>e=.returned (.tuple #[.int .i64 (cmpV a b).1,.bool true])∧Ext W w')
  (hB:∀W x,Laid W→Calls Tryz.prog 39 #[.bool x] W fun e w'=>e=.returned (.agg #[.int .i64 (z24 x).kind,.int .i64 (z24 x).n,.string (z24 x).s])∧Ext W w'):
  Calls Tryz.prog 164 #[.int .i64 13,aggV a,aggV b] w fun e w'=>e=.returned (aggV (z24 (soB 13 (cmpV a b).1)))∧Ext w w':=by
 unfold aggV at hc ⊢;have mixed:Tryz.prog.follows .mixedOrders=true:=by kernel_rfl
 have hmm:=@run_makeMap Tryz.prog;have hm:Tryz.prog.underlying 193=some (.map 3 42):=by kernel_rfl
 go_enter Tryz.func164,Tryz.ntmps164
 go_wp2_with (first
  |(go_at_call 152;refine(hc _ (hld.ext ((((Ext.refl w).alloc _).alloc _).alloc _))).mono ?_;rintro e w1 ⟨rfl,h1⟩;have hz:=zje h1;obtain⟨z0,z1,z2,q0⟩:=zcq hz;have hx:Ext w w1:=((((Ext.refl w).alloc _).alloc _).alloc _).trans h1;have u1:=updC hm [rowO [0]] w1 (ent w1 0).toArray 0 11 (.slice (some ⟨w1.heap.size+1,0,none⟩) 1 1) rfl;have u2:=updC hm [rowO [0],rowO [-1,1]] w1 (ent w1 1).toArray 1 12 (.slice (some ⟨w1.heap.size+1+1,0,none⟩) 2 2) rfl;have u3:=updC hm [rowO [0],rowO [-1,1],rowO [-1]] w1 (ent w1 2).toArray 2 13 (.slice (some ⟨w1.heap.size+1+1+1,0,none⟩) 1 1) rfl;have u4:=updC hm [rowO [0],rowO [-1,1],rowO [-1],rowO [-1,0]] w1 (ent w1 3).toArray 3 14 (.slice (some ⟨w1.heap.size+1+1+1+1,0,none⟩) 2 2) rfl;have u5:=updC hm [rowO [0],rowO [-1,1],rowO [-1],rowO [-1,0],rowO [1]] w1 (ent w1 4).toArray 4 15 (.slice (some ⟨w1.heap.size+1+1+1+1+1,0,none⟩) 1 1) rfl;have u6:=updC hm [rowO [0],rowO [-1,1],rowO [-1],rowO [-1,0],rowO [1],rowO [0,1]] w1 (ent w1 5).toArray 5 16 (.slice (some ⟨w1.heap.size+1+1+1+1+1+1,0,none⟩) 2 2) rfl;have lk:=z1ae hm [rowO [0],rowO [-1,1],rowO [-1],rowO [-1,0],rowO [1],rowO [0,1]] w1 (ent w1 6).toArray 6 13 2 (.slice (some ⟨w1.heap.size+1+1+1,0,none⟩) 1 1) rfl;have hro:=zjw (zjv [rowO [0],rowO [-1,1],rowO [-1],rowO [-1,0],rowO [1],rowO [0,1]] w1 (.map (ent w1 6).toArray 6) 2 (rowO [-1]) rfl);have hce:=zjx [rowO [0],rowO [-1,1],rowO [-1],rowO [-1,0],rowO [1],rowO [0,1]] w1 (.map (ent w1 6).toArray 6);simp only[yu,y2e,ent,sgn,rowO,y1z,y1y,y2y,y2z,yr,y1m,yt,y1w,y30,y16,yz,y15,Nat.reduceAdd]at u1 u2 u3 u4 u5 u6 lk hro hce)
  |(go_at_call 206;refine(Tryz.slices_Contains_int (w1.heap.size+1+1+1) 0 1 1 [-1] (cmpV a b).1 _ (by decide) (by decide) (fun j hj=>by rw[y15];exact hro j hj)).mono ?_;rintro e w2 ⟨rfl,rfl⟩;simp only[z2ke])
  |(go_at_call 39;refine(hB _ _ (hld.ext (hx.trans hce))).mono ?_;rintro e w3 ⟨rfl,h3⟩;have hlt:w.heap.size+1+1<w1.heap.size:=z6e (p:=⟨w.heap.size+1+1,0,none⟩) z0;have h4:=hce.trans h3;have hz3:=(h4.block hlt).trans hz;obtain⟨y0,y1,y2,p0⟩:=zcq hz3))
 refine bodyPost_ret (v:=.agg #[.int .i64 (z24 (soB 13 (cmpV a b).1)).kind,.int .i64 (z24 (soB 13 (cmpV a b).1)).n,.string (z24 (soB 13 (cmpV a b).1)).s]) (by unfold results;go_simp) rfl ?_;refine⟨rfl,?_⟩;have h5:=hx.trans h4;exact((h5.setCell (by show w.heap.size≤w.heap.size+1+1;omega) _).setCell (by show w.heap.size≤w.heap.size+1+1;omega) _).setCell (by show w.heap.size≤w.heap.size+1+1;omega) _
theorem z2kf(c:Int):(List.take 2 ([-1,0]:List Int)).contains c=soB 14 c:=by
 simp only[y1y,y1z,y2v,y2w,y2x];unfold soB;rw[if_neg (by decide),if_neg (by decide),if_neg (by decide),if_pos rfl,y2c];simp only[y1f,beq_iff_eq,decide_eq_true_eq]
set_option maxHeartbeats 2000000 in
theorem z24u(a b:Val)(w:World)(hld:Laid w)(hc:∀W,Laid W→Calls Tryz.prog 152 #[aggV a,aggV b] W fun e w'=>e=.returned (.tuple #[.int .i64 (cmpV a b).1,.bool true])∧Ext W w')
  (hB:∀W x,Laid W→Calls Tryz.prog 39 #[.bool x] W fun e w'=>e=.returned (.agg #[.int .i64 (z24 x).kind,.int .i64 (z24 x).n,.string (z24 x).s])∧Ext W w'):
  Calls Tryz.prog 164 #[.int .i64 14,aggV a,aggV b] w fun e w'=>e=.returned (aggV (z24 (soB 14 (cmpV a b).1)))∧Ext w w':=by
 unfold aggV at hc ⊢;have mixed:Tryz.prog.follows .mixedOrders=true:=by kernel_rfl
 have hmm:=@run_makeMap Tryz.prog;have hm:Tryz.prog.underlying 193=some (.map 3 42):=by kernel_rfl
 go_enter Tryz.func164,Tryz.ntmps164
 go_wp2_with (first
  |(go_at_call 152;refine(hc _ (hld.ext ((((Ext.refl w).alloc _).alloc _).alloc _))).mono ?_;rintro e w1 ⟨rfl,h1⟩;have hz:=zje h1;obtain⟨z0,z1,z2,q0⟩:=zcq hz;have hx:Ext w w1:=((((Ext.refl w).alloc _).alloc _).alloc _).trans h1;have u1:=updC hm [rowO [0]] w1 (ent w1 0).toArray 0 11 (.slice (some ⟨w1.heap.size+1,0,none⟩) 1 1) rfl;have u2:=updC hm [rowO [0],rowO [-1,1]] w1 (ent w1 1).toArray 1 12 (.slice (some ⟨w1.heap.size+1+1,0,none⟩) 2 2) rfl;have u3:=updC hm [rowO [0],rowO [-1,1],rowO [-1]] w1 (ent w1 2).toArray 2 13 (.slice (some ⟨w1.heap.size+1+1+1,0,none⟩) 1 1) rfl;have u4:=updC hm [rowO [0],rowO [-1,1],rowO [-1],rowO [-1,0]] w1 (ent w1 3).toArray 3 14 (.slice (some ⟨w1.heap.size+1+1+1+1,0,none⟩) 2 2) rfl;have u5:=updC hm [rowO [0],rowO [-1,1],rowO [-1],rowO [-1,0],rowO [1]] w1 (ent w1 4).toArray 4 15 (.slice (some ⟨w1.heap.size+1+1+1+1+1,0,none⟩) 1 1) rfl;have u6:=updC hm [rowO [0],rowO [-1,1],rowO [-1],rowO [-1,0],rowO [1],rowO [0,1]] w1 (ent w1 5).toArray 5 16 (.slice (some ⟨w1.heap.size+1+1+1+1+1+1,0,none⟩) 2 2) rfl;have lk:=z1ae hm [rowO [0],rowO [-1,1],rowO [-1],rowO [-1,0],rowO [1],rowO [0,1]] w1 (ent w1 6).toArray 6 14 3 (.slice (some ⟨w1.heap.size+1+1+1+1,0,none⟩) 2 2) rfl;have hro:=zjw (zjv [rowO [0],rowO [-1,1],rowO [-1],rowO [-1,0],rowO [1],rowO [0,1]] w1 (.map (ent w1 6).toArray 6) 3 (rowO [-1,0]) rfl);have hce:=zjx [rowO [0],rowO [-1,1],rowO [-1],rowO [-1,0],rowO [1],rowO [0,1]] w1 (.map (ent w1 6).toArray 6);simp only[yu,y2e,ent,sgn,rowO,y1z,y1y,y2y,y2z,yr,y1m,yt,y1w,y30,y16,yz,y15,Nat.reduceAdd]at u1 u2 u3 u4 u5 u6 lk hro hce)
  |(go_at_call 206;refine(Tryz.slices_Contains_int (w1.heap.size+1+1+1+1) 0 2 2 [-1,0] (cmpV a b).1 _ (by decide) (by decide) (fun j hj=>by rw[y15];exact hro j hj)).mono ?_;rintro e w2 ⟨rfl,rfl⟩;simp only[z2kf])
  |(go_at_call 39;refine(hB _ _ (hld.ext (hx.trans hce))).mono ?_;rintro e w3 ⟨rfl,h3⟩;have hlt:w.heap.size+1+1<w1.heap.size:=z6e (p:=⟨w.heap.size+1+1,0,none⟩) z0;have h4:=hce.trans h3;have hz3:=(h4.block hlt).trans hz;obtain⟨y0,y1,y2,p0⟩:=zcq hz3))
 refine bodyPost_ret (v:=.agg #[.int .i64 (z24 (soB 14 (cmpV a b).1)).kind,.int .i64 (z24 (soB 14 (cmpV a b).1)).n,.string (z24 (soB 14 (cmpV a b).1)).s]) (by unfold results;go_simp) rfl ?_;refine⟨rfl,?_⟩;have h5:=hx.trans h4;exact((h5.setCell (by show w.heap.size≤w.heap.size+1+1;omega) _).setCell (by show w.heap.size≤w.heap.size+1+1;omega) _).setCell (by show w.heap.size≤w.heap.size+1+1;omega) _
theorem z2kg(c:Int):(List.take 1 ([1]:List Int)).contains c=soB 15 c:=by
 simp only[y1y,y1z,y2v,y2w,y2x];unfold soB;rw[if_neg (by decide),if_neg (by decide),if_neg (by decide),if_neg (by decide),if_pos rfl,y2c];simp only[y1f,beq_iff_eq,decide_eq_true_eq]
set_option maxHeartbeats 2000000 in
theorem z24v(a b:Val)(w:World)(hld:Laid w)(hc:∀W,Laid W→Calls Tryz.prog 152 #[aggV a,aggV b] W fun e w'=>e=.returned (.tuple #[.int .i64 (cmpV a b).1,.bool true])∧Ext W w')
  (hB:∀W x,Laid W→Calls Tryz.prog 39 #[.bool x] W fun e w'=>e=.returned (.agg #[.int .i64 (z24 x).kind,.int .i64 (z24 x).n,.string (z24 x).s])∧Ext W w'):
  Calls Tryz.prog 164 #[.int .i64 15,aggV a,aggV b] w fun e w'=>e=.returned (aggV (z24 (soB 15 (cmpV a b).1)))∧Ext w w':=by
 unfold aggV at hc ⊢;have mixed:Tryz.prog.follows .mixedOrders=true:=by kernel_rfl
 have hmm:=@run_makeMap Tryz.prog;have hm:Tryz.prog.underlying 193=some (.map 3 42):=by kernel_rfl
 go_enter Tryz.func164,Tryz.ntmps164
 go_wp2_with (first
  |(go_at_call 152;refine(hc _ (hld.ext ((((Ext.refl w).alloc _).alloc _).alloc _))).mono ?_;rintro e w1 ⟨rfl,h1⟩;have hz:=zje h1;obtain⟨z0,z1,z2,q0⟩:=zcq hz;have hx:Ext w w1:=((((Ext.refl w).alloc _).alloc _).alloc _).trans h1;have u1:=updC hm [rowO [0]] w1 (ent w1 0).toArray 0 11 (.slice (some ⟨w1.heap.size+1,0,none⟩) 1 1) rfl;have u2:=updC hm [rowO [0],rowO [-1,1]] w1 (ent w1 1).toArray 1 12 (.slice (some ⟨w1.heap.size+1+1,0,none⟩) 2 2) rfl;have u3:=updC hm [rowO [0],rowO [-1,1],rowO [-1]] w1 (ent w1 2).toArray 2 13 (.slice (some ⟨w1.heap.size+1+1+1,0,none⟩) 1 1) rfl;have u4:=updC hm [rowO [0],rowO [-1,1],rowO [-1],rowO [-1,0]] w1 (ent w1 3).toArray 3 14 (.slice (some ⟨w1.heap.size+1+1+1+1,0,none⟩) 2 2) rfl;have u5:=updC hm [rowO [0],rowO [-1,1],rowO [-1],rowO [-1,0],rowO [1]] w1 (ent w1 4).toArray 4 15 (.slice (some ⟨w1.heap.size+1+1+1+1+1,0,none⟩) 1 1) rfl;have u6:=updC hm [rowO [0],rowO [-1,1],rowO [-1],rowO [-1,0],rowO [1],rowO [0,1]] w1 (ent w1 5).toArray 5 16 (.slice (some ⟨w1.heap.size+1+1+1+1+1+1,0,none⟩) 2 2) rfl;have lk:=z1ae hm [rowO [0],rowO [-1,1],rowO [-1],rowO [-1,0],rowO [1],rowO [0,1]] w1 (ent w1 6).toArray 6 15 4 (.slice (some ⟨w1.heap.size+1+1+1+1+1,0,none⟩) 1 1) rfl;have hro:=zjw (zjv [rowO [0],rowO [-1,1],rowO [-1],rowO [-1,0],rowO [1],rowO [0,1]] w1 (.map (ent w1 6).toArray 6) 4 (rowO [1]) rfl);have hce:=zjx [rowO [0],rowO [-1,1],rowO [-1],rowO [-1,0],rowO [1],rowO [0,1]] w1 (.map (ent w1 6).toArray 6);simp only[yu,y2e,ent,sgn,rowO,y1z,y1y,y2y,y2z,yr,y1m,yt,y1w,y30,y16,yz,y15,Nat.reduceAdd]at u1 u2 u3 u4 u5 u6 lk hro hce)
  |(go_at_call 206;refine(Tryz.slices_Contains_int (w1.heap.size+1+1+1+1+1) 0 1 1 [1] (cmpV a b).1 _ (by decide) (by decide) (fun j hj=>by rw[y15];exact hro j hj)).mono ?_;rintro e w2 ⟨rfl,rfl⟩;simp only[z2kg])
  |(go_at_call 39;refine(hB _ _ (hld.ext (hx.trans hce))).mono ?_;rintro e w3 ⟨rfl,h3⟩;have hlt:w.heap.size+1+1<w1.heap.size:=z6e (p:=⟨w.heap.size+1+1,0,none⟩) z0;have h4:=hce.trans h3;have hz3:=(h4.block hlt).trans hz;obtain⟨y0,y1,y2,p0⟩:=zcq hz3))
 refine bodyPost_ret (v:=.agg #[.int .i64 (z24 (soB 15 (cmpV a b).1)).kind,.int .i64 (z24 (soB 15 (cmpV a b).1)).n,.string (z24 (soB 15 (cmpV a b).1)).s]) (by unfold results;go_simp) rfl ?_;refine⟨rfl,?_⟩;have h5:=hx.trans h4;exact((h5.setCell (by show w.heap.size≤w.heap.size+1+1;omega) _).setCell (by show w.heap.size≤w.heap.size+1+1;omega) _).setCell (by show w.heap.size≤w.heap.size+1+1;omega) _
theorem z2kh(c:Int):(List.take 2 ([0,1]:List Int)).contains c=soB 16 c:=by
 simp only[y1y,y1z,y2v,y2w,y2x];unfold soB;rw[if_neg (by decide),if_neg (by decide),if_neg (by decide),if_neg (by decide),if_neg (by decide),y2c];simp only[y1f,beq_iff_eq,decide_eq_true_eq]
set_option maxHeartbeats 2000000 in
theorem z24w(a b:Val)(w:World)(hld:Laid w)(hc:∀W,Laid W→Calls Tryz.prog 152 #[aggV a,aggV b] W fun e w'=>e=.returned (.tuple #[.int .i64 (cmpV a b).1,.bool true])∧Ext W w')
  (hB:∀W x,Laid W→Calls Tryz.prog 39 #[.bool x] W fun e w'=>e=.returned (.agg #[.int .i64 (z24 x).kind,.int .i64 (z24 x).n,.string (z24 x).s])∧Ext W w'):
  Calls Tryz.prog 164 #[.int .i64 16,aggV a,aggV b] w fun e w'=>e=.returned (aggV (z24 (soB 16 (cmpV a b).1)))∧Ext w w':=by
 unfold aggV at hc ⊢;have mixed:Tryz.prog.follows .mixedOrders=true:=by kernel_rfl
 have hmm:=@run_makeMap Tryz.prog;have hm:Tryz.prog.underlying 193=some (.map 3 42):=by kernel_rfl
 go_enter Tryz.func164,Tryz.ntmps164
 go_wp2_with (first
  |(go_at_call 152;refine(hc _ (hld.ext ((((Ext.refl w).alloc _).alloc _).alloc _))).mono ?_;rintro e w1 ⟨rfl,h1⟩;have hz:=zje h1;obtain⟨z0,z1,z2,q0⟩:=zcq hz;have hx:Ext w w1:=((((Ext.refl w).alloc _).alloc _).alloc _).trans h1;have u1:=updC hm [rowO [0]] w1 (ent w1 0).toArray 0 11 (.slice (some ⟨w1.heap.size+1,0,none⟩) 1 1) rfl;have u2:=updC hm [rowO [0],rowO [-1,1]] w1 (ent w1 1).toArray 1 12 (.slice (some ⟨w1.heap.size+1+1,0,none⟩) 2 2) rfl;have u3:=updC hm [rowO [0],rowO [-1,1],rowO [-1]] w1 (ent w1 2).toArray 2 13 (.slice (some ⟨w1.heap.size+1+1+1,0,none⟩) 1 1) rfl;have u4:=updC hm [rowO [0],rowO [-1,1],rowO [-1],rowO [-1,0]] w1 (ent w1 3).toArray 3 14 (.slice (some ⟨w1.heap.size+1+1+1+1,0,none⟩) 2 2) rfl;have u5:=updC hm [rowO [0],rowO [-1,1],rowO [-1],rowO [-1,0],rowO [1]] w1 (ent w1 4).toArray 4 15 (.slice (some ⟨w1.heap.size+1+1+1+1+1,0,none⟩) 1 1) rfl;have u6:=updC hm [rowO [0],rowO [-1,1],rowO [-1],rowO [-1,0],rowO [1],rowO [0,1]] w1 (ent w1 5).toArray 5 16 (.slice (some ⟨w1.heap.size+1+1+1+1+1+1,0,none⟩) 2 2) rfl;have lk:=z1ae hm [rowO [0],rowO [-1,1],rowO [-1],rowO [-1,0],rowO [1],rowO [0,1]] w1 (ent w1 6).toArray 6 16 5 (.slice (some ⟨w1.heap.size+1+1+1+1+1+1,0,none⟩) 2 2) rfl;have hro:=zjw (zjv [rowO [0],rowO [-1,1],rowO [-1],rowO [-1,0],rowO [1],rowO [0,1]] w1 (.map (ent w1 6).toArray 6) 5 (rowO [0,1]) rfl);have hce:=zjx [rowO [0],rowO [-1,1],rowO [-1],rowO [-1,0],rowO [1],rowO [0,1]] w1 (.map (ent w1 6).toArray 6);simp only[yu,y2e,ent,sgn,rowO,y1z,y1y,y2y,y2z,yr,y1m,yt,y1w,y30,y16,yz,y15,Nat.reduceAdd]at u1 u2 u3 u4 u5 u6 lk hro hce)
  |(go_at_call 206;refine(Tryz.slices_Contains_int (w1.heap.size+1+1+1+1+1+1) 0 2 2 [0,1] (cmpV a b).1 _ (by decide) (by decide) (fun j hj=>by rw[y15];exact hro j hj)).mono ?_;rintro e w2 ⟨rfl,rfl⟩;simp only[z2kh])
  |(go_at_call 39;refine(hB _ _ (hld.ext (hx.trans hce))).mono ?_;rintro e w3 ⟨rfl,h3⟩;have hlt:w.heap.size+1+1<w1.heap.size:=z6e (p:=⟨w.heap.size+1+1,0,none⟩) z0;have h4:=hce.trans h3;have hz3:=(h4.block hlt).trans hz;obtain⟨y0,y1,y2,p0⟩:=zcq hz3))
 refine bodyPost_ret (v:=.agg #[.int .i64 (z24 (soB 16 (cmpV a b).1)).kind,.int .i64 (z24 (soB 16 (cmpV a b).1)).n,.string (z24 (soB 16 (cmpV a b).1)).s]) (by unfold results;go_simp) rfl ?_;refine⟨rfl,?_⟩;have h5:=hx.trans h4;exact((h5.setCell (by show w.heap.size≤w.heap.size+1+1;omega) _).setCell (by show w.heap.size≤w.heap.size+1+1;omega) _).setCell (by show w.heap.size≤w.heap.size+1+1;omega) _
theorem z20m{St:Nat→Nat→Prop}{w:World}{v:Value}{a:Val}(h:DRel Tryz.prog En St w v (.d (.agg (enc .val a)))):v=aggV a∧WI a.kind∧WI a.n∧WStr a.s:=by
 obtain⟨arr,rfl,hall⟩:=h;have e:arr=arr.toList.toArray:=y4c.symm;rw[e];generalize arr.toList=l at hall
 match l,hall with
 |[x0,x1,x2],⟨h0,h1,h2,_⟩=>
  have g0:VRel En St w x0 (.s (.int .i64 a.kind)):=h0;have g1:VRel En St w x1 (.s (.int .i64 a.n)):=h1;have g2:VRel En St w x2 (.s (.string a.s)):=h2;cases g0 with
  |s _ k0=>cases g1 with
   |s _ k1=>cases g2 with
    |s _ k2=>exact⟨rfl,oneC_i64.1 k0,oneC_i64.1 k1,oneC_str.1 k2⟩
theorem z26f{St:Nat→Nat→Prop}{w:World}{a:Val}(h1:WI a.kind)(h2:WI a.n)(h3:WStr a.s):DRel Tryz.prog En St w (aggV a) (.d (.agg (enc .val a))):=
 ⟨_,rfl,.s _ (oneC_i64.2 h1),.s _ (oneC_i64.2 h2),.s _ (oneC_str.2 h3),trivial⟩
theorem z1w9{a b:Val}(ha:WI a.kind∧WI a.n∧WStr a.s)(hb:WI b.kind∧WI b.n∧WStr b.s)(W:World)(hlW:Laid W):Calls Tryz.prog 152 #[aggV a,aggV b] W fun e w'=>e=.returned (.tuple #[.int .i64 (cmpV a b).1,.bool (cmpV a b).2])∧Ext W w':=by
 have hF:z89 [.d (.agg (enc .val a)),.d (.agg (enc .val b))]=some ([],z4h (z1t a b),z4i (z1t a b)):=by
  unfold z89;simp only[zyn];rfl
 have hc:=(zjc _ _ _ _ hF (by simp)).1 W (fun _ _=>False) [aggV a,aggV b] (fun _ _ h=>h.elim) ⟨z26f ha.1 ha.2.1 ha.2.2,z26f hb.1 hb.2.1 hb.2.2,trivial⟩ hlW;refine hc.mono ?_;rintro e w' ⟨v,rfl,hx,g,_,_,_,hr,_⟩;refine⟨?_,hx⟩;rw[z1gr]at hr;obtain⟨arr,rfl,hall⟩:=hr;have e:arr=arr.toList.toArray:=y4c.symm;rw[e];generalize arr.toList=l at hall
 match l,hall with
 |[x0,x1],⟨h0,h1,_⟩=>
  obtain⟨rfl,_⟩:=h0;obtain⟨rfl,_⟩:=h1;rfl
theorem zgl(W:World)(x:Bool)(hlW:Laid W):Calls Tryz.prog 39 #[.bool x] W fun e w'=>e=.returned (.agg #[.int .i64 (z24 x).kind,.int .i64 (z24 x).n,.string (z24 x).s])∧Ext W w':=by
 have hF:zcp [.d (.v (cb x))]=some ([],zu1 (z2y x),zu2 (z2y x)):=by
  unfold zcp;simp only[z2k5];rfl
 have hc:=(zqq _ _ _ _ hF (by simp)).1 W (fun _ _=>False) [.bool x] (fun _ _ h=>h.elim) ⟨.s _ rfl,trivial⟩ hlW;refine hc.mono ?_;rintro e w' ⟨v,rfl,hx,g,_,_,_,hr,_⟩;refine⟨?_,hx⟩;rw[zvs]at hr;obtain⟨arr,rfl,hall⟩:=hr;have e:arr=arr.toList.toArray:=y4c.symm;rw[e];generalize arr.toList=l at hall
 match l,hall with
 |[x0,x1,x2],⟨h0,h1,h2,_⟩=>
  obtain⟨rfl,_⟩:=h0;obtain⟨rfl,_⟩:=h1;obtain⟨rfl,_⟩:=h2;rfl
theorem z29b(op:Int)(a b:Val):WI (cmpO op a b).kind∧WI (cmpO op a b).n∧WStr (cmpO op a b).s:=by
 unfold cmpO z24 z7;split
 ·refine⟨by simp only;omega,?_,by show(0:Nat)≤_;omega⟩;simp only;split<;>omega
 ·exact⟨by simp only;omega,by simp only;omega,by show(0:Nat)≤_;omega⟩
theorem zpv:FnOK 164 zbz:=by
 intro args ob rs os h hob;unfold zbz at h;split at h
 ·rename_i x0 x1 x2;simp only[y7,y8,ym]at h;obtain⟨op,e0,a,e1,b,e2,rfl,rfl,rfl⟩:=h;obtain rfl:=z1a e0;obtain rfl:=zr e1;obtain rfl:=zr e2;refine⟨?_,zj Tryz.func164 (by kernel_rfl) (by kernel_rfl)⟩;have hr:=hob _ (yi.2 rfl);intro w St vs hbd hvs hld
  match vs,hvs with
  |[v0,v1,v2],⟨h0,h1,h2,_⟩=>
   obtain⟨rfl,-⟩:=ztt h0;obtain⟨rfl,ha⟩:=z20m h1;obtain⟨rfl,hb⟩:=z20m h2;have hc:=z1w9 ha hb;have main:Calls Tryz.prog 164 #[.int .i64 op,aggV a,aggV b] w fun e w'=>e=.returned (aggV (cmpO op a b))∧Ext w w':=by
    unfold cmpO;cases hk:(cmpV a b).2
    ·rw[if_neg (by decide)];rw[hk]at hc;exact z1w8 op a b w hk hld hc
    ·rw[if_pos rfl];rw[hk]at hc;have hcase:op=11∨op=12∨op=13∨op=14∨op=15∨op=16:=by omega
     rcases hcase with rfl|rfl|rfl|rfl|rfl|rfl
     ·exact z24r a b w hld hc zgl
     ·exact z24s a b w hld hc zgl
     ·exact z24t a b w hld hc zgl
     ·exact z24u a b w hld hc zgl
     ·exact z24v a b w hld hc zgl
     ·exact z24w a b w hld hc zgl
   refine main.mono ?_;rintro e w' ⟨rfl,hx⟩;obtain⟨k0,k1,k2⟩:=z29b op a b;let gg:G:={β:=fun _=>0,lb:=fun _=>False,ω:=fun _ _=>none,tk:=fun _=>(none,0)};exact⟨_,rfl,hx,gg,fun _ h=>h,fun b o x _ h=>by simp[gg]at h,fun b o x h=>by simp[gg]at h,⟨_,rfl,⟨rfl,oneC_i64.2 k0⟩,⟨rfl,oneC_i64.2 k1⟩,⟨rfl,oneC_str.2 k2⟩,trivial⟩,fun k o h=>by simp at h⟩
 ·simp at h
end Go.Proofs.YtjfpbchdcbhfgaaGreat.B
