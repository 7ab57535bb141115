/- Part 22 of the proof: Sagg2 Snaive1. -/
import Derived.Test.YtjfpbchdcbhfgaaGreatNsrt21
namespace Go.Proofs.YtjfpbchdcbhfgaaGreat.B
open Go Go.RowKit
set_option maxRecDepth 100000
noncomputable section
attribute [local irreducible] awp ctxK z12 z1o retQ z2i awf ctxF zt
def za3 : Mc Un:=mach (tbl []) (tbl []) (tbl []) (tbl []) (tbl [])
def zyt (r:Int×Bool) : List (A Un):=[.c (.s (.int .i64 r.1)),.c (.s (.bool r.2))]
def zyu (_r:Int×Bool) : List (Ob Un):=[]
def zmu (r:Int×Bool) : RF Un:=(zyt r,zyu r)
def za4 : Nat→NS:=fun l=>(look l [(3,{ ts:=bl 49 1813,bs:=bl 49 16,nm:=[] })]).getD ⟨[],[],[],[],[],false⟩
def z68 (x:List Val) (t:Val) (p:Val→Val→Int) (v0:Int) (v1:Int) : S Un:=(st 49 49 196 0 [(0,al .val x),(2,AV.one (A.c (C.fv (z1c p)))),(4,ax 4),(8,ai (↑x.length:Int)),(9,ai v0),(10,ai v1)] [(4,bg .val t)] [])
noncomputable def zv4 : Code:=sub (z8 Tryz.f222) [1,1,1,0,2,2]
def zbn : S Un→Option (EX Un):=zt (za4 3) (fun s Q=>awf za3 za4 zv4 s Q)
def zv5 : Exit→S Un→Option (RF Un):=ctxF za3 za4 (z8 Tryz.f222) [1,1,1,0,2] (retF za3 Tryz.f222.results.toList [.d,.d])
def zv6 (x:List Val) (t:Val) (p:Val→Val→Int) : Option (RF Un):=awf za3 za4 (z8 Tryz.f222) (zg Tryz.f222.ntmps 0 [.d (.v (.dat (U:=Un) Ty.val x)),.d (.agg (enc Ty.val t)),.fn (z1c p)]) (retF za3 Tryz.f222.results.toList [.d,.d])
theorem z1ha (x:List Val) (t:Val) (p:Val→Val→Int) : zv6 x t p=(zbn (z68 x t p (0:Int) (↑x.length:Int))).bind (zx zv5):=by kernel_rfl
theorem z1hb (x:List Val) (t:Val) (p:Val→Val→Int) (v0:Int) (v1:Int) : zbn (z68 x t p v0 v1)=cndO (decide (v0<v1)) (obO (¬(1:Int)<(0:Int)) (obO (0≤IntKind.i64.wrap ((IntKind.u64.wrap (IntKind.i64.wrap (v0+v1))).fdiv ((2:Int) ^ min 1 IntKind.u64.bits))∧IntKind.i64.wrap ((IntKind.u64.wrap (IntKind.i64.wrap (v0+v1))).fdiv ((2:Int) ^ min 1 IntKind.u64.bits))<(↑x.length:Int)) (cndO (decide (p (x.getD (IntKind.i64.wrap ((IntKind.u64.wrap (IntKind.i64.wrap (v0+v1))).fdiv ((2:Int) ^ min 1 IntKind.u64.bits))).toNat z7) t<0)) (zbn (z68 x t p (IntKind.i64.wrap (IntKind.i64.wrap ((IntKind.u64.wrap (IntKind.i64.wrap (v0+v1))).fdiv ((2:Int) ^ min 1 IntKind.u64.bits))+1)) v1)) (zbn (z68 x t p v0 (IntKind.i64.wrap ((IntKind.u64.wrap (IntKind.i64.wrap (v0+v1))).fdiv ((2:Int) ^ min 1 IntKind.u64.bits)))))))) (some (.exit 0,(z68 x t p v0 v1))):=(z11 (za4 3) zv4 _).trans (by kernel_rfl)
theorem z14s (x:List Val) (t:Val) (p:Val→Val→Int) (v0:Int) (v1:Int) : zv5 (.exit 0) (z68 x t p v0 v1)=cndO (decide (v0<(↑x.length:Int))) (obO (0≤v0∧v0<(↑x.length:Int)) (some (zmu (v0,p (x.getD v0.toNat z7) t == 0)))) (some (zmu (v0,false))):=by kernel_rfl
def posP (p:Val→Val→Int) (x:List Val) (t:Val) : Nat:=(x.takeWhile fun y=>decide (p y t<0)).length
def z1d9 (p:Val→Val→Int) (x:List Val) (t:Val) : Prop:=x.length≤1000000000∧∀ i,posP p x t≤i→i<x.length→¬ p (x.getD i z7) t<0
def z6i (x:List Val) (t:Val) (p:Val→Val→Int) : Int×Bool:=(posP p x t,decide (posP p x t<x.length) && p (x.getD (posP p x t) z7) t == 0)
theorem zyv {p:Val→Bool} : ∀ (l:List Val) (i:Nat),i<(l.takeWhile p).length→p (l.getD i z7)=true
 | [],i,h=>by simp at h
 | y::l,i,h=>by
  rw[List.takeWhile_cons] at h
  split at h
  ·rename_i hy
   cases i with
   | zero=>simpa using hy
   | succ i=>simp only[List.length_cons] at h;simpa using zyv l i (by omega)
  ·simp at h
theorem z23j (p:Val→Val→Int) (x:List Val) (t:Val) : posP p x t≤x.length:=(List.takeWhile_sublist _).length_le
theorem z23k {a b:Int} (ha:0≤a) (hb:0≤b) (h:a+b≤4000000000) : IntKind.i64.wrap ((IntKind.u64.wrap (IntKind.i64.wrap (a+b))).fdiv ((2:Int) ^ min 1 IntKind.u64.bits))=(a+b) / 2:=by
 have e1:IntKind.i64.wrap (a+b)=a+b:=z2n (by omega)
 have e2:IntKind.u64.wrap (a+b)=a+b:=by
  have hb:IntKind.u64.bits=64:=rfl
  have hs:IntKind.u64.signed=false:=rfl
  unfold IntKind.wrap
  simp only[hb,hs,Bool.false_and,Bool.false_eq_true,if_false]
  omega
 have e3:((2:Int) ^ min 1 IntKind.u64.bits)=2:=by decide
 rw[e1,e2,e3,Int.fdiv_eq_ediv_of_nonneg _ (by decide)]
 exact z2n (by omega)
theorem z1qb (x:List Val) (t:Val) (p:Val→Val→Int) (h:z1d9 p x t) : ∀ (k a b:Nat),b - a=k→a≤posP p x t→posP p x t≤b→b≤x.length →
  zbn (z68 x t p a b)=some (.exit 0,z68 x t p (posP p x t:Nat) (posP p x t:Nat)):=by
 intro k
 induction k using Nat.strongRecOn with
 | _ k ih =>
  intro a b hk h1 h2 h3
  have hl:=h.1
  rw[z1hb]
  simp only[za,z1yl,z23k (a:=(a:Int)) (b:=(b:Int)) (by omega) (by omega) (by omega)]
  by_cases hab : (a:Int)<b
  ·obtain⟨c,hc⟩ : ∃ c : Nat,((a:Int)+b) / 2=c:=⟨(a+b) / 2,by omega⟩
   have hc2:c=(a+b) / 2:=by omega
   rw[hc]
   have hcl:(c:Int)<x.length:=by omega
   rw[if_pos (by simpa using hab),if_pos (by decide),if_pos ⟨by omega,hcl⟩,Int.toNat_natCast]
   by_cases hp : p (x.getD c z7) t<0
   ·have : c<posP p x t:=by
     rcases Nat.lt_or_ge c (posP p x t) with g | g
     ·exact g
     ·exact (h.2 c g (by omega) hp).elim
    rw[if_pos (by simpa using hp),z2n (by omega)]
    exact ih (b - (c+1)) (by omega) (c+1) b rfl (by omega) h2 h3
   ·have : posP p x t≤c:=by
     rcases Nat.lt_or_ge c (posP p x t) with g | g
     ·have:=zyv (p:=fun y=>decide (p y t<0)) x c g
      simp only[decide_eq_true_eq] at this
      exact (hp this).elim
     ·exact g
    rw[if_neg (by simpa using hp)]
    exact ih (c - a) (by omega) a c rfl h1 this (by omega)
  ·rw[if_neg (by simpa using hab)]
   have e1:a=posP p x t:=by omega
   have e2:b=posP p x t:=by omega
   rw[e1,e2]
theorem z19t (x:List Val) (t:Val) (p:Val→Val→Int) (_hx:WL .val x) (_ht:WS .val t) (h:z1d9 p x t) : zv6 x t p=some (zmu (z6i x t p)):=by
 rw[z1ha]
 have hl:=z1qb x t p h x.length 0 x.length rfl (Nat.zero_le _) (z23j p x t) (Nat.le_refl _)
 erw[hl]
 simp only[Option.bind_some,zx,z14s,za,z1yl,Int.toNat_natCast]
 unfold z6i
 by_cases hp : posP p x t<x.length
 ·have : (posP p x t:Int)<x.length:=by omega
  simp [this,hp]
 ·have : ¬ (posP p x t:Int)<x.length:=by omega
  simp [this,hp]
def zgr : FnC Un:=fun args=>match args with
 | [x0,x1,x2]=>(dL .val x0).bind fun x=>(dS .val x1).bind fun t=>(dF x2).bind fun p=>some ([p=(z1c (zj p)),z1d9 (zj p) x t],zyt (z6i x t (zj p)),zyu (z6i x t (zj p)))
 | _=>none
theorem z1hc : FnOK 222 zgr:=by
 intro args ob rs os h hob
 unfold zgr at h
 split at h
 ·simp only[Option.bind_eq_some_iff,Option.some.injEq,Prod.mk.injEq] at h
  obtain⟨x,e0,t,e1,p,e2,rfl,rfl,rfl⟩:=h
  obtain rfl:=z1i e0
  obtain rfl:=z18 e1
  obtain rfl:=zki e2
  have hfv0:=hob _ (List.mem_of_getElem? (i:=0) rfl)
  generalize zj p=pp0 at *
  subst hfv0
  exact⟨zd (M:=za3) rfl (zf (l1:=[]) (l2:=[]) (l3:=[]) (l4:=[]) (l5:=[]) trivial trivial trivial trivial trivial) Tryz.func222 (by kernel_rfl) za4 0 [.d,.d] (fun hwf=>(z19t x t pp0 (ze hwf (a:=.d (.v (.dat (U:=Un) Ty.val x))) (List.mem_of_getElem? (i:=0) rfl)) (ze hwf (a:=.d (.agg (enc Ty.val t))) (List.mem_of_getElem? (i:=1) rfl)) (hob _ (List.mem_of_getElem? (i:=1) rfl)))),zb Tryz.func222 (by kernel_rfl) (by kernel_rfl)⟩
 ·simp at h
def zxj : Mc Un:=mach (tbl [(220,zj3),(221,zd3),(222,zgr),(224,zsz)]) (tbl [(147,z2a)]) (tbl []) (tbl [(223,zj4)]) (tbl [])
def z1da (r:Acc) : List (A Un):=[.agg (encC Ty.acc r)]
def z1db (_r:Acc) : List (Ob Un):=[]
def zj5 (r:Acc) : RF Un:=(z1da r,z1db r)
def z1dc : Nat→NS:=fun l=>(look l []).getD ⟨[],[],[],[],[],false⟩
def z16h (x:Acc) (v:Val) : Option (RF Un):=awf zxj z1dc (z8 Tryz.f186) (zg Tryz.f186.ntmps 0 [.d (.agg (enc Ty.acc x)),.d (.agg (enc Ty.val v))]) (retF zxj Tryz.f186.results.toList [.d])
theorem z1t5 (x:Acc) (v:Val) : z16h x v=cndO (!zcf x v) (some (zj5 (x))) (cndO (!x.distinct) (obO (znh x∧(x.name=nmSum→(-1000000000000000:Int)≤v.n∧v.n≤1000000000000000)) (some (zj5 (zc4 x v)))) (obO (z2a=z1c (zj z2a)) (obO (z1d9 (zj z2a) x.l v) (cndO (!(z6i x.l v (zj z2a)).snd) (obO (x.l.length≤(1000000000:Nat)) (obO (((0:Int)≤(z6i x.l v (zj z2a)).fst∧(z6i x.l v (zj z2a)).fst≤(↑x.l.length:Int))∧x.l.length≤(1000000:Nat)∧[v].length=(1:Nat)) (some (zj5 ({ name:=x.name,distinct:=x.distinct,n:=x.n,hi:=x.hi,lo:=x.lo,v:=x.v,l:=List.take (z6i x.l v (zj z2a)).fst.toNat x.l++[v]++List.drop (z6i x.l v (zj z2a)).fst.toNat x.l }))))) (some (zj5 (x))))))):=by kernel_rfl
def accV (k:Nat) (x:Acc) : Prop:=((0≤x.n∧x.n≤k)∧(-(k:Int)≤x.hi∧x.hi≤k)∧-bigM<x.lo∧x.lo<bigM)∧x.l.length≤k∧(x.l.Pairwise fun a b=>ordV a b<0)∧(x.name=nmSum→∀ v∈x.l,-bigM≤v.n∧v.n≤bigM)
theorem accV.mono {k k':Nat} {x:Acc} (h:accV k x) (hk:k≤k') : accV k' x:=⟨⟨⟨h.1.1.1,by have:=h.1.1.2;omega⟩,⟨by have:=h.1.2.1.1;omega,by have:=h.1.2.1.2;omega⟩,h.1.2.2⟩,by have:=h.2.1;omega,h.2.2⟩
theorem accV.ok {k:Nat} {x:Acc} (h:accV k x) (hk:k≤1000000) : znh x:=by
 obtain⟨⟨h1,h2,h3⟩,_⟩:=h
 unfold bigM at h3
 unfold znh;omega
theorem accV.start (a:Agg) : accV 0 (zv0 a):=by
 unfold zv0
 split
 ·split<;>exact⟨⟨by simp,by simp,by show -bigM<(0:Int)∧(0:Int)<bigM;decide⟩,by simp,by simp,by simp⟩
 ·split<;>exact⟨⟨by simp,by simp,by show -bigM<(0:Int)∧(0:Int)<bigM;decide⟩,by simp,by simp,by simp⟩
theorem accV.taken {k:Nat} {x:Acc} (h:accV k x) {v:Val} (hv:x.name=nmSum→-bigM≤v.n∧v.n≤bigM) : accV (k+1) (zbl x v):=by
 obtain⟨t1,t2,t3⟩:=z167 x v
 obtain⟨⟨h1,h2,h3⟩,h4,h5,h6⟩:=h
 refine⟨?_,by rw[t1];omega,by rw[t1];exact h5,by rw[t1,t3];exact h6⟩
 unfold zbl
 by_cases hs : x.name=nmSum
 ·have hv':=hv hs
  have a1:=z21s (n:=x.lo+v.n) (by omega) (by omega)
  have a2:=z19o (x.lo+v.n)
  rw[if_pos hs]
  exact⟨by constructor<;>simp only<;>omega,⟨by simp only;omega,by simp only;omega⟩,a2⟩
 ·rw[if_neg hs]
  have key:(0≤x.n+1∧x.n+1≤((k+1:Nat):Int))∧(-((k+1:Nat):Int)≤x.hi∧x.hi≤((k+1:Nat):Int))∧-bigM<x.lo∧x.lo<bigM:=⟨by omega,by omega,h3⟩
  split
  ·split<;>exact key
  ·split
   ·split<;>exact key
   ·exact key
theorem accV.step {k:Nat} {x:Acc} (h:accV k x) (v:Val) : accV (k+1) (zxd x v):=by
 unfold zxd
 split
 ·rename_i hc
  split
  ·obtain⟨⟨h1,h2,h3⟩,h4,h5,h6⟩:=h
   refine⟨⟨by constructor<;>simp only<;>omega,by constructor<;>simp only<;>omega,h3⟩,?_,z1t3 h5 v,fun hs u hu=>?_⟩
   ·have:=z1t4 x.l v;simp only;omega
   ·rcases (z21t x.l v u).1 hu with g | g
    ·exact h6 hs u g
    ·rw[g];exact zxg hc hs
  ·exact h.taken (fun hs=>zxg hc hs)
 ·exact h.mono (by omega)
def zj6 (x:Acc) : Prop:=accV 500000 x
def zh9 (x:Acc) (v:Val) : Acc:=zxd x v
@[simp] theorem z1t6 (x:Acc) (v:Val) : zh9 x v=zxd x v:=by unfold zh9;rfl
theorem z1kx (l:List Val) (v:Val) : posP ordV l v=posV l v:=rfl
theorem z21x {l:List Val} (h:l.Pairwise fun a b=>ordV a b<0) (hl:l.length≤1000000000) (v:Val) : z1d9 ordV l v:=by
 refine⟨hl,fun i hi hil=>?_⟩
 rw[z1kx] at hi
 refine zxf h (v:=v) _ ?_
 rw[List.mem_iff_getElem?]
 refine⟨i - posV l v,?_⟩
 rw[List.getElem?_drop,show posV l v+(i - posV l v)=i by omega,List.getD_eq_getElem?_getD,List.getElem?_eq_getElem hil];rfl
theorem z1zl {l:List Val} (h:l.Pairwise fun a b=>ordV a b<0) (v:Val) : (decide (posV l v<l.length) && ordV (l.getD (posV l v) z7) v == 0)=true↔v∈l:=by
 rw[Bool.and_eq_true,decide_eq_true_eq,beq_iff_eq]
 constructor
 ·rintro ⟨h1,h2⟩
  have:=ordV_zero.1 h2
  rw[← this,List.getD_eq_getElem?_getD,List.getElem?_eq_getElem h1]
  exact List.getElem_mem h1
 ·intro hm
  have hd:v∈l.drop (posV l v):=by
   have:=hm
   rw[← List.take_append_drop (posV l v) l,List.mem_append] at this
   rcases this with g | g
   ·have:=zxe (l:=l) (v:=v) v g;rw[z1kw] at this;omega
   ·exact g
  have hlt:posV l v<l.length:=by
   rcases Nat.lt_or_ge (posV l v) l.length with g | g
   ·exact g
   ·rw[List.drop_of_length_le g] at hd;simp at hd
  refine⟨hlt,?_⟩
  have hg:l.getD (posV l v) z7=l[posV l v]'hlt:=by rw[List.getD_eq_getElem?_getD,List.getElem?_eq_getElem hlt];rfl
  have hdl:l.drop (posV l v)=l[posV l v]'hlt::l.drop (posV l v+1):=List.drop_eq_getElem_cons hlt
  have hnot:¬ ordV (l.getD (posV l v) z7) v<0:=zxf h (v:=v) _ (by rw[hdl,hg];exact List.mem_cons_self)
  rw[hdl] at hd
  rcases List.mem_cons.1 hd with g | g
  ·rw[hg,← g];exact z1kw v
  ·have hp:(l.drop (posV l v)).Pairwise fun a b=>ordV a b<0:=h.drop
   rw[hdl] at hp
   have:=(List.pairwise_cons.1 hp).1 v g
   rw[hg] at hnot;exact (hnot this).elim
theorem z1md (x:Acc) (v:Val) (_hx:WS .acc x) (_hv:WS .val v) (h:zj6 x) : z16h x v=some (zj5 (zh9 x v)):=by
 unfold zj6 at h
 have hok:=h.ok (by omega)
 obtain⟨_,h4,h5,h6⟩:=h
 rw[z1t5,zox,zdw]
 unfold zh9 zxd
 simp only[za,z1m9,z123]
 by_cases hc : zk4 x.name v=true
 ·rw[if_neg (by simp [hc]),if_pos hc]
  by_cases hd : x.distinct=true
  ·rw[if_neg (by simp [hd]),if_pos hd,z6 trivial,z6 (z21x h5 (by omega) v)]
   unfold z6i insV
   rw[z1kx]
   have hf:=z1zl h5 v
   by_cases hm : v∈x.l
   ·rw[if_neg (by rw[hf.2 hm];simp),if_pos hm]
   ·have hf':(decide (posV x.l v<x.l.length) && ordV (x.l.getD (posV x.l v) z7) v == 0)=false:=by
     cases hh : (decide (posV x.l v<x.l.length) && ordV (x.l.getD (posV x.l v) z7) v == 0) with
     | false=>rfl
     | true=>exact (hm (hf.1 hh)).elim
    have hle:=z1uf x.l v
    rw[if_pos (by rw[hf'];rfl),if_neg hm,z6 (by omega),z6 ⟨⟨by simp only;omega,by simp only;omega⟩,by omega,rfl⟩]
    simp only[Int.toNat_natCast,List.append_assoc,List.singleton_append]
  ·rw[if_pos (by simp [hd]),if_neg hd,z6 ⟨hok,fun hs=>zxg hc hs⟩]
 ·rw[if_pos (by simp [hc]),if_neg hc]
def znk : FnC Un:=fun args=>match args with
 | [x0,x1]=>(dS .acc x0).bind fun x=>(dS .val x1).bind fun v=>some ([zj6 x],z1da (zh9 x v),z1db (zh9 x v))
 | _=>none
theorem z1t7 : FnOK 186 znk:=by
 intro args ob rs os h hob
 unfold znk at h
 split at h
 ·simp only[Option.bind_eq_some_iff,Option.some.injEq,Prod.mk.injEq] at h
  obtain⟨x,e0,v,e1,rfl,rfl,rfl⟩:=h
  obtain rfl:=z18 e0
  obtain rfl:=z18 e1
  exact⟨zd (M:=zxj) rfl (zf (l1:=[(220,zj3),(221,zd3),(222,zgr),(224,zsz)]) (l2:=[(147,z2a)]) (l3:=[]) (l4:=[(223,zj4)]) (l5:=[]) ⟨z1ma,z124,z1hc,z1q8,trivial⟩ ⟨zqk,trivial⟩ trivial ⟨z1h9,trivial⟩ trivial) Tryz.func186 (by kernel_rfl) z1dc 0 [.d] (fun hwf=>(z1md x v (ze hwf (a:=.d (.agg (enc Ty.acc x))) (List.mem_of_getElem? (i:=0) rfl)) (ze hwf (a:=.d (.agg (enc Ty.val v))) (List.mem_of_getElem? (i:=1) rfl)) (hob _ (List.mem_of_getElem? (i:=0) rfl)))),zb Tryz.func186 (by kernel_rfl) (by kernel_rfl)⟩
 ·simp at h
def zd5 : Mc Un:=mach (tbl [(221,zd3),(32,z52),(225,zkx)]) (tbl []) (tbl []) (tbl []) (tbl [])
def z16i (r:Val) : List (A Un):=[.agg (encC Ty.val r)]
def z16j (_r:Val) : List (Ob Un):=[]
def z8r (r:Val) : RF Un:=(z16i r,z16j r)
def zd6 : Nat→NS:=fun l=>(look l [(2,{ ts:=bl 34 454,bs:=bl 34 6,nm:=[],gb:=[1] })]).getD ⟨[],[],[],[],[],false⟩
def zbo (x:Acc) (b1:Acc) (v0:Int) : S Un:=(st 34 34 136 0 [(1,ax 1),(2,ax 2),(6,al .val x.l),(7,ai (↑x.l.length:Int)),(8,ai v0)] [(1,bg .acc b1),(2,bg .val z7)] [])
noncomputable def z129 : Code:=sub (z8 Tryz.f187) [1,0,1,2,2]
def zj7 : S Un→Option (EX Un):=zt (zd6 2) (fun s Q=>awf zd5 zd6 z129 s Q)
def z12a : Exit→S Un→Option (RF Un):=ctxF zd5 zd6 (z8 Tryz.f187) [1,0,1,2] (retF zd5 Tryz.f187.results.toList [.d])
def z12b (x:Acc) : Option (RF Un):=awf zd5 zd6 (z8 Tryz.f187) (zg Tryz.f187.ntmps 0 [.d (.agg (enc Ty.acc x))]) (retF zd5 Tryz.f187.results.toList [.d])
theorem z1qc (x:Acc) : z12b x=(zj7 (zbo x x (0:Int))).bind (zx z12a):=by kernel_rfl
theorem z12c (x:Acc) (b1:Acc) (v0:Int) : zj7 (zbo x b1 v0)=cndO (decide (v0<(↑x.l.length:Int))) (obO (0≤v0∧v0<(↑x.l.length:Int)) (obO (znh b1∧(b1.name=nmSum→(-1000000000000000:Int)≤(x.l.getD v0.toNat z7).n∧(x.l.getD v0.toNat z7).n≤1000000000000000)) (zj7 (zbo x (zc4 b1 (x.l.getD v0.toNat z7)) (IntKind.i64.wrap (v0+1)))))) (some (.exit 0,(zbo x b1 v0))):=(z11 (zd6 2) z129 _).trans (by kernel_rfl)
def zpf (b1:Acc) : Option (RF Un):=cndO (b1.name.toList == (ByteArray.mk #[115,117,109]).toList) (obO (znh b1) (some (z8r (zhw b1)))) (cndO (b1.name.toList == (ByteArray.mk #[109,105,110]).toList) (cndO (b1.name.toList == (ByteArray.mk #[109,105,110]).toList) (some (z8r (b1.v))) (some (z8r (z7)))) (cndO (b1.name.toList == (ByteArray.mk #[109,97,120]).toList) (some (z8r (b1.v))) (some (z8r (z7)))))
theorem z1dd (x:Acc) (b1:Acc) (v0:Int) : z12a (.exit 0) (zbo x b1 v0)=cndO (b1.name.toList == (ByteArray.mk #[99,111,117,110,116]).toList) (cndO (b1.name.toList == (ByteArray.mk #[99,111,117,110,116]).toList) (some (z8r (zh b1.n))) (zpf b1)) (cndO (b1.name.toList == (ByteArray.mk #[114,111,119,115]).toList) (some (z8r (zh b1.n))) (zpf b1)):=by kernel_rfl
def ze8 (x:Acc) : Val:=z1d1 x
@[simp] theorem z1qd (x:Acc) : ze8 x=z1d1 x:=by unfold ze8;rfl
theorem z1hd (x:Acc) (_hx:WS .acc x) (h:zj6 x) : z12b x=some (z8r (ze8 x)):=by
 have hxl:=h.2.1
 have hxb:=h.2.2.2
 obtain⟨hl,hI⟩:=z42 (e:=.exit 0) (L:=zj7) (st:=fun a i=>zbo x a i) (l:=x.l) (d:=z7) (g:=zbl) (fun i a=>accV (500000+i) a∧a.name=x.name) (by omega)
  (fun a i v hi hv hI=>⟨⟨hI.1.taken (fun hs=>hxb (hI.2.symm.trans hs) v (by
    have : i<x.l.length:=by omega
    rw[← hv,List.getD_eq_getElem?_getD,List.getElem?_eq_getElem this];exact List.getElem_mem this)),(z167 a v).2.2.trans hI.2⟩,by
   rw[z12c]
   simp only[za,hi,decide_true,if_true,and_true,Int.toNat_natCast,hv,z123]
   rw[z6 (by omega),z6 ⟨hI.1.ok (by omega),fun hs=>hxb (hI.2.symm.trans hs) v (by
    have : i<x.l.length:=by omega
    rw[← hv,List.getD_eq_getElem?_getD,List.getElem?_eq_getElem this];exact List.getElem_mem this)⟩]⟩)
  (fun a _=>by rw[z12c];simp [za]) x ⟨h,rfl⟩
 rw[z1qc,zn hl]
 have hok:=hI.1.ok (by omega)
 unfold ze8 z1d1 endA
 generalize List.foldl zbl x x.l=z at *
 simp only[z1dd,zpf,za,z1py,z1cz,z1pz,z1q0,z1gz,z21q,zv3,z6 hok,zhw,decide_eq_true_eq]
 by_cases e1 : z.name=za2
 ·rw[if_pos e1,if_pos e1,if_pos (.inl e1)]
 ·rw[if_neg e1]
  by_cases e2 : z.name=zau
  ·rw[if_pos e2,if_pos (.inr e2)]
  ·rw[if_neg e2,if_neg (show ¬ (z.name=za2∨z.name=zau) from by rintro (h | h);exact e1 h;exact e2 h)]
   by_cases e3 : z.name=nmSum
   ·rw[if_pos e3,if_pos e3]
   ·rw[if_neg e3,if_neg e3]
    by_cases e4 : z.name=zey
    ·rw[if_pos e4,if_pos e4,if_pos (.inl e4)]
    ·rw[if_neg e4]
     by_cases e5 : z.name=zgp
     ·rw[if_pos e5,if_pos (.inr e5)]
     ·rw[if_neg e5,if_neg (by rintro (h | h);exact e4 h;exact e5 h)]
def zky : FnC Un:=fun args=>match args with
 | [x0]=>(dS .acc x0).bind fun x=>some ([zj6 x],z16i (ze8 x),z16j (ze8 x))
 | _=>none
theorem z1qe : FnOK 187 zky:=by
 intro args ob rs os h hob
 unfold zky at h
 split at h
 ·simp only[Option.bind_eq_some_iff,Option.some.injEq,Prod.mk.injEq] at h
  obtain⟨x,e0,rfl,rfl,rfl⟩:=h
  obtain rfl:=z18 e0
  exact⟨zd (M:=zd5) rfl (zf (l1:=[(221,zd3),(32,z52),(225,zkx)]) (l2:=[]) (l3:=[]) (l4:=[]) (l5:=[]) ⟨z124,zdx,z1q7,trivial⟩ trivial trivial trivial trivial) Tryz.func187 (by kernel_rfl) zd6 0 [.d] (fun hwf=>(z1hd x (ze hwf (a:=.d (.agg (enc Ty.acc x))) (List.mem_of_getElem? (i:=0) rfl)) (hob _ (List.mem_of_getElem? (i:=0) rfl)))),zb Tryz.func187 (by kernel_rfl) (by kernel_rfl)⟩
 ·simp at h
def zhx : Mc Un:=mach (tbl [(185,zkw),(186,znk),(187,zky)]) (tbl []) (tbl []) (tbl []) (tbl [])
def z1ky (r:Val) : List (A Un):=[.agg (encC Ty.val r)]
def z1kz (_r:Val) : List (Ob Un):=[]
def z1l0 (r:Val) : RF Un:=(z1ky r,z1kz r)
def zhy : Nat→NS:=fun l=>(look l [(3,{ ts:=bl 22 7216,bs:=bl 22 48,nm:=[],gb:=[5] })]).getD ⟨[],[],[],[],[],false⟩
def zez (l:List Val) (b5:Acc) (v0:Int) : S Un:=(st 22 22 88 0 [(4,ax 4),(5,ax 5),(10,al .val l),(11,ai (↑l.length:Int)),(12,ai v0)] [(4,bg .val z7),(5,bg .acc b5)] [])
noncomputable def z1de : Code:=sub (z8 Tryz.f141) [1,1,0,1,2,2]
def znl : S Un→Option (EX Un):=zt (zhy 3) (fun s Q=>awf zhx zhy z1de s Q)
def z1df : Exit→S Un→Option (RF Un):=ctxF zhx zhy (z8 Tryz.f141) [1,1,0,1,2] (retF zhx Tryz.f141.results.toList [.d])
def z1dg (a:Agg) (l:List Val) : Option (RF Un):=awf zhx zhy (z8 Tryz.f141) (zg Tryz.f141.ntmps 0 [.d (.agg (enc Ty.agg a)),.d (.v (.dat (U:=Un) Ty.val l))]) (retF zhx Tryz.f141.results.toList [.d])
theorem z1ww (a:Agg) (l:List Val) : z1dg a l=(znl (zez l (ze7 (Agg.ids a)) (0:Int))).bind (zx z1df):=by kernel_rfl
theorem z1dh (l:List Val) (b5:Acc) (v0:Int) : znl (zez l b5 v0)=cndO (decide (v0<(↑l.length:Int))) (obO (0≤v0∧v0<(↑l.length:Int)) (obO (zj6 b5) (znl (zez l (zh9 b5 (l.getD v0.toNat z7)) (IntKind.i64.wrap (v0+1)))))) (some (.exit 0,(zez l b5 v0))):=(z11 (zhy 3) z1de _).trans (by kernel_rfl)
theorem z1me (l:List Val) (b5:Acc) (v0:Int) : z1df (.exit 0) (zez l b5 v0)=obO (zj6 b5) (some (z1l0 (ze8 b5))):=by kernel_rfl
def zbp (a:Agg) (l:List Val) : Val:=runA a l
@[simp] theorem z25h (a:Agg) (l:List Val) : zbp a l=runA a l:=by unfold zbp;rfl
theorem z1qf (a:Agg) (l:List Val) (_ha:WS .agg a) (_hl:WL .val l) (h:l.length≤400000) : z1dg a l=some (z1l0 (zbp a l)):=by
 obtain⟨hl,hI⟩:=z42 (e:=.exit 0) (L:=znl) (st:=fun b i=>zez l b i) (l:=l) (d:=z7) (g:=zxd) (fun i b=>accV i b) (by omega)
  (fun b i v hi hv hI=>⟨hI.step v,by
   rw[z1dh]
   simp only[za,hi,decide_true,if_true,and_true,Int.toNat_natCast,hv,z1t6]
   rw[z6 (by omega),z6 (show zj6 b from hI.mono (by omega))]⟩)
  (fun b _=>by rw[z1dh];simp [za]) (zv0 a) (accV.start a)
 rw[z1ww,Agg.ids_eq,z1h0,zn hl]
 unfold zbp runA
 simp only[z1me,z1qd]
 rw[z6 (show zj6 _ from hI.mono (by omega))]
def zri : FnC Un:=fun args=>match args with
 | [x0,x1]=>(dS .agg x0).bind fun a=>(dL .val x1).bind fun l=>some ([l.length≤400000],z1ky (zbp a l),z1kz (zbp a l))
 | _=>none
theorem z1wx : FnOK 141 zri:=by
 intro args ob rs os h hob
 unfold zri at h
 split at h
 ·simp only[Option.bind_eq_some_iff,Option.some.injEq,Prod.mk.injEq] at h
  obtain⟨a,e0,l,e1,rfl,rfl,rfl⟩:=h
  obtain rfl:=z18 e0
  obtain rfl:=z1i e1
  exact⟨zd (M:=zhx) rfl (zf (l1:=[(185,zkw),(186,znk),(187,zky)]) (l2:=[]) (l3:=[]) (l4:=[]) (l5:=[]) ⟨z1q4,z1t7,z1qe,trivial⟩ trivial trivial trivial trivial) Tryz.func141 (by kernel_rfl) zhy 0 [.d] (fun hwf=>(z1qf a l (ze hwf (a:=.d (.agg (enc Ty.agg a))) (List.mem_of_getElem? (i:=0) rfl)) (ze hwf (a:=.d (.v (.dat (U:=Un) Ty.val l))) (List.mem_of_getElem? (i:=1) rfl)) (hob _ (List.mem_of_getElem? (i:=0) rfl)))),zb Tryz.func141 (by kernel_rfl) (by kernel_rfl)⟩
 ·simp at h
end
end Go.Proofs.YtjfpbchdcbhfgaaGreat.B
namespace Go.Proofs.YtjfpbchdcbhfgaaGreat.B
open Go Go.RowKit
set_option maxRecDepth 100000
noncomputable section
attribute [local irreducible] awp ctxK z12 z1o retQ z2i awf ctxF zt
def zd7 : Mc Un:=mach (tbl []) (tbl []) (tbl []) (tbl []) (tbl [])
def z16k (r:Int) : List (A Un):=[.c (.s (.int .i64 r))]
def z16l (_r:Int) : List (Ob Un):=[]
def zkz (r:Int) : RF Un:=(z16k r,z16l r)
def zd8 : Nat→NS:=fun l=>(look l [(2,{ ts:=bl 19 403,bs:=bl 19 0,nm:=[] })]).getD ⟨[],[],[],[],[],false⟩
def z4y (s:List (List Val)) (f_o:(List Val)→Prop) (f:(List Val)→Bool) (v0:Int) : S Un:=(st 19 19 76 0 [(0,al .row s),(1,AV.one (A.c (C.fv (z26 f_o f)))),(4,ai (0:Int)),(7,ai (↑s.length:Int)),(8,ai v0)] [] [])
def zha (s:List (List Val)) (f_o:(List Val)→Prop) (f:(List Val)→Bool) (v0:Int) (v1:Int) : S Un:=(st 19 19 76 0 [(0,al .row s),(1,AV.one (A.c (C.fv (z26 f_o f)))),(4,ai v1),(7,ai (↑s.length:Int)),(8,ai v0)] [] [])
noncomputable def z12d : Code:=sub (z8 Tryz.f188) [1,0,1,2,2]
def z7z : S Un→Option (EX Un):=zt (zd8 2) (fun s Q=>awf zd7 zd8 z12d s Q)
def zj8 : Exit→S Un→Option (RF Un):=ctxF zd7 zd8 (z8 Tryz.f188) [1,0,1,2] (retF zd7 Tryz.f188.results.toList [.d])
def z12e (s:List (List Val)) (f_o:(List Val)→Prop) (f:(List Val)→Bool) : Option (RF Un):=awf zd7 zd8 (z8 Tryz.f188) (zg Tryz.f188.ntmps 0 [.d (.v (.dat (U:=Un) Ty.row s)),.fn (z26 f_o f)]) (retF zd7 Tryz.f188.results.toList [.d])
theorem z1qg (s:List (List Val)) (f_o:(List Val)→Prop) (f:(List Val)→Bool) : z12e s f_o f=(z7z (z4y s f_o f (0:Int))).bind (zx zj8):=by kernel_rfl
theorem zpg (s:List (List Val)) (f_o:(List Val)→Prop) (f:(List Val)→Bool) (v0:Int) : z7z (z4y s f_o f v0)=cndO (decide (v0<(↑s.length:Int))) (obO (0≤v0∧v0<(↑s.length:Int)) (obO (f_o (s.getD v0.toNat [])) (cndO (f (s.getD v0.toNat [])) (some (.ret,(zha s f_o f v0 v0))) (z7z (z4y s f_o f (IntKind.i64.wrap (v0+1))))))) (some (.exit 0,(z4y s f_o f v0))):=(z11 (zd8 2) z12d _).trans (by kernel_rfl)
theorem z19u (s:List (List Val)) (f_o:(List Val)→Prop) (f:(List Val)→Bool) (v0:Int) (v1:Int) : zj8 .ret (zha s f_o f v0 v1)=some (zkz (v1)):=by kernel_rfl
theorem z1di (s:List (List Val)) (f_o:(List Val)→Prop) (f:(List Val)→Bool) (v0:Int) : zj8 (.exit 0) (z4y s f_o f v0)=some (zkz ((-1:Int))):=by kernel_rfl
def zrj (o:List Val→Prop) (s:List (List Val)) : Prop:=∀ x∈s,o x
def zm4 (s:List (List Val)) (_o:List Val→Prop) (f:List Val→Bool) : Int:=match s.findIdx? f with | some i=>(i:Int) | none=>-1
theorem z1he (s:List (List Val)) (o:List Val→Prop) (f:List Val→Bool) (hs:WL .row s) (ho:zrj o s) : z12e s o f=some (zkz (zm4 s o f)):=by
 have key:∀ (r:List (List Val)) (i:Nat),s.drop i=r→i≤s.length→(z7z (z4y s o f i)).bind (zx zj8)=some (zkz (match r.findIdx? f with | some k=>((i+k:Nat):Int) | none=>-1)):=by
  intro r
  induction r with
  | nil =>
   intro i hr hi
   have : s.length≤i:=by rw[← List.drop_eq_nil_iff];exact hr
   have e:z7z (z4y s o f i)=some (.exit 0,z4y s o f i):=by rw[zpg,za,if_neg (by simp;omega)]
   rw[zn e,z1di];rfl
  | cons x r ih =>
   intro i hr hi
   obtain⟨a1,a2,a3,hm⟩:=z31 hr
   have hx:s.getD i []=x:=a2 []
   by_cases hf : f x=true
   ·have e:z7z (z4y s o f i)=some (.ret,zha s o f i i):=by
     rw[zpg,za,if_pos (by simp;omega),z6 (by omega),Int.toNat_natCast,hx,z6 (ho x hm),za,if_pos hf]
    rw[zn e,z19u]
    simp [List.findIdx?_cons,hf]
   ·have e:z7z (z4y s o f i)=z7z (z4y s o f ((i+1:Nat):Int)):=by
     rw[zpg,za,if_pos (by simp;omega),z6 (by omega),Int.toNat_natCast,hx,z6 (ho x hm),za,if_neg hf,z4v a1 hs.len]
    rw[e,ih (i+1) a3 (by omega)]
    congr 2
    simp only[List.findIdx?_cons,hf]
    cases r.findIdx? f with
    | none=>rfl
    | some k=>simp;omega
 rw[z1qg]
 have:=key s 0 rfl (Nat.zero_le _)
 refine Eq.trans this ?_
 unfold zm4
 cases s.findIdx? f<;>simp
def zl0 : FnC Un:=fun args=>match args with
 | [x0,x1]=>(dL .row x0).bind fun s=>(dF x1).bind fun f=>some ([f=(z26 (z51 f) (z72 f)),zrj (z51 f) s],z16k (zm4 s (z51 f) (z72 f)),z16l (zm4 s (z51 f) (z72 f)))
 | _=>none
theorem z1qh : FnOK 188 zl0:=by
 intro args ob rs os h hob
 unfold zl0 at h
 split at h
 ·simp only[Option.bind_eq_some_iff,Option.some.injEq,Prod.mk.injEq] at h
  obtain⟨s,e0,f,e1,rfl,rfl,rfl⟩:=h
  obtain rfl:=z1i e0
  obtain rfl:=zki e1
  have hfv0:=hob _ (List.mem_of_getElem? (i:=0) rfl)
  generalize z72 f=pp0 at *
  generalize z51 f=qq0 at *
  subst hfv0
  exact⟨zd (M:=zd7) rfl (zf (l1:=[]) (l2:=[]) (l3:=[]) (l4:=[]) (l5:=[]) trivial trivial trivial trivial trivial) Tryz.func188 (by kernel_rfl) zd8 0 [.d] (fun hwf=>(z1he s qq0 pp0 (ze hwf (a:=.d (.v (.dat (U:=Un) Ty.row s))) (List.mem_of_getElem? (i:=0) rfl)) (hob _ (List.mem_of_getElem? (i:=1) rfl)))),zb Tryz.func188 (by kernel_rfl) (by kernel_rfl)⟩
 ·simp at h
def z1qi : Mc Un:=mach (tbl [(149,z66)]) (tbl []) (tbl []) (tbl []) (tbl [])
def z24h (r:Bool) : List (A Un):=[.c (.s (.bool r))]
def z24i (_r:Bool) : List (Ob Un):=[]
def z1zm (r:Bool) : RF Un:=(z24h r,z24i r)
def z1zn : Nat→NS:=fun l=>(look l []).getD ⟨[],[],[],[],[],false⟩
def z1ug (x:List Val) (r:List Val) : Option (RF Un):=awf z1qi z1zn (z8 Tryz.f189) (zg Tryz.f189.ntmps 0 [.d (.v (.dat (U:=Un) Ty.val x)),.box [.v (.dat (U:=Un) Ty.val r)]]) (retF z1qi Tryz.f189.results.toList [.d])
theorem z23l (x:List Val) (r:List Val) : z1ug x r=some (z1zm (z3v x r == 0)):=by kernel_rfl
def plc1 (x r:List Val) : Bool:=z3v x r == 0
theorem z1zo (x r:List Val) (_hx:WL .val x) (_hr:WL .val r) (_h:True) : z1ug x r=some (z1zm (plc1 x r)):=by
 rw[z23l];rfl
def z1dj : List (List (DC Un))→Option (FV Un):=fun dl=>match dl with
 | [b0]=>(bL .val b0).bind fun r=>some (z26 (fun x=>True) (fun x=>plc1 x r))
 | _=>none
theorem z21y : ClOK 189 z1dj:=by
 refine⟨zb Tryz.func189 (by kernel_rfl) (by kernel_rfl),fun dl φ args ob rs hF hφ hob=>?_⟩
 unfold z1dj at hF
 split at hF
 ·simp only[Option.bind_eq_some_iff,Option.some.injEq] at hF
  obtain⟨r,g0,hE⟩:=hF
  subst hE
  obtain rfl:=z1ve g0
  unfold z26 at hφ
  split at hφ
  ·simp only[Option.bind_eq_some_iff,Option.some.injEq,Prod.mk.injEq] at hφ
   obtain⟨x,e0,rfl,rfl⟩:=hφ
   simp only[List.map_cons,List.map_nil,List.cons_append,List.nil_append]
   rw[z1i e0]
   exact Contract.data (zd (M:=z1qi) rfl (zf (l1:=[(149,z66)]) (l2:=[]) (l3:=[]) (l4:=[]) (l5:=[]) ⟨zig,trivial⟩ trivial trivial trivial trivial) Tryz.func189 (by kernel_rfl) z1zn 0 [.d] (fun hwf=>(z1zo x r (ze hwf (a:=.d (.v (.dat (U:=Un) Ty.val x))) (List.mem_of_getElem? (i:=0) rfl)) (ze hwf (a:=.box [.v (.dat (U:=Un) Ty.val r)]) (List.mem_of_getElem? (i:=1) rfl)) (hob _ (List.mem_of_getElem? (i:=0) rfl)))))
  ·simp at hφ
 ·simp at hF
def zmv : Mc Un:=mach (tbl [(188,zl0)]) (tbl []) (tbl [(189,z1dj)]) (tbl []) (tbl [])
def zyw (r:Int) : List (A Un):=[.c (.s (.int .i64 r))]
def zyx (_r:Int) : List (Ob Un):=[]
def zyy (r:Int) : RF Un:=(zyw r,zyx r)
def zyz : Nat→NS:=fun l=>(look l []).getD ⟨[],[],[],[],[],false⟩
def zv7 (l:List (List Val)) (r:List Val) : Option (RF Un):=awf zmv zyz (z8 Tryz.f142) (zg Tryz.f142.ntmps 0 [.d (.v (.dat (U:=Un) Ty.row l)),.d (.v (.dat (U:=Un) Ty.val r))]) (retF zmv Tryz.f142.results.toList [.d])
theorem z1hf (l:List (List Val)) (r:List Val) : zv7 l r=obO ((z26 (fun x=>True) fun x=>plc1 x r)=z26 (z51 (z26 (fun x=>True) fun x=>plc1 x r)) (z72 (z26 (fun x=>True) fun x=>plc1 x r))) (obO (zrj (z51 (z26 (fun x=>True) fun x=>plc1 x r)) l) (some (zyy (zm4 l (z51 (z26 (fun x=>True) fun x=>plc1 x r)) (z72 (z26 (fun x=>True) fun x=>plc1 x r)))))):=by kernel_rfl
def z13 (l:List (List Val)) (r:List Val) : Int:=match l.findIdx? (fun x=>plc1 x r) with | some i=>(i:Int) | none=>-1
theorem z19v (l:List (List Val)) (r:List Val) (_hl:WL .row l) (_hr:WL .val r) : zv7 l r=some (zyy (z13 l r)):=by
 rw[z1hf]
 simp only[z18t,z18s]
 rw[z6 trivial,z6 (show zrj (fun _=>True) l from fun _ _=>trivial)]
 rfl
def za5 : FnC Un:=fun args=>match args with
 | [x0,x1]=>(dL .row x0).bind fun l=>(dL .val x1).bind fun r=>some ([],zyw (z13 l r),zyx (z13 l r))
 | _=>none
theorem zv8 : FnOK 142 za5:=by
 intro args ob rs os h hob
 unfold za5 at h
 split at h
 ·simp only[Option.bind_eq_some_iff,Option.some.injEq,Prod.mk.injEq] at h
  obtain⟨l,e0,r,e1,rfl,rfl,rfl⟩:=h
  obtain rfl:=z1i e0
  obtain rfl:=z1i e1
  exact⟨zd (M:=zmv) rfl (zf (l1:=[(188,zl0)]) (l2:=[]) (l3:=[(189,z1dj)]) (l4:=[]) (l5:=[]) ⟨z1qh,trivial⟩ trivial ⟨z21y,trivial⟩ trivial trivial) Tryz.func142 (by kernel_rfl) zyz 0 [.d] (fun hwf=>(z19v l r (ze hwf (a:=.d (.v (.dat (U:=Un) Ty.row l))) (List.mem_of_getElem? (i:=0) rfl)) (ze hwf (a:=.d (.v (.dat (U:=Un) Ty.val r))) (List.mem_of_getElem? (i:=1) rfl)))),zb Tryz.func142 (by kernel_rfl) (by kernel_rfl)⟩
 ·simp at h
def zph : Mc Un:=mach (tbl []) (tbl []) (tbl []) (tbl []) (tbl [])
def z12f (r:Val) : List (A Un):=[.agg (encC Ty.val r)]
def z12g (_r:Val) : List (Ob Un):=[]
def zj9 (r:Val) : RF Un:=(z12f r,z12g r)
def z12h : Nat→NS:=fun l=>(look l []).getD ⟨[],[],[],[],[],false⟩
def zz0 (r:List Val) (at_:Int) : Option (RF Un):=awf zph z12h (z8 Tryz.f148) (zg Tryz.f148.ntmps 0 [.d (.v (.dat (U:=Un) Ty.val r)),.d (.v (.s (.int .i64 at_)))]) (retF zph Tryz.f148.results.toList [.d])
theorem z1mf (r:List Val) (at_:Int) : zz0 r at_=cndO (decide (at_<0)) (some (zj9 (z7))) (cndO (decide (at_≥(↑r.length:Int))) (some (zj9 (z7))) (obO (0≤at_∧at_<(↑r.length:Int)) (some (zj9 (r.getD at_.toNat z7))))):=by kernel_rfl
def z14 (r:List Val) (k:Int) : Val:=if 0≤k then r.getD k.toNat z7 else z7
theorem z1dk (r:List Val) (k:Int) (_hr:WL .val r) (_hk:WI k) : zz0 r k=some (zj9 (z14 r k)):=by
 rw[z1mf]
 unfold z14
 simp only[za,decide_eq_true_eq]
 by_cases h0 : k<0
 ·rw[if_pos h0,if_neg (by omega)]
 ·rw[if_neg h0]
  have h2:0≤k:=by omega
  by_cases h1 : k≥(r.length:Int)
  ·rw[if_pos h1,if_pos h2,List.getD_eq_getElem?_getD,List.getElem?_eq_none (by omega)];rfl
  ·rw[if_neg h1,if_pos h2,z6 (by omega)]
def zja : FnC Un:=fun args=>match args with
 | [x0,x1]=>(dL .val x0).bind fun r=>(dI .i64 x1).bind fun at_=>some ([],z12f (z14 r at_),z12g (z14 r at_))
 | _=>none
theorem z1mg : FnOK 148 zja:=by
 intro args ob rs os h hob
 unfold zja at h
 split at h
 ·simp only[Option.bind_eq_some_iff,Option.some.injEq,Prod.mk.injEq] at h
  obtain⟨r,e0,at_,e1,rfl,rfl,rfl⟩:=h
  obtain rfl:=z1i e0
  obtain rfl:=z1t e1
  exact⟨zd (M:=zph) rfl (zf (l1:=[]) (l2:=[]) (l3:=[]) (l4:=[]) (l5:=[]) trivial trivial trivial trivial trivial) Tryz.func148 (by kernel_rfl) z12h 0 [.d] (fun hwf=>(z1dk r at_ (ze hwf (a:=.d (.v (.dat (U:=Un) Ty.val r))) (List.mem_of_getElem? (i:=0) rfl)) (ze hwf (a:=.d (.v (.s (.int .i64 at_)))) (List.mem_of_getElem? (i:=1) rfl)))),zb Tryz.func148 (by kernel_rfl) (by kernel_rfl)⟩
 ·simp at h
def zbq : Mc Un:=mach (tbl [(142,za5)]) (tbl []) (tbl []) (tbl []) (tbl [])
def z12i (r:List (List Val)) : List (A Un):=[.c (.ob 0 0)]
def z12j (r:List (List Val)) : List (Ob Un):=[⟨0,Ty.row,r,some 0,true⟩]
def z12k (r:List (List Val)) : RF Un:=(z12i r,z12j r)
def zbr : Nat→NS:=fun l=>(look l [(3,{ ts:=bl 22 456,bs:=bl 22 0,nm:=[(.sl 3,88)] })]).getD ⟨[],[],[],[],[],false⟩
def z8f (l:List (List Val)) (v0:Int) (v1:List (List Val)) : S Un:=(st 22 22 89 0 [(3,ao 88),(6,al .row l),(7,ai (↑l.length:Int)),(8,ai v0)] [] [(88,some ⟨(0:Nat),Ty.row,v1,some (0:Nat),true⟩)])
noncomputable def zz1 : Code:=sub (z8 Tryz.f90) [1,1,0,1,2,2]
def zcq : S Un→Option (EX Un):=zt (zbr 3) (fun s Q=>awf zbq zbr zz1 s Q)
def zz2 : Exit→S Un→Option (RF Un):=ctxF zbq zbr (z8 Tryz.f90) [1,1,0,1,2] (retF zbq Tryz.f90.results.toList [.m])
def zz3 (l:List (List Val)) : Option (RF Un):=awf zbq zbr (z8 Tryz.f90) (zg Tryz.f90.ntmps 1 [.d (.v (.dat (U:=Un) Ty.row l))]) (retF zbq Tryz.f90.results.toList [.m])
theorem z1mh (l:List (List Val)) : zz3 l=(zcq (z8f l (0:Int) ([]))).bind (zx zz2):=by kernel_rfl
theorem zz4 (l:List (List Val)) (v0:Int) (v1:List (List Val)) : zcq (z8f l v0 v1)=cndO (decide (v0<(↑l.length:Int))) (obO (0≤v0∧v0<(↑l.length:Int)) (cndO (decide (z13 v1 (l.getD v0.toNat [])<0)) (obO ((v1.length+[l.getD v0.toNat []].length)*(24:Nat)≤zw) (zcq (z8f l (IntKind.i64.wrap (v0+1)) (v1++[l.getD v0.toNat []])))) (zcq (z8f l (IntKind.i64.wrap (v0+1)) v1)))) (some (.exit 0,(z8f l v0 v1))):=(z11 (zbr 3) zz1 _).trans (by kernel_rfl)
theorem z19w (l:List (List Val)) (v0:Int) (v1:List (List Val)) : zz2 (.exit 0) (z8f l v0 v1)=some (z12k (v1)):=by kernel_rfl
def z30 (l:List (List Val)) : List (List Val):=l.foldl (fun o x=>if z13 o x<0 then o++[x] else o) []
theorem z1dl (l:List (List Val)) (hl:WL .row l) (h:l.length≤100000000) : zz3 l=some (z12k (z30 l)):=by
 rw[z1mh]
 obtain⟨lp,_⟩:=z42 (e:=.exit 0) (L:=zcq) (st:=fun (o:List (List Val)) i=>z8f l i o) (l:=l) (d:=[]) (g:=fun o x=>if z13 o x<0 then o++[x] else o) (fun i o=>o.length≤i) hl.len
  (fun o i x hi hx hI=>by
   have hI':o.length≤i:=hI
   rw[zz4]
   simp only[za,hi,decide_true,if_true,and_true,Int.toNat_natCast,hx,decide_eq_true_eq]
   rw[z6 (by omega)]
   by_cases hp : z13 o x<0
   ·rw[if_pos hp,if_pos hp,z6 (by unfold zw;rw[List.length_singleton];omega)]
    exact⟨by show (o++[x]).length≤i+1;rw[List.length_append,List.length_singleton];omega,rfl⟩
   ·rw[if_neg hp,if_neg hp]
    exact⟨by show o.length≤i+1;omega,rfl⟩)
  (fun o _=>by rw[zz4];simp [za]) [] (Nat.le_refl _)
 refine (zn lp).trans ?_
 rw[z19w]
 rfl
def zbs : FnC Un:=fun args=>match args with
 | [x0]=>(dL .row x0).bind fun l=>some ([l.length≤100000000],z12i (z30 l),z12j (z30 l))
 | _=>none
theorem zz5 : FnOK 90 zbs:=by
 intro args ob rs os h hob
 unfold zbs at h
 split at h
 ·simp only[Option.bind_eq_some_iff,Option.some.injEq,Prod.mk.injEq] at h
  obtain⟨l,e0,rfl,rfl,rfl⟩:=h
  obtain rfl:=z1i e0
  exact⟨zd (M:=zbq) rfl (zf (l1:=[(142,za5)]) (l2:=[]) (l3:=[]) (l4:=[]) (l5:=[]) ⟨zv8,trivial⟩ trivial trivial trivial trivial) Tryz.func90 (by kernel_rfl) zbr 1 [.m] (fun hwf=>(z1dl l (ze hwf (a:=.d (.v (.dat (U:=Un) Ty.row l))) (List.mem_of_getElem? (i:=0) rfl)) (hob _ (List.mem_of_getElem? (i:=0) rfl)))),zb Tryz.func90 (by kernel_rfl) (by kernel_rfl)⟩
 ·simp at h
def za6 : Mc Un:=mach (tbl [(152,z5i),(154,zjw),(153,ze0),(155,z6g)]) (tbl []) (tbl []) (tbl []) (tbl [])
def zz6 (r:Val) : List (A Un):=[.agg (encC Ty.val r)]
def zz7 (_r:Val) : List (Ob Un):=[]
def zz8 (r:Val) : RF Un:=(zz6 r,zz7 r)
def za7 : Nat→NS:=fun l=>(look l [(3,{ ts:=bl 38 7220,bs:=bl 38 20,nm:=[] })]).getD ⟨[],[],[],[],[],false⟩
def z69 (v:Val) (l:List (List Val)) (v0:Int) (v1:Int) : S Un:=(st 38 38 152 0 [(2,ax 2),(4,ax 4),(5,ai v1),(10,al .row l),(11,ai (↑l.length:Int)),(12,ai v0)] [(2,bg .val v),(4,bg .val z7)] [])
noncomputable def zv9 : Code:=sub (z8 Tryz.f119) [1,1,0,1,2,2]
def z95 : S Un→Option (EX Un):=zt (za7 3) (fun s Q=>awf za6 za7 zv9 s Q)
def zva : Exit→S Un→Option (RF Un):=ctxF za6 za7 (z8 Tryz.f119) [1,1,0,1,2] (retF za6 Tryz.f119.results.toList [.d])
def zvb (v:Val) (l:List (List Val)) : Option (RF Un):=awf za6 za7 (z8 Tryz.f119) (zg Tryz.f119.ntmps 0 [.d (.agg (enc Ty.val v)),.d (.v (.dat (U:=Un) Ty.row l))]) (retF za6 Tryz.f119.results.toList [.d])
theorem z1hg (v:Val) (l:List (List Val)) : zvb v l=(z95 (z69 v l (0:Int) (0:Int))).bind (zx zva):=by kernel_rfl
theorem zvc (v:Val) (l:List (List Val)) (v0:Int) (v1:Int) : z95 (z69 v l v0 v1)=cndO (decide (v0<(↑l.length:Int))) (obO (0≤v0∧v0<(↑l.length:Int)) (cndO ((↑(List.length (l.getD v0.toNat [])):Int) == (0:Int)) (z95 (z69 v l (IntKind.i64.wrap (v0+1)) v1)) (obO ((0:Int)≤(0:Int)∧(0:Int)<(↑(List.length (l.getD v0.toNat [])):Int)) (cndO ((z1u v (List.getD (l.getD v0.toNat []) 0 z7)).snd) (z95 (z69 v l (IntKind.i64.wrap (v0+1)) (z8h v1 (zii ((z1u v (List.getD (l.getD v0.toNat []) 0 z7)).fst == 0))))) (z95 (z69 v l (IntKind.i64.wrap (v0+1)) (z8h v1 (1:Int)))))))) (some (.exit 0,(z69 v l v0 v1))):=(z11 (za7 3) zv9 _).trans (by kernel_rfl)
theorem z14t (v:Val) (l:List (List Val)) (v0:Int) (v1:Int) : zva (.exit 0) (z69 v l v0 v1)=some (zz8 (z5j v1)):=by kernel_rfl
def zd9 (v:Val) (l:List (List Val)) : Val:=z5j (l.foldl (fun t x=>if x.length=0 then t else if (z1u v (x.getD 0 z7)).2 then z8h t (zii ((z1u v (x.getD 0 z7)).1 == 0)) else z8h t 1) 0)
theorem z19x (v:Val) (l:List (List Val)) (_hv:WS .val v) (hl:WL .row l) : zvb v l=some (zz8 (zd9 v l)):=by
 rw[z1hg]
 obtain⟨lp,_⟩:=z42 (e:=.exit 0) (L:=z95) (st:=fun (t:Int) i=>z69 v l i t) (l:=l) (d:=[]) (g:=fun t x=>if x.length=0 then t else if (z1u v (x.getD 0 z7)).2 then z8h t (zii ((z1u v (x.getD 0 z7)).1 == 0)) else z8h t 1) (fun _ _=>True) hl.len
  (fun t i x hi hx _=>by
   refine⟨trivial,?_⟩
   rw[zvc]
   simp only[za,hi,decide_true,if_true,and_true,Int.toNat_natCast,hx,beq_iff_eq]
   rw[z6 (by omega)]
   by_cases h0 : x.length=0
   ·rw[if_pos (by omega),if_pos h0]
   ·rw[if_neg (by omega),if_neg h0,z6 (by omega)]
    split<;>rfl)
  (fun t _=>by rw[zvc];simp [za]) 0 trivial
 refine (zn lp).trans ?_
 rw[z14t]
 rfl
def zgs : FnC Un:=fun args=>match args with
 | [x0,x1]=>(dS .val x0).bind fun v=>(dL .row x1).bind fun l=>some ([],zz6 (zd9 v l),zz7 (zd9 v l))
 | _=>none
theorem z1hh : FnOK 119 zgs:=by
 intro args ob rs os h hob
 unfold zgs at h
 split at h
 ·simp only[Option.bind_eq_some_iff,Option.some.injEq,Prod.mk.injEq] at h
  obtain⟨v,e0,l,e1,rfl,rfl,rfl⟩:=h
  obtain rfl:=z18 e0
  obtain rfl:=z1i e1
  exact⟨zd (M:=za6) rfl (zf (l1:=[(152,z5i),(154,zjw),(153,ze0),(155,z6g)]) (l2:=[]) (l3:=[]) (l4:=[]) (l5:=[]) ⟨zh5,z1kc,z11a,zij,trivial⟩ trivial trivial trivial trivial) Tryz.func119 (by kernel_rfl) za7 0 [.d] (fun hwf=>(z19x v l (ze hwf (a:=.d (.agg (enc Ty.val v))) (List.mem_of_getElem? (i:=0) rfl)) (ze hwf (a:=.d (.v (.dat (U:=Un) Ty.row l))) (List.mem_of_getElem? (i:=1) rfl)))),zb Tryz.func119 (by kernel_rfl) (by kernel_rfl)⟩
 ·simp at h
end
end Go.Proofs.YtjfpbchdcbhfgaaGreat.B
