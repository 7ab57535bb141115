/- Part 20 of the proof: Sagg1 Lown Lclone. -/
import Derived.Shelf.SlicesE.Clone
import Derived.Test.YtjfpbchdcbhfgaaGreatNsrt19
namespace Go.Proofs.YtjfpbchdcbhfgaaGreat.B
open Go Go.RowKit
set_option maxRecDepth 100000
noncomputable section
attribute [local irreducible] awp ctxK z12 z1o retQ z2i awf ctxF zt
def zsw : Mc Un:=mach (tbl []) (tbl []) (tbl []) (tbl []) (tbl [])
def z168 (r:Acc) : List (A Un):=[.agg (encC Ty.acc r)]
def z169 (_r:Acc) : List (Ob Un):=[]
def z7l (r:Acc) : RF Un:=(z168 r,z169 r)
def z16a : Nat→NS:=fun l=>(look l []).getD ⟨[],[],[],[],[],false⟩
def z11y (a:Agg) : Option (RF Un):=awf zsw z16a (z8 Tryz.f185) (zg Tryz.f185.ntmps 0 [.d (.agg (enc Ty.agg a))]) (retF zsw Tryz.f185.results.toList [.d])
theorem z1q2 (a:Agg) : z11y a=cndO (a.name.toList == (ByteArray.mk #[99,111,117,110,116]).toList) (cndO ((↑a.t.length:Int) == (0:Int)) (some (z7l ({ name:=(ByteArray.mk #[114,111,119,115]),distinct:=false,n:=(0:Int),hi:=(0:Int),lo:=(0:Int),v:=z7,l:=[] }))) (some (z7l ({ name:=a.name,distinct:=a.distinct,n:=(0:Int),hi:=(0:Int),lo:=(0:Int),v:=z7,l:=[] })))) (cndO (a.name.toList == (ByteArray.mk #[115,117,109]).toList) (cndO (a.name.toList == (ByteArray.mk #[115,117,109]).toList) (some (z7l ({ name:=a.name,distinct:=a.distinct,n:=(0:Int),hi:=(0:Int),lo:=(0:Int),v:=z7,l:=[] }))) (some (z7l ({ name:=(ByteArray.mk #[]),distinct:=a.distinct,n:=(0:Int),hi:=(0:Int),lo:=(0:Int),v:=z7,l:=[] })))) (cndO (a.name.toList == (ByteArray.mk #[109,105,110]).toList) (cndO (a.name.toList == (ByteArray.mk #[109,105,110]).toList) (some (z7l ({ name:=a.name,distinct:=a.distinct,n:=(0:Int),hi:=(0:Int),lo:=(0:Int),v:=z7,l:=[] }))) (some (z7l ({ name:=(ByteArray.mk #[]),distinct:=a.distinct,n:=(0:Int),hi:=(0:Int),lo:=(0:Int),v:=z7,l:=[] })))) (cndO (a.name.toList == (ByteArray.mk #[109,97,120]).toList) (some (z7l ({ name:=a.name,distinct:=a.distinct,n:=(0:Int),hi:=(0:Int),lo:=(0:Int),v:=z7,l:=[] }))) (some (z7l ({ name:=(ByteArray.mk #[]),distinct:=a.distinct,n:=(0:Int),hi:=(0:Int),lo:=(0:Int),v:=z7,l:=[] })))))):=by kernel_rfl
def ze7 (a:Agg) : Acc :=
  if (a.name.toList == (ByteArray.mk #[(99:UInt8),(111:UInt8),(117:UInt8),(110:UInt8),(116:UInt8)]).toList)=true then
   if ((↑a.t.length:Int) == (0:Int))=true then
    ({ name:=(ByteArray.mk #[(114:UInt8),(111:UInt8),(119:UInt8),(115:UInt8)]),distinct:=false,n:=(0:Int),hi:=(0:Int),lo:=(0:Int),v:=z7,l:=[] })
   else
    ({ name:=a.name,distinct:=a.distinct,n:=(0:Int),hi:=(0:Int),lo:=(0:Int),v:=z7,l:=[] })
  else
   if (a.name.toList == (ByteArray.mk #[(115:UInt8),(117:UInt8),(109:UInt8)]).toList)=true then
    if (a.name.toList == (ByteArray.mk #[(115:UInt8),(117:UInt8),(109:UInt8)]).toList)=true then
     ({ name:=a.name,distinct:=a.distinct,n:=(0:Int),hi:=(0:Int),lo:=(0:Int),v:=z7,l:=[] })
    else
     ({ name:=(ByteArray.mk #[]),distinct:=a.distinct,n:=(0:Int),hi:=(0:Int),lo:=(0:Int),v:=z7,l:=[] })
   else
    if (a.name.toList == (ByteArray.mk #[(109:UInt8),(105:UInt8),(110:UInt8)]).toList)=true then
     if (a.name.toList == (ByteArray.mk #[(109:UInt8),(105:UInt8),(110:UInt8)]).toList)=true then
      ({ name:=a.name,distinct:=a.distinct,n:=(0:Int),hi:=(0:Int),lo:=(0:Int),v:=z7,l:=[] })
     else
      ({ name:=(ByteArray.mk #[]),distinct:=a.distinct,n:=(0:Int),hi:=(0:Int),lo:=(0:Int),v:=z7,l:=[] })
    else
     if (a.name.toList == (ByteArray.mk #[(109:UInt8),(97:UInt8),(120:UInt8)]).toList)=true then
      ({ name:=a.name,distinct:=a.distinct,n:=(0:Int),hi:=(0:Int),lo:=(0:Int),v:=z7,l:=[] })
     else
      ({ name:=(ByteArray.mk #[]),distinct:=a.distinct,n:=(0:Int),hi:=(0:Int),lo:=(0:Int),v:=z7,l:=[] })
theorem z1q3 (a:Agg) : z11y a=some (z7l (ze7 a)):=by rw[z1q2];unfold ze7;simp only[za];repeat (first | rfl | split)
def zkw : FnC Un:=fun args=>match args with
 | [x0]=>(dS .agg x0).bind fun a=>some ([],z168 (ze7 a),z169 (ze7 a))
 | _=>none
theorem z1q4 : FnOK 185 zkw:=by
 intro args ob rs os h hob
 unfold zkw at h
 split at h
 ·simp only[Option.bind_eq_some_iff,Option.some.injEq,Prod.mk.injEq] at h
  obtain⟨a,e0,rfl,rfl,rfl⟩:=h
  obtain rfl:=z18 e0
  exact⟨zd (M:=zsw) rfl (zf (l1:=[]) (l2:=[]) (l3:=[]) (l4:=[]) (l5:=[]) trivial trivial trivial trivial trivial) Tryz.func185 (by kernel_rfl) z16a 0 [.d] (fun hwf=>(z1q3 a)),zb Tryz.func185 (by kernel_rfl) (by kernel_rfl)⟩
 ·simp at h
theorem len0 {α:Type} (l:List α) : ((l.length:Int) == 0)=true↔l=[]:=by simp
@[simp] theorem z1h0 (a:Agg) : ze7 a=zv0 a:=by
 unfold ze7 zv0
 simp only[z1py,z1cz,z1pz,z1q0,z1gz,z23i,zk3,len0]
 by_cases h1 : a.name=za2
 ·simp [h1]
 ·by_cases h2 : a.name=nmSum
  ·simp [h1,h2]
  ·by_cases h3 : a.name=zey
   ·rw[h3] at h1 h2;simp [h1,h2,h3]
   ·simp [h1,h2,h3]
def zpc : Mc Un:=mach (tbl [(240,zgd)]) (tbl []) (tbl []) (tbl []) (tbl [])
def z11z (r:Bool) : List (A Un):=[.c (.s (.bool r))]
def z120 (_r:Bool) : List (Ob Un):=[]
def zbm (r:Bool) : RF Un:=(z11z r,z120 r)
def z121 : Nat→NS:=fun l=>(look l []).getD ⟨[],[],[],[],[],false⟩
def zyo (x:Acc) (v:Val) : Option (RF Un):=awf zpc z121 (z8 Tryz.f220) (zg Tryz.f220.ntmps 0 [.d (.agg (enc Ty.acc x)),.d (.agg (enc Ty.val v))]) (retF zpc Tryz.f220.results.toList [.d])
theorem z1m8 (x:Acc) (v:Val) : zyo x v=cndO (x.name.toList == (ByteArray.mk #[114,111,119,115]).toList) (some (zbm (true))) (cndO (v.kind != 0) (cndO (zb1 v) (cndO (!x.name.toList == (ByteArray.mk #[115,117,109]).toList) (some (zbm (true))) (some (zbm (v.kind == 2)))) (some (zbm (false)))) (some (zbm (false)))):=by kernel_rfl
def zcf (x:Acc) (v:Val) : Bool:=zk4 x.name v
@[simp] theorem z1m9 (x:Acc) (v:Val) : zcf x v=zk4 x.name v:=by unfold zcf;rfl
theorem z1d2 (x:Acc) (v:Val) (_hx:WS .acc x) (_hv:WS .val v) : zyo x v=some (zbm (zcf x v)):=by
 rw[z1m8]
 unfold zcf zk4 cntV
 simp only[za,z1cz,z1gz,zk3,z1ge,Bool.not_eq_true']
 by_cases h1 : x.name=zau
 ·simp [h1]
 ·by_cases h2 : v.kind=0
  ·simp [h1,h2]
  ·by_cases h3 : zak v=true
   ·by_cases h4 : x.name=nmSum
    ·have e:¬ (x.name.toList == nmSum.toList)=false:=by rw[(zk3 _ _).2 h4];simp
     rw[if_neg h1,if_pos (by simpa using h2),if_pos h3,if_neg e]
     have : nmSum≠zau:=nm_ne.2.2.2.2.2.2.1
     simp [h2,h3,h4,this]
     congr 1
    ·have e:(x.name.toList == nmSum.toList)=false:=by
      cases hh : (x.name.toList == nmSum.toList) with
      | false=>rfl
      | true=>exact (h4 ((zk3 _ _).1 hh)).elim
     rw[if_neg h1,if_pos (by simpa using h2),if_pos h3,if_pos e]
     simp [h1,h2,h3,h4]
   ·simp [h1,h2,h3]
def zj3 : FnC Un:=fun args=>match args with
 | [x0,x1]=>(dS .acc x0).bind fun x=>(dS .val x1).bind fun v=>some ([],z11z (zcf x v),z120 (zcf x v))
 | _=>none
theorem z1ma : FnOK 220 zj3:=by
 intro args ob rs os h hob
 unfold zj3 at h
 split at h
 ·simp only[Option.bind_eq_some_iff,Option.some.injEq,Prod.mk.injEq] at h
  obtain⟨x,e0,v,e1,rfl,rfl,rfl⟩:=h
  obtain rfl:=z18 e0
  obtain rfl:=z18 e1
  exact⟨zd (M:=zpc) rfl (zf (l1:=[(240,zgd)]) (l2:=[]) (l3:=[]) (l4:=[]) (l5:=[]) ⟨z1gf,trivial⟩ trivial trivial trivial trivial) Tryz.func220 (by kernel_rfl) z121 0 [.d] (fun hwf=>(z1d2 x v (ze hwf (a:=.d (.agg (enc Ty.acc x))) (List.mem_of_getElem? (i:=0) rfl)) (ze hwf (a:=.d (.agg (enc Ty.val v))) (List.mem_of_getElem? (i:=1) rfl)))),zb Tryz.func220 (by kernel_rfl) (by kernel_rfl)⟩
 ·simp at h
def zms : Mc Un:=mach (tbl []) (tbl []) (tbl []) (tbl []) (tbl [])
def zyp (r:Int×Int) : List (A Un):=[.c (.s (.int .i64 r.1)),.c (.s (.int .i64 r.2))]
def zyq (_r:Int×Int) : List (Ob Un):=[]
def zyr (r:Int×Int) : RF Un:=(zyp r,zyq r)
def zys : Nat→NS:=fun l=>(look l []).getD ⟨[],[],[],[],[],false⟩
def zv2 (hi:Int) (lo:Int) : Option (RF Un):=awf zms zys (z8 Tryz.f241) (zg Tryz.f241.ntmps 0 [.d (.v (.s (.int .i64 hi))),.d (.v (.s (.int .i64 lo)))]) (retF zms Tryz.f241.results.toList [.d,.d])
theorem z1h1 (hi:Int) (lo:Int) : zv2 hi lo=obO (¬(1000000000000000:Int)=(0:Int)) (obO (¬(1000000000000000:Int)=(0:Int)) (some (zyr (IntKind.i64.wrap (hi+IntKind.i64.wrap (lo.tdiv (1000000000000000:Int))),lo.tmod (1000000000000000:Int))))):=by kernel_rfl
def zd2 (hi lo:Int) : Int×Int:=(hi+lo.tdiv bigM,lo.tmod bigM)
theorem z19p (hi lo:Int) (_h1:WI hi) (_h2:WI lo) (h:(-1000000000≤hi∧hi≤1000000000)∧-2000000000000000≤lo∧lo≤2000000000000000) : zv2 hi lo=some (zyr (zd2 hi lo)):=by
 have h2:-2≤lo.tdiv bigM∧lo.tdiv bigM≤2:=by
  have:=z166 (n:=lo);have:=z19o lo;unfold bigM at *;omega
 rw[z1h1]
 unfold zd2
 unfold bigM at *
 rw[z6 (by decide),z6 (by decide),z2n (n:=lo.tdiv 1000000000000000) (by omega),z2n (by omega)]
def zgq : FnC Un:=fun args=>match args with
 | [x0,x1]=>(dI .i64 x0).bind fun hi=>(dI .i64 x1).bind fun lo=>some ([(-1000000000≤hi∧hi≤1000000000)∧-2000000000000000≤lo∧lo≤2000000000000000],zyp (zd2 hi lo),zyq (zd2 hi lo))
 | _=>none
theorem z1h2 : FnOK 241 zgq:=by
 intro args ob rs os h hob
 unfold zgq at h
 split at h
 ·simp only[Option.bind_eq_some_iff,Option.some.injEq,Prod.mk.injEq] at h
  obtain⟨hi,e0,lo,e1,rfl,rfl,rfl⟩:=h
  obtain rfl:=z1t e0
  obtain rfl:=z1t e1
  exact⟨zd (M:=zms) rfl (zf (l1:=[]) (l2:=[]) (l3:=[]) (l4:=[]) (l5:=[]) trivial trivial trivial trivial trivial) Tryz.func241 (by kernel_rfl) zys 0 [.d,.d] (fun hwf=>(z19p hi lo (ze hwf (a:=.d (.v (.s (.int .i64 hi)))) (List.mem_of_getElem? (i:=0) rfl)) (ze hwf (a:=.d (.v (.s (.int .i64 lo)))) (List.mem_of_getElem? (i:=1) rfl)) (hob _ (List.mem_of_getElem? (i:=0) rfl)))),zb Tryz.func241 (by kernel_rfl) (by kernel_rfl)⟩
 ·simp at h
def zsx : Mc Un:=mach (tbl [(241,zgq),(147,z73)]) (tbl []) (tbl []) (tbl []) (tbl [])
def z16b (r:Acc) : List (A Un):=[.agg (encC Ty.acc r)]
def z16c (_r:Acc) : List (Ob Un):=[]
def z7m (r:Acc) : RF Un:=(z16b r,z16c r)
def z16d : Nat→NS:=fun l=>(look l []).getD ⟨[],[],[],[],[],false⟩
def z122 (x:Acc) (v:Val) : Option (RF Un):=awf zsx z16d (z8 Tryz.f221) (zg Tryz.f221.ntmps 0 [.d (.agg (enc Ty.acc x)),.d (.agg (enc Ty.val v))]) (retF zsx Tryz.f221.results.toList [.d])
theorem z1q5 (x:Acc) (v:Val) : z122 x v=cndO (x.name.toList == (ByteArray.mk #[115,117,109]).toList) (obO (((-1000000000:Int)≤x.hi∧x.hi≤1000000000)∧(-2000000000000000:Int)≤IntKind.i64.wrap (x.lo+v.n)∧IntKind.i64.wrap (x.lo+v.n)≤2000000000000000) (some (z7m ({ name:=x.name,distinct:=x.distinct,n:=IntKind.i64.wrap (x.n+1),hi:=(zd2 x.hi (IntKind.i64.wrap (x.lo+v.n))).fst,lo:=(zd2 x.hi (IntKind.i64.wrap (x.lo+v.n))).snd,v:=x.v,l:=x.l })))) (cndO (x.name.toList == (ByteArray.mk #[109,105,110]).toList) (cndO (IntKind.i64.wrap (x.n+1) == 1) (some (z7m ({ name:=x.name,distinct:=x.distinct,n:=IntKind.i64.wrap (x.n+1),hi:=x.hi,lo:=x.lo,v:=v,l:=x.l }))) (cndO (decide (z32 v x.v<0)) (some (z7m ({ name:=x.name,distinct:=x.distinct,n:=IntKind.i64.wrap (x.n+1),hi:=x.hi,lo:=x.lo,v:=v,l:=x.l }))) (some (z7m ({ name:=x.name,distinct:=x.distinct,n:=IntKind.i64.wrap (x.n+1),hi:=x.hi,lo:=x.lo,v:=x.v,l:=x.l }))))) (cndO (x.name.toList == (ByteArray.mk #[109,97,120]).toList) (cndO (IntKind.i64.wrap (x.n+1) == 1) (some (z7m ({ name:=x.name,distinct:=x.distinct,n:=IntKind.i64.wrap (x.n+1),hi:=x.hi,lo:=x.lo,v:=v,l:=x.l }))) (cndO (decide (z32 v x.v > 0)) (some (z7m ({ name:=x.name,distinct:=x.distinct,n:=IntKind.i64.wrap (x.n+1),hi:=x.hi,lo:=x.lo,v:=v,l:=x.l }))) (some (z7m ({ name:=x.name,distinct:=x.distinct,n:=IntKind.i64.wrap (x.n+1),hi:=x.hi,lo:=x.lo,v:=x.v,l:=x.l }))))) (some (z7m ({ name:=x.name,distinct:=x.distinct,n:=IntKind.i64.wrap (x.n+1),hi:=x.hi,lo:=x.lo,v:=x.v,l:=x.l }))))):=by kernel_rfl
def zc4 (x:Acc) (v:Val) : Acc:=zbl x v
@[simp] theorem z123 (x:Acc) (v:Val) : zc4 x v=zbl x v:=by unfold zc4;rfl
def znh (x:Acc) : Prop:=(0≤x.n∧x.n≤1000000000)∧(-100000000≤x.hi∧x.hi≤100000000)∧-1000000000000000<x.lo∧x.lo<1000000000000000
theorem z1h3 (x:Acc) (v:Val) (_hx:WS .acc x) (_hv:WS .val v) (h:znh x∧(x.name=nmSum→-1000000000000000≤v.n∧v.n≤1000000000000000)) : z122 x v=some (z7m (zc4 x v)):=by
 obtain⟨⟨h1,h2,h3⟩,h4⟩:=h
 rw[z1q5]
 unfold zc4 zbl
 simp only[za,z1cz,z1pz,z1q0,zk3,zu7]
 rw[z2n (n:=x.n+1) (by omega)]
 by_cases hs : x.name=nmSum
 ·have h4':=h4 hs
  rw[if_pos hs,if_pos hs]
  have e:IntKind.i64.wrap (x.lo+v.n)=x.lo+v.n:=z2n (by omega)
  rw[e,z6 (by omega)]
  rfl
 ·rw[if_neg hs,if_neg hs]
  by_cases hm : x.name=zey
  ·rw[if_pos hm,if_pos hm]
   by_cases h5 : x.n+1=1
   ·simp [h5]
   ·by_cases h6 : ordV v x.v<0
    ·simp [h5,h6]
    ·simp [h5,h6]
  ·rw[if_neg hm,if_neg hm]
   by_cases hx : x.name=zgp
   ·rw[if_pos hx,if_pos hx]
    by_cases h5 : x.n+1=1
    ·simp [h5]
    ·by_cases h6 : ordV v x.v > 0
     ·simp [h5,h6]
     ·simp [h5,h6]
   ·rw[if_neg hx,if_neg hx]
def zd3 : FnC Un:=fun args=>match args with
 | [x0,x1]=>(dS .acc x0).bind fun x=>(dS .val x1).bind fun v=>some ([znh x∧(x.name=nmSum→-1000000000000000≤v.n∧v.n≤1000000000000000)],z16b (zc4 x v),z16c (zc4 x v))
 | _=>none
theorem z124 : FnOK 221 zd3:=by
 intro args ob rs os h hob
 unfold zd3 at h
 split at h
 ·simp only[Option.bind_eq_some_iff,Option.some.injEq,Prod.mk.injEq] at h
  obtain⟨x,e0,v,e1,rfl,rfl,rfl⟩:=h
  obtain rfl:=z18 e0
  obtain rfl:=z18 e1
  exact⟨zd (M:=zsx) rfl (zf (l1:=[(241,zgq),(147,z73)]) (l2:=[]) (l3:=[]) (l4:=[]) (l5:=[]) ⟨z1h2,zju,trivial⟩ trivial trivial trivial trivial) Tryz.func221 (by kernel_rfl) z16d 0 [.d] (fun hwf=>(z1h3 x v (ze hwf (a:=.d (.agg (enc Ty.acc x))) (List.mem_of_getElem? (i:=0) rfl)) (ze hwf (a:=.d (.agg (enc Ty.val v))) (List.mem_of_getElem? (i:=1) rfl)) (hob _ (List.mem_of_getElem? (i:=0) rfl)))),zb Tryz.func221 (by kernel_rfl) (by kernel_rfl)⟩
 ·simp at h
@[simp] theorem zv3 (n:Int) : zh n=numV n:=rfl
def zsy : Mc Un:=mach (tbl [(211,z3u),(32,z52)]) (tbl []) (tbl []) (tbl []) (tbl [])
def z16e (r:Val) : List (A Un):=[.agg (encC Ty.val r)]
def z16f (_r:Val) : List (Ob Un):=[]
def zd4 (r:Val) : RF Un:=(z16e r,z16f r)
def z16g : Nat→NS:=fun l=>(look l []).getD ⟨[],[],[],[],[],false⟩
def z125 (x:Acc) : Option (RF Un):=awf zsy z16g (z8 Tryz.f225) (zg Tryz.f225.ntmps 0 [.d (.agg (enc Ty.acc x))]) (retF zsy Tryz.f225.results.toList [.d])
theorem z1q6 (x:Acc) : z125 x=cndO (x.n == 0) (some (zd4 (z7))) (cndO (decide (x.hi<(-1:Int))) (some (zd4 (z7))) (cndO (decide (x.hi > 1)) (some (zd4 (z7))) (cndO (!z1v (IntKind.i64.wrap (IntKind.i64.wrap (x.hi*1000000000000000)+x.lo))) (some (zd4 (z7))) (some (zd4 (zh (IntKind.i64.wrap (IntKind.i64.wrap (x.hi*1000000000000000)+x.lo)))))))):=by kernel_rfl
def zhw (x:Acc) : Val:=z1q1 x
theorem z1h4 (x:Acc) (_hx:WS .acc x) (h:znh x) : z125 x=some (zd4 (zhw x)):=by
 obtain⟨h1,h2,h3⟩:=h
 rw[z1q6]
 unfold zhw z1q1
 simp only[za,zsl,zv3,beq_iff_eq,decide_eq_true_eq,Bool.not_eq_true']
 by_cases e1 : x.n=0
 ·simp [e1]
 ·by_cases e2 : x.hi < -1
  ·simp [e1,e2]
  ·by_cases e3 : x.hi > 1
   ·simp [e1,e2,e3]
   ·have e4:IntKind.i64.wrap (IntKind.i64.wrap (x.hi*1000000000000000)+x.lo)=x.hi*bigM+x.lo:=by
     unfold bigM;rw[z2n (n:=x.hi*1000000000000000) (by omega),z2n (by omega)]
    rw[e4]
    cases h : inN (x.hi*bigM+x.lo)<;>simp [e1,e2,e3]
def zkx : FnC Un:=fun args=>match args with
 | [x0]=>(dS .acc x0).bind fun x=>some ([znh x],z16e (zhw x),z16f (zhw x))
 | _=>none
theorem z1q7 : FnOK 225 zkx:=by
 intro args ob rs os h hob
 unfold zkx at h
 split at h
 ·simp only[Option.bind_eq_some_iff,Option.some.injEq,Prod.mk.injEq] at h
  obtain⟨x,e0,rfl,rfl,rfl⟩:=h
  obtain rfl:=z18 e0
  exact⟨zd (M:=zsy) rfl (zf (l1:=[(211,z3u),(32,z52)]) (l2:=[]) (l3:=[]) (l4:=[]) (l5:=[]) ⟨zal,zdx,trivial⟩ trivial trivial trivial trivial) Tryz.func225 (by kernel_rfl) z16g 0 [.d] (fun hwf=>(z1h4 x (ze hwf (a:=.d (.agg (enc Ty.acc x))) (List.mem_of_getElem? (i:=0) rfl)) (hob _ (List.mem_of_getElem? (i:=0) rfl)))),zb Tryz.func225 (by kernel_rfl) (by kernel_rfl)⟩
 ·simp at h
end
end Go.Proofs.YtjfpbchdcbhfgaaGreat.B
namespace Go.Proofs.YtjfpbchdcbhfgaaGreat.B
open Go Go.RowKit Go.Shelf
set_option maxRecDepth 1000000
def z7b (n z:Nat) (cv:Nat→Nat→Value) : List Value:=(List.range (n*z)).map fun q=>cv (q / z) (q % z)
theorem zni (n z:Nat) (cv:Nat→Nat→Value) : (z7b n z cv).length=n*z:=by simp [z7b]
theorem z1d3 {n z:Nat} {cv:Nat→Nat→Value} (hz:0<z) {i j:Nat} (hi:i<n) (hj:j<z) : (z7b n z cv)[i*z+j]? = some (cv i j):=by
 have h:i*z+j<n*z:=by
  have : (i+1)*z≤n*z:=Nat.mul_le_mul_right _ hi
  rw[Nat.add_mul] at this;omega
 unfold z7b
 rw[List.getElem?_map,List.getElem?_range h]
 simp only[Option.map_some]
 rw[show (i*z+j) / z=i by rw[Nat.mul_comm,Nat.mul_add_div hz,Nat.div_eq_of_lt hj];omega,show (i*z+j) % z=j by rw[Nat.mul_comm,Nat.mul_add_mod,Nat.mod_eq_of_lt hj]]
theorem znj {n z:Nat} {cv:Nat→Nat→Value} {q:Nat} {u:Value} (h:(z7b n z cv)[q]? = some u) : ∃ i j,i<n∧j<z∧q=i*z+j∧u=cv i j:=by
  have hq:q<n*z:=by have:=(List.getElem?_eq_some_iff.1 h).1;rwa [zni] at this
  have hz : 0 < z := by rcases Nat.eq_zero_or_pos z with e | e; · subst e; omega
                        · exact e
  refine⟨q / z,q % z,(Nat.div_lt_iff_lt_mul hz).2 hq,Nat.mod_lt _ hz,by rw[Nat.mul_comm];exact (Nat.div_add_mod q z).symm,?_⟩
  unfold z7b at h
  rw[List.getElem?_map,List.getElem?_range hq] at h
  simpa using h.symm
open Classical in
theorem z14b {St:Nat→Nat→Prop} {w w':World} {v:Value} {e:TypeId} {τ:Ty} {xs:List (Den τ)} {news:List Value} (hext:Ext w w') (hbd:∀ b o,St b o→b<w.heap.size) (hlen:xs.length≤9223372036854775807)
  (hrow:w'.ownsRow w.heap.size e (sz τ) v xs.length news) (hrel:∀ i (hi:i<xs.length) j d,(enc τ xs[i])[j]? = some d→∃ u,news[i*sz τ+j]? = some u∧VRel En St w u d) :
  Ret Tryz.prog En St w w' v [.c (.ob 0 0)] [⟨0,τ,xs,some 0,true⟩]:=by
 refine⟨hext,?_⟩
 obtain⟨hnl,⟨rfl,hn0⟩ | ⟨gb,cap,cur,rfl,hge,hheap,hcap,hmax,hsz,htake⟩⟩:=hrow
 ·have hx:xs=[]:=List.eq_nil_of_length_eq_zero hn0
  subst hx
  refine⟨⟨fun _=>0,fun _=>False,fun b o=>if St b o then some .st else none,fun _=>(none,0)⟩,fun _ h=>h,?_,?_,?_,?_⟩
  ·intro b o x _ hx
   have hx':(if St b o then some Own.st else none)=some x:=hx
   split at hx'
   ·rename_i hs;simp at hx';exact⟨hx'.symm,hs⟩
   ·simp at hx'
  ·intro b o x hx
   have hx':(if St b o then some Own.st else none)=some x:=hx
   split at hx'
   ·rename_i hs;exact Nat.lt_of_lt_of_le (hbd b o hs) hext.le
   ·simp at hx'
  ·exact⟨rfl,_,rfl,Nat.le_refl _,fun _=>rfl⟩
  ·intro k o ho
   cases k with
   | zero=>simp at ho;subst ho;exact⟨⟨⟨⟨Nat.le_refl _,by simp⟩,fun f hf=>by simp at hf;subst hf;exact Nat.le_refl _⟩,fun h=>absurd h (Nat.lt_irrefl 0)⟩,rfl⟩
   | succ k=>simp at ho
 ·have hcell:∀ q,q<cap*sz τ→w'.cell? ⟨gb,q,none⟩=cur[q]? ∧ (∃ u,w'.cell? ⟨gb,q,none⟩=some u)∧stuck w' ⟨gb,q,none⟩=false:=by
   intro q hq
   have h1:w'.cell? ⟨gb,q,none⟩=cur[q]?:=by simp [World.cell?,hheap]
   refine⟨h1,⟨cur[q]'(by omega),by rw[h1];exact Array.getElem?_eq_getElem _⟩,?_⟩
   simp [stuck,World.shape?,World.frozen?,hheap]
  have hgb:gb<w'.heap.size:=(Array.getElem?_eq_some_iff.1 hheap).1
  let g : G:=⟨fun _=>0,fun _=>False,fun b o=>if b<w.heap.size then (if St b o then some .st else none) else if b=gb∧o<cap*sz τ then some (.obj 0) else none,fun _=>(some ⟨gb,0,none⟩,cap)⟩
  have hω:∀ o,o<cap*sz τ→g.ω gb o=some (.obj 0):=fun o ho=>by
   show (if gb<w.heap.size then _ else _)=_
   rw[if_neg (by omega),if_pos ⟨rfl,ho⟩]
  have hst:Keeps St w g.St w':=fun b o hs=>by
   refine⟨?_,hext.cell (p:=⟨b,o,none⟩) (hbd b o hs)⟩
   show (if b<w.heap.size then _ else _)=_
   rw[if_pos (hbd b o hs),if_pos hs]
  refine⟨g,fun _ h=>h,?_,?_,?_,?_⟩
  ·intro b o x hb hx
   have hx':(if b<w.heap.size then (if St b o then some Own.st else none) else _)=some x:=hx
   rw[if_pos hb] at hx'
   split at hx'
   ·rename_i hs;simp at hx';exact⟨hx'.symm,hs⟩
   ·simp at hx'
  ·intro b o x hx
   have hx':(if b<w.heap.size then (if St b o then some Own.st else none) else if b=gb∧o<cap*sz τ then some (Own.obj 0) else none)=some x:=hx
   split at hx'
   ·rename_i hb;exact Nat.lt_of_lt_of_le hb hext.le
   ·split at hx'
    ·rename_i hh;rw[hh.1];exact hgb
    ·simp at hx'
  ·exact⟨rfl,_,rfl,Nat.le_refl _,fun _=>rfl⟩
  ·intro k o ho
   cases k with
   | succ k=>simp at ho
   | zero =>
    simp at ho;subst ho
    refine⟨⟨⟨⟨hcap,hlen⟩,fun f hf=>by simp at hf;subst hf;exact Nat.zero_le _⟩,fun _=>⟨gb,0,fun i j=>cur.getD (i*sz τ+j) undef,rfl,⟨?_,?_,?_⟩⟩⟩,rfl⟩
    ·intro i j hi hj
     have hlt:i*sz τ+j<cap*sz τ:=by
      have h1:(i+1)*sz τ≤cap*sz τ:=Nat.mul_le_mul_right _ (Nat.le_trans hi hcap)
      have hj':j<sz τ:=hj
      rw[Nat.add_mul] at h1;omega
     obtain⟨c1,_,c3⟩:=hcell _ hlt
     have e0:0+i*Un.sz τ+j=i*sz τ+j:=by show 0+i*sz τ+j=_;omega
     refine⟨?_,?_⟩
     ·show w'.cell? ⟨gb,0+i*Un.sz τ+j,none⟩=_
      rw[e0,c1,Array.getD_eq_getD_getElem?,Array.getElem?_eq_getElem (by omega)];rfl
     ·show Mode g w' 0 (some 0) i gb (0+i*Un.sz τ+j)
      rw[e0]
      exact⟨fun h=>absurd h (Nat.not_lt_zero _),fun _=>⟨hω _ hlt,c3⟩⟩
    ·intro i hi j d hd
     obtain⟨u,hu,hr⟩:=hrel i hi j d hd
     have hj:j<sz τ:=by have h0:j<(enc τ (xs[i]'hi)).length:=(List.getElem?_eq_some_iff.1 hd).1;rwa [zei] at h0
     have hlt:i*sz τ+j<xs.length*sz τ:=by
      have h1:(i+1)*sz τ≤xs.length*sz τ:=Nat.mul_le_mul_right _ hi
      rw[Nat.add_mul] at h1;omega
     have hu2:cur.getD (i*sz τ+j) undef=u:=by
      rw[← htake,List.getElem?_take_of_lt hlt,Array.getElem?_toList] at hu
      rw[Array.getD_eq_getD_getElem?,hu];rfl
     show VRel En g.St w' (cur.getD (i*sz τ+j) undef) d
     rw[hu2];exact hr.mono hst
    ·intro _ x hx hx'
     have hx2:x<cap*sz τ:=hx'
     obtain⟨_,c2,c3⟩:=hcell x hx2
     show g.ω gb (0+x)=_∧_
     rw[Nat.zero_add]
     exact⟨hω x hx2,c2,c3⟩
set_option maxHeartbeats 2000000 in
theorem z1wt {P:Program} {ρ:Ren} (L:SlLaysE0.n41 P ρ) (i0:TypeInfo) (z:Value) (size bytes:Nat) (hi:P.info? (ρ.t 23)=some i0) (hz0:i0.zero=some z) (hz1:i0.size=size) (hz2:i0.bytes=bytes) (hzs:z.cells.size=size) (hsz:0<size)
  (z23:∀ w,(Go.sizeOf (ρ.t 23)).run P w=.ok size w) (a:Addr) (c:Nat) (w:World) :
  Calls P (ρ.f 41) #[.slice (some a) 0 c] w fun e w'=>∃ v',e=.returned v'∧w'.ownsRow w.heap.size (ρ.t 23) size v' 0 []∧Below w.heap.size w w':=by
 have mixed:=L.mixed;have t4:=L.t4;have a4:=L.a4;have z4:=L.z4;have v4:=L.v4;have t22:=L.t22;have a22:=L.a22;have z22:=L.z22;have v22:=L.v22
 have q22:∀ (w:World) (a:Option Addr) (n c n' c':Nat),(binOp .eql (ρ.t 22) (.slice a n c) (.slice none n' c')).run P w=.ok (.bool a.isNone) w:=fun w a n c n' c'=>Lib.run_eql_slice_nil w _ _ a n c n' c' L.t22
 have u22:∀ w,Sem.run P (underlying (ρ.t 22)) w=.ok (TypeDesc.slice (ρ.t 23)) w:=run_underlying t22
 obtain⟨_,_,FG⟩:=L.f41
 go_enter FG,SlBodyN.n41_ntmps ρ
 go_wp2_with (at_builtin;refine wpList_append_own _ rfl _ _ (ρ.t 22) rfl w.heap.size (ρ.t 23) i0 z size bytes t22 hi hz0 hz1 hz2 hzs hsz _ _ _ rfl (World.ownsRow_made w #[] 0 (Nat.le_refl _) (Nat.zero_le _) (by simp)) a 0 c [] rfl ?qc1 ?qc2 ?qc3 ?qc4 ?qc5 ?qc6 ?_)
 case qc1=>simp
 case qc2=>intro j u hj;simp at hj
 case qc3=>intro u hu;simp at hu
 case qc4=>unfold maxLen;omega
 case qc5=>omega
 case qc6=>simp
 intro v' w1 hown hgrow hnil
 go_wp2
 go_ret
 exact⟨v',rfl,by simpa using hown,((Below.refl _ w).alloc (Nat.le_refl _) _).grown hgrow (by simp) (by intro k hk;simp [Value.ownBlock] at hk;omega)⟩
theorem z126 {w w':World} (h:Below w.heap.size w w') : Ext w w':=⟨h.os,h.tape,h.output,h.size,h.block⟩
def zob (τ:Ty) : FnC Un:=fun args=>match args with
 | [x0]=>(dL τ x0).bind fun s=>some ([s.length≤1000000000],[.c (.ob 0 0)],[⟨0,τ,s,some 0,true⟩])
 | _=>none
theorem z21u {ρ:Ren} (L:SlLaysE0.n41 Tryz.prog ρ) (τ:Ty) (i0:TypeInfo) (z:Value) (bytes:Nat) (hi:Tryz.prog.info? (ρ.t 23)=some i0) (hz0:i0.zero=some z) (hz1:i0.size=sz τ) (hz2:i0.bytes=bytes) (hzs:z.cells.size=sz τ) (hsz:0<sz τ)
    (hb:bytes≤100000) (z23:∀ w,(Go.sizeOf (ρ.t 23)).run Tryz.prog w=.ok (sz τ) w) (hB:z3q Tryz.prog (ρ.f 41)) : FnOK (ρ.f 41) (zob τ):=by
  intro args ob rs os h hob
  unfold zob at h
  split at h
  · simp only[Option.bind_eq_some_iff,Option.some.injEq,Prod.mk.injEq] at h
    obtain⟨s,e0,rfl,rfl,rfl⟩:=h
    obtain rfl:=z1i e0
    have hlen:s.length≤1000000000:=hob _ (by simp)
    refine⟨fun w St vs hbd hvs hld=>?_,hB⟩
    match vs,hvs with
    | [v0],⟨h0,_⟩ =>
      have hV:VRel En St w v0 (.dat τ s):=h0
      rcases hV.inv with ⟨rfl,a,cap,rfl⟩ | ⟨b,o,cap,cv,rfl,hcap,hc,hr⟩
      · cases a with
        | none =>
          refine (AnyE.slices_Clone_nil L 0 cap w).mono ?_
          rintro e w' ⟨rfl,rfl⟩
          exact⟨_,rfl,z14b (e:=ρ.t 23) (news:=[]) (Ext.refl _) hbd (by simp) ⟨by simp,.inl ⟨rfl,rfl⟩⟩ (fun i hi=>absurd hi (Nat.not_lt_zero _))⟩
        | some a =>
          refine (z1wt L i0 z (sz τ) bytes hi hz0 hz1 hz2 hzs hsz z23 a cap w).mono ?_
          rintro e w' ⟨v',rfl,hown,hbel⟩
          exact⟨v',rfl,z14b (z126 hbel) hbd (by simp) hown (fun i hi=>absurd hi (Nat.not_lt_zero _))⟩
      · have hcell:∀ j u,(z7b s.length (sz τ) cv)[j]? = some u→w.cell? ⟨b,o+j,none⟩=some u∧∃ i q,i<s.length∧q<sz τ∧j=i*sz τ+q∧u=cv i q:=by
          intro j u hj
          obtain⟨i,q,hi,hq,rfl,rfl⟩:=znj hj
          refine⟨?_,i,q,hi,hq,rfl,rfl⟩
          have:=(hc i q hi hq).2
          rw[← Nat.add_assoc];exact this
        have hone:∀ u∈z7b s.length (sz τ) cv,u.oneCell'=true:=by
          intro u hu
          obtain⟨j,hj⟩:=List.getElem?_of_mem hu
          obtain⟨_,i,q,hi,hq,_,rfl⟩:=hcell j u hj
          have hq':q<(enc τ (s[i]'hi)).length:=by rw[zei];exact hq
          have:=hr i hi q _ (List.getElem?_eq_getElem hq')
          exact z1fu this.one
        refine (AnyE.slices_Clone L i0 z (sz τ) bytes hi hz0 hz1 hz2 hzs hsz z23 b o s.length cap (z7b s.length (sz τ) cv) w (zni _ _ _) (by unfold maxLen;omega)
          (by have:s.length*bytes≤1000000000*100000:=Nat.mul_le_mul hlen hb
              omega) (fun j u hj=>(hcell j u hj).1) hone).mono ?_
        rintro e w' ⟨v',rfl,hown,_,hbel⟩
        refine⟨v',rfl,z14b (z126 hbel) hbd (by omega) hown fun i hi j d hd=>?_⟩
        have hj:j<sz τ:=by have h0:j<(enc τ (s[i]'hi)).length:=(List.getElem?_eq_some_iff.1 hd).1;rwa [zei] at h0
        exact⟨cv i j,z1d3 hsz hi hj,hr i hi j d hd⟩
  · simp at h
def mach0 : Mc Un:=mach (fun _=>none) (fun _=>none) (fun _=>none) (fun _=>none) (fun _=>none)
def z1d4 (t e:TypeId) (τ:Ty) : Bool:=match mach0.ti t with | .sl e' τ' b=>e' == e && decide (τ'=τ) && decide (b≤100000) | _=>false
theorem slOf {t e:TypeId} {τ:Ty} (h:z1d4 t e τ=true) : ∃ bytes i z,bytes≤100000∧0<bytes∧0<sz τ∧Tryz.prog.underlying t=some (.slice e)∧Tryz.prog.info? e=some i∧i.size=sz τ∧i.bytes=bytes∧i.zero=some z∧z.cells.size=sz τ:=by
 unfold z1d4 at h
 split at h
 ·rename_i e' τ' b hti
  simp only[Bool.and_eq_true,beq_iff_eq,decide_eq_true_eq] at h
  obtain⟨⟨rfl,rfl⟩,hb⟩:=h
  have h:=((z1nc (fun _=>none) (fun _=>none) (fun _=>none) (fun _=>none) (fun _=>none)).ti t).2
  rw[show (mach (fun _=>none) (fun _=>none) (fun _=>none) (fun _=>none) (fun _=>none)).ti t=.sl e' τ' b from hti] at h
  obtain⟨h0,⟨h1,h1'⟩,i,z,h2,h3,h4,h5,h6⟩:=h
  exact⟨b,i,z,hb,h1',h1,h0,h2,h3,h4,h5,h6⟩
 ·simp at h
theorem zxh {ρ:Ren} (L:SlLaysE0.n41 Tryz.prog ρ) {τ:Ty} (hti:z1d4 (ρ.t 22) (ρ.t 23) τ=true) (hB:z3q Tryz.prog (ρ.f 41)) : FnOK (ρ.f 41) (zob τ):=by
 obtain⟨bytes,i,z,hb,h1',h1,h0,h2,h3,h4,h5,h6⟩:=slOf hti
 refine z21u L τ i z bytes h2 h5 h3 h4 h6 h1 hb (fun w=>?_) hB
 have:=Go.run_sizeOf w h2
 rw[this];simp only[Program.cellsOf,h2];exact congrArg (fun n=>Result.ok n w) h3
end Go.Proofs.YtjfpbchdcbhfgaaGreat.B
namespace Go.Proofs.YtjfpbchdcbhfgaaGreat.B
open Go Go.RowKit Go.Shelf
set_option maxRecDepth 1000000
def z1h5 : Ren:=⟨fun | 41=>85 | n=>n,fun | 4=>4 | 22=>27 | 23=>57 | n=>n,fun | n=>n⟩
theorem z1d5 : SlLaysE0.n41 Tryz.prog z1h5:={
  mixed:=by kernel_rfl
  f41:=⟨Tryz.f85.name,by kernel_rfl,Tryz.func85.trans (congrArg some (by kernel_rfl))⟩
  t4:=Tryz.underlying4
  a4:=Tryz.isAgg4
  z4:=Tryz.sizeOf4
  v4:=Tryz.zeroValue4
  t22:=Tryz.underlying27
  a22:=Tryz.isAgg27
  z22:=Tryz.sizeOf27
  v22:=Tryz.zeroValue27 }
def z9g : FnC Un:=zob .row
theorem zmt : FnOK 85 z9g:=zxh z1d5 (by kernel_rfl) (zb Tryz.func85 (by kernel_rfl) (by kernel_rfl))
def z1mb : Ren:=⟨fun | 41=>224 | n=>n,fun | 4=>4 | 22=>56 | 23=>37 | n=>n,fun | n=>n⟩
theorem z1h6 : SlLaysE0.n41 Tryz.prog z1mb:={
  mixed:=by kernel_rfl
  f41:=⟨Tryz.f224.name,by kernel_rfl,Tryz.func224.trans (congrArg some (by kernel_rfl))⟩
  t4:=Tryz.underlying4
  a4:=Tryz.isAgg4
  z4:=Tryz.sizeOf4
  v4:=Tryz.zeroValue4
  t22:=Tryz.underlying56
  a22:=Tryz.isAgg56
  z22:=Tryz.sizeOf56
  v22:=Tryz.zeroValue56 }
def zsz : FnC Un:=zob .val
theorem z1q8 : FnOK 224 zsz:=zxh z1h6 (by kernel_rfl) (zb Tryz.func224 (by kernel_rfl) (by kernel_rfl))
def z1mc : Ren:=⟨fun | 41=>140 | n=>n,fun | 4=>4 | 22=>57 | 23=>37 | n=>n,fun | n=>n⟩
theorem z1h7 : SlLaysE0.n41 Tryz.prog z1mc:={
  mixed:=by kernel_rfl
  f41:=⟨Tryz.f140.name,by kernel_rfl,Tryz.func140.trans (congrArg some (by kernel_rfl))⟩
  t4:=Tryz.underlying4
  a4:=Tryz.isAgg4
  z4:=Tryz.sizeOf4
  v4:=Tryz.zeroValue4
  t22:=Tryz.underlying57
  a22:=Tryz.isAgg57
  z22:=Tryz.sizeOf57
  v22:=Tryz.zeroValue57 }
def zt0 : FnC Un:=zob .val
theorem z1q9 : FnOK 140 zt0:=zxh z1h7 (by kernel_rfl) (zb Tryz.func140 (by kernel_rfl) (by kernel_rfl))
end Go.Proofs.YtjfpbchdcbhfgaaGreat.B
