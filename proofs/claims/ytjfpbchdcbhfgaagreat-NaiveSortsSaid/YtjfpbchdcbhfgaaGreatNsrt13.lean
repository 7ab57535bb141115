/- Part 13 of the proof: Lcompare Slcmp Svcmp Svord Snum2. -/
import Derived.Lib.Bytealg
import Derived.Lib.Strings
import Derived.Lib.Walk
import Derived.Test.YtjfpbchdcbhfgaaGreatNsrt12
namespace Go.Proofs.YtjfpbchdcbhfgaaGreat.B
open Go Go.RowKit
set_option maxRecDepth 1000000
theorem z14h (a b:ByteArray) (w:World) :
  Calls Tryz.prog 229 #[.string a,.string b] w fun e w'=>e=.returned (.int .i64 (Lib.compareBytes a.data.toList b.data.toList))∧w'=w:=by
 have mixed:Tryz.prog.follows .mixedOrders=true:=by kernel_rfl
 go_enter Tryz.func229,Tryz.ntmps229
 go_wp2
 rw[run_callFunc_extern Tryz.func245 (by kernel_rfl) (by kernel_rfl) (by kernel_rfl) (e:=Extern.BytealgCompare.compare) (by kernel_rfl),Lib.run_compareString]
 simp only[Result.andThen]
 rw[Oper.upon_value]
 go_wp2
 go_ret
 exact⟨rfl,rfl⟩
theorem zqh : ∀ (a b:List UInt8),Lib.compareBytes a b=cmpL a b
 | [],[]=>rfl
 | [],_::_=>rfl
 | _::_,[]=>rfl
 | x::a,y::b=>by
  have hlt:∀ p q : UInt8,(p<q)=((p.toNat:Int)<q.toNat):=fun p q=>by simp [UInt8.lt_iff_toNat_lt]
  simp only[Lib.compareBytes,cmpL,cmpI,hlt]
  by_cases h : x=y
  ·subst h;simp [zqh a b]
  ·have hne:x.toNat≠y.toNat:=fun e=>h (UInt8.toNat_inj.1 e)
   rw[if_neg h]
   by_cases h1 : (x.toNat:Int)<y.toNat
   ·rw[if_pos h1,if_pos h1]
   ·rw[if_neg h1,if_neg h1,if_pos (by omega),if_pos (by omega)]
theorem z1bj : ∀ (a b:List UInt8),-1≤cmpL a b∧cmpL a b≤1
 | [],[]=>by simp [cmpL]
 | [],_::_=>by simp [cmpL]
 | _::_,[]=>by simp [cmpL]
 | x::a,y::b=>by
  simp only[cmpL,cmpI]
  have:=z1bj a b
  repeat' split
  all_goals omega
def z48 : FnC Un:=fun args=>match args with
 | [x0,x1]=>(dStr x0).bind fun a=>(dStr x1).bind fun b=>some ([],[.c (.s (.int .i64 (cmpS a b)))],[])
 | _=>none
theorem zfv : FnOK 229 z48:=by
 intro args ob rs os h hob
 unfold z48 at h
 split at h
 ·rename_i x0 x1
  simp only[Option.bind_eq_some_iff,Option.some.injEq,Prod.mk.injEq] at h
  obtain⟨s,e0,t,e1,rfl,rfl,rfl⟩:=h
  obtain rfl:=z57 e0
  obtain rfl:=z57 e1
  refine⟨?_,zb Tryz.func229 (by kernel_rfl) (by kernel_rfl)⟩
  have hr:=z1bj s.toList t.toList
  refine zqg (oneC_i64.2 (by unfold cmpS;omega)) fun w vs St hvs=>?_
  match vs,hvs with
  | [v0,v1],⟨h0,h1,_⟩ =>
   obtain⟨rfl,-⟩:=zos h0
   obtain⟨rfl,-⟩:=zos h1
   refine (z14h s t w).mono ?_
   rintro e w' ⟨rfl,rfl⟩
   refine⟨?_,rfl⟩
   rw[zqh];unfold cmpS
   rw[ByteArray.toList_eq,ByteArray.toList_eq]
 ·simp at h
end Go.Proofs.YtjfpbchdcbhfgaaGreat.B
namespace Go.Proofs.YtjfpbchdcbhfgaaGreat.B
open Go Go.RowKit
set_option maxRecDepth 100000
noncomputable section
attribute [local irreducible] awp ctxK z12 z1o retQ z2i
def z8g : Mc Un:=mach (tbl [(229,z48)]) (tbl []) (tbl []) (tbl []) (tbl [])
def zfm : Nat→NS:=fun l=>(look l []).getD ⟨[],[],[],[],[],false⟩
def zba (r:Int) : List (A Un):=[.c (.s (.int .i64 r))]
def zbb (_r:Int) : List (Ob Un):=[]
theorem z10u (a:ByteArray) (b:ByteArray) (K:List (A Un)→List (Ob Un)→Prop) :
  awp z8g zfm (z8 Tryz.f194) (zg Tryz.f194.ntmps 0 [.d (.v (cs a)),.d (.v (cs b))]) (retQ z8g Tryz.f194.results.toList [.d] K) =
(K (zba (cmpS a b)) (zbb (cmpS a b))):=by kernel_rfl
def zam (a:ByteArray) (b:ByteArray) : Option (Int) :=
 some (cmpS a b)
theorem zzz {a:ByteArray} {b:ByteArray} {r:Int} (h:zam a b=some r) : Runs (awp z8g zfm (z8 Tryz.f194) (zg Tryz.f194.ntmps 0 [.d (.v (cs a)),.d (.v (cs b))]) (retQ z8g Tryz.f194.results.toList [.d] fun rs os=>rs=zba r∧os=zbb r)):=by
 constructor
 rw[z10u a b (fun rs os=>rs=zba r∧os=zbb r)]
 unfold zam at h
 cases h
 exact⟨rfl,rfl⟩
def strings_Compare (a:ByteArray) (b:ByteArray) : Int :=
 (cmpS a b)
theorem z10v (a:ByteArray) (b:ByteArray) : zam a b=some (strings_Compare a b):=by unfold zam strings_Compare;repeat (first | rfl | split)
def z6z : FnC Un:=fun args=>match args with
 | [x0,x1]=>(dStr x0).bind fun a=>(dStr x1).bind fun b=>some ([],zba (strings_Compare a b),zbb (strings_Compare a b))
 | _=>none
theorem zlx : FnOK 194 z6z:=by
 intro args ob rs os h hob
 unfold z6z at h
 split at h
 ·simp only[Option.bind_eq_some_iff,Option.some.injEq,Prod.mk.injEq] at h
  obtain⟨a,e0,b,e1,rfl,rfl,rfl⟩:=h
  obtain rfl:=z57 e0
  obtain rfl:=z57 e1
  exact⟨z2t (M:=z8g) rfl (zf (l1:=[(229,z48)]) (l2:=[]) (l3:=[]) (l4:=[]) (l5:=[]) ⟨zfv,trivial⟩ trivial trivial trivial trivial) Tryz.func194 (by kernel_rfl) zfm 0 [.d] (fun hwf=>zzz (z10v a b)),zb Tryz.func194 (by kernel_rfl) (by kernel_rfl)⟩
 ·simp at h
def zfw : Mc Un:=mach (tbl []) (tbl []) (tbl []) (tbl []) (tbl [])
def zso : Nat→NS:=fun l=>(look l []).getD ⟨[],[],[],[],[],false⟩
def zkl (r:Bool) : List (A Un):=[.c (.s (.bool r))]
def zkm (_r:Bool) : List (Ob Un):=[]
theorem z1oq (x:Int) (K:List (A Un)→List (Ob Un)→Prop) :
  awp zfw zso (z8 Tryz.f228) (zg Tryz.f228.ntmps 0 [.d (.v (.s (.int .i64 x)))]) (retQ zfw Tryz.f228.results.toList [.d] K) =
(K (zkl (x != x)) (zkm (x != x))):=by kernel_rfl
def zic (x:Int) : Option (Bool) :=
 some (x != x)
theorem z1lp {x:Int} {r:Bool} (h:zic x=some r) : Runs (awp zfw zso (z8 Tryz.f228) (zg Tryz.f228.ntmps 0 [.d (.v (.s (.int .i64 x)))]) (retQ zfw Tryz.f228.results.toList [.d] fun rs os=>rs=zkl r∧os=zkm r)):=by
 constructor
 rw[z1oq x (fun rs os=>rs=zkl r∧os=zkm r)]
 unfold zic at h
 cases h
 exact⟨rfl,rfl⟩
def z5h (x:Int) : Bool :=
 (x != x)
theorem z1or (x:Int) : zic x=some (z5h x):=by unfold zic z5h;repeat (first | rfl | split)
def zkn : FnC Un:=fun args=>match args with
 | [x0]=>(dI .i64 x0).bind fun x=>some ([],zkl (z5h x),zkm (z5h x))
 | _=>none
theorem z1os : FnOK 228 zkn:=by
 intro args ob rs os h hob
 unfold zkn at h
 split at h
 ·simp only[Option.bind_eq_some_iff,Option.some.injEq,Prod.mk.injEq] at h
  obtain⟨x,e0,rfl,rfl,rfl⟩:=h
  obtain rfl:=z1t e0
  exact⟨z2t (M:=zfw) rfl (zf (l1:=[]) (l2:=[]) (l3:=[]) (l4:=[]) (l5:=[]) trivial trivial trivial trivial trivial) Tryz.func228 (by kernel_rfl) zso 0 [.d] (fun hwf=>z1lp (z1or x)),zb Tryz.func228 (by kernel_rfl) (by kernel_rfl)⟩
 ·simp at h
def zcm : Mc Un:=mach (tbl [(228,zkn)]) (tbl []) (tbl []) (tbl []) (tbl [])
def zmj : Nat→NS:=fun l=>(look l []).getD ⟨[],[],[],[],[],false⟩
def z5x (r:Int) : List (A Un):=[.c (.s (.int .i64 r))]
def z5y (_r:Int) : List (Ob Un):=[]
theorem z1gg (x:Int) (y:Int) (K:List (A Un)→List (Ob Un)→Prop) :
  awp zcm zmj (z8 Tryz.f193) (zg Tryz.f193.ntmps 0 [.d (.v (.s (.int .i64 x))),.d (.v (.s (.int .i64 y)))]) (retQ zcm Tryz.f193.results.toList [.d] K) =
(cnd (z5h x)
 (cnd (z5h y)
  (K (z5x ((0:Int))) (z5y ((0:Int))))
  (K (z5x ((-1:Int))) (z5y ((-1:Int)))))
 (cnd (z5h y)
  (K (z5x ((1:Int))) (z5y ((1:Int))))
  (cnd (decide (x<y))
   (K (z5x ((-1:Int))) (z5y ((-1:Int))))
   (cnd (decide (x > y))
    (K (z5x ((1:Int))) (z5y ((1:Int))))
    (K (z5x ((0:Int))) (z5y ((0:Int)))))))):=by kernel_rfl
def zel (x:Int) (y:Int) : Option (Int) :=
  if (z5h x)=true then
   if (z5h y)=true then
    some ((0:Int))
   else
    some ((-1:Int))
  else
   if (z5h y)=true then
    some ((1:Int))
   else
    if (decide (x<y))=true then
     some ((-1:Int))
    else
     if (decide (x > y))=true then
      some ((1:Int))
     else
      some ((0:Int))
theorem z1bk {x:Int} {y:Int} {r:Int} (h:zel x y=some r) : Runs (awp zcm zmj (z8 Tryz.f193) (zg Tryz.f193.ntmps 0 [.d (.v (.s (.int .i64 x))),.d (.v (.s (.int .i64 y)))]) (retQ zcm Tryz.f193.results.toList [.d] fun rs os=>rs=z5x r∧os=z5y r)):=by
 constructor
 rw[z1gg x y (fun rs os=>rs=z5x r∧os=z5y r)]
 unfold zel at h
 rcases z15 h with ⟨c1,h2⟩ | ⟨c1,h2⟩
 ·rcases z15 h2 with ⟨c3,h4⟩ | ⟨c3,h4⟩
  ·cases h4
   exact (z1j c1 (z1j c3 ⟨rfl,rfl⟩))
  ·cases h4
   exact (z1j c1 (zr (zk c3) ⟨rfl,rfl⟩))
 ·rcases z15 h2 with ⟨c5,h6⟩ | ⟨c5,h6⟩
  ·cases h6
   exact (zr (zk c1) (z1j c5 ⟨rfl,rfl⟩))
  ·rcases z15 h6 with ⟨c7,h8⟩ | ⟨c7,h8⟩
   ·cases h8
    exact (zr (zk c1) (zr (zk c5) (z1j c7 ⟨rfl,rfl⟩)))
   ·rcases z15 h8 with ⟨c9,h10⟩ | ⟨c9,h10⟩
    ·cases h10
     exact (zr (zk c1) (zr (zk c5) (zr (zk c7) (z1j c9 ⟨rfl,rfl⟩))))
    ·cases h10
     exact (zr (zk c1) (zr (zk c5) (zr (zk c7) (zr (zk c9) ⟨rfl,rfl⟩))))
def z3m (x:Int) (y:Int) : Int :=
  if (z5h x)=true then
   if (z5h y)=true then
    ((0:Int))
   else
    ((-1:Int))
  else
   if (z5h y)=true then
    ((1:Int))
   else
    if (decide (x<y))=true then
     ((-1:Int))
    else
     if (decide (x > y))=true then
      ((1:Int))
     else
      ((0:Int))
theorem z1gh (x:Int) (y:Int) : zel x y=some (z3m x y):=by unfold zel z3m;repeat (first | rfl | split)
def z9w : FnC Un:=fun args=>match args with
 | [x0,x1]=>(dI .i64 x0).bind fun x=>(dI .i64 x1).bind fun y=>some ([],z5x (z3m x y),z5y (z3m x y))
 | _=>none
theorem zu6 : FnOK 193 z9w:=by
 intro args ob rs os h hob
 unfold z9w at h
 split at h
 ·simp only[Option.bind_eq_some_iff,Option.some.injEq,Prod.mk.injEq] at h
  obtain⟨x,e0,y,e1,rfl,rfl,rfl⟩:=h
  obtain rfl:=z1t e0
  obtain rfl:=z1t e1
  exact⟨z2t (M:=zcm) rfl (zf (l1:=[(228,zkn)]) (l2:=[]) (l3:=[]) (l4:=[]) (l5:=[]) ⟨z1os,trivial⟩ trivial trivial trivial trivial) Tryz.func193 (by kernel_rfl) zmj 0 [.d] (fun hwf=>z1bk (z1gh x y)),zb Tryz.func193 (by kernel_rfl) (by kernel_rfl)⟩
 ·simp at h
@[simp] theorem zou (x y:Int) : z3m x y=cmpI x y:=by
 unfold z3m z5h cmpI
 simp
@[simp] theorem zid (a b:ByteArray) : strings_Compare a b=cmpS a b:=rfl
def z5f : Mc Un:=mach (tbl []) (tbl []) (tbl []) (tbl []) (tbl [])
def z5g : Nat→NS:=fun l=>(look l [(3,{ ts:=[false,false,true,true,false,false,true,true,true,false,false,false,false,false,false,false,false,false],bs:=[false,false,false,false,false,false,false,false,false,false,false,false,false,false,false,false,false,false],nm:=[],gb:=[],gs:=[] })]).getD ⟨[],[],[],[],[],false⟩
def zov (r:Int) : List (A Un):=[.c (.s (.int .i64 r))]
def zow (_r:Int) : List (Ob Un):=[]
def zan (vals:List Int) (v0:Int) : S Un:=(st 18 18 72 0 [(2,AV.one (A.c (C.s (Value.int IntKind.i64 (0:Int))))),(3,AV.one (A.c (C.s (Value.int IntKind.i64 (0:Int))))),(6,AV.one (A.c (C.sl Ty.int vals false))),(7,AV.one (A.c (C.s (Value.int IntKind.i64 (↑vals.length:Int))))),(8,AV.one (A.c (C.s (Value.int IntKind.i64 v0))))] [] [])
def zge (vals:List Int) (v0:Int) (v1:Int) : S Un:=(st 18 18 72 0 [(2,AV.one (A.c (C.s (Value.int IntKind.i64 v1)))),(3,AV.one (A.c (C.s (Value.int IntKind.i64 (0:Int))))),(6,AV.one (A.c (C.sl Ty.int vals false))),(7,AV.one (A.c (C.s (Value.int IntKind.i64 (↑vals.length:Int))))),(8,AV.one (A.c (C.s (Value.int IntKind.i64 v0))))] [] [])
theorem z1yt (vals:List Int) (K:List (A Un)→List (Ob Un)→Prop) :
  awp z5f z5g (z8 Tryz.f192) (zg Tryz.f192.ntmps 0 [.d (.v (.dat (U:=Un) Ty.int vals))]) (retQ z5f Tryz.f192.results.toList [.d] K) =
(z12 (z5g 3) (awp z5f z5g (sub (z8 Tryz.f192) [1,1,0,1,2,2])) (ctxK z5f z5g (z8 Tryz.f192) [1,1,0,1,2] (retQ z5f Tryz.f192.results.toList [.d] K)) (zan vals (0:Int))):=by kernel_rfl
theorem z10w (vals:List Int) (v0:Int) (k:Nat) (Q:Exit→S Un→Prop) :
  z1o (z5g 3) (awp z5f z5g (sub (z8 Tryz.f192) [1,1,0,1,2,2])) Q (k+1) (zan vals v0) =
(cnd (decide (v0<(↑vals.length:Int)))
 (((0:Int)≤v0∧v0<(↑vals.length:Int)) ∧
 (cnd (vals.getD v0.toNat (0:Int) != (0:Int))
  (Q .ret (zge vals v0 (vals.getD v0.toNat (0:Int))))
  (z1o (z5g 3) (awp z5f z5g (sub (z8 Tryz.f192) [1,1,0,1,2,2])) Q k (zan vals (IntKind.i64.wrap (v0+(1:Int)))))))
 (Q (.exit 0) (zan vals v0))):=by kernel_rfl
theorem z1lq (vals:List Int) (v0:Int) (v1:Int) (K:List (A Un)→List (Ob Un)→Prop) :
  ctxK z5f z5g (z8 Tryz.f192) [1,1,0,1,2] (retQ z5f Tryz.f192.results.toList [.d] K) .ret (zge vals v0 v1) =
(K (zov (v1)) (zow (v1))):=by kernel_rfl
theorem z1ot (vals:List Int) (v0:Int) (K:List (A Un)→List (Ob Un)→Prop) :
  ctxK z5f z5g (z8 Tryz.f192) [1,1,0,1,2] (retQ z5f Tryz.f192.results.toList [.d] K) (.exit 0) (zan vals v0) =
(K (zov ((0:Int))) (zow ((0:Int)))):=by kernel_rfl
def zhk (vals:List Int) (v:Int) : Option ((Int) ⊕ ((Int×Int) ⊕ (Int))) :=
  if (decide (v<(↑vals.length:Int)))=true then
   if (0:Int)≤v∧v<(↑vals.length:Int) then
    if (vals.getD v.toNat (0:Int) != (0:Int))=true then
     some (.inr (.inl (v,(vals.getD v.toNat (0:Int)))))
    else
     some (.inl (IntKind.i64.wrap (v+(1:Int))))
   else none
  else
   some (.inr (.inr v))
def zhl (vals:List Int) (v:Int) : Option ((Int×Int) ⊕ (Int)):=zca (zhk vals) v
theorem z10x (vals:List Int) (v:Int) : zhl vals v=zkj (zhl vals) (zhk vals v):=zon _ _
def zqi (vals:List Int) (r:(Int×Int) ⊕ (Int)) (Q:Exit→S Un→Prop) : Prop:=match r with | .inl x=>Q .ret (zge vals x.1 x.2) | .inr x=>Q (.exit 0) (zan vals x)
theorem z1lr {vals:List Int} {x:Int×Int} {Q:Exit→S Un→Prop} (h:Q .ret (zge vals x.1 x.2)) : zqi vals (.inl x) Q:=h
theorem z1ou {vals:List Int} {x:Int} {Q:Exit→S Un→Prop} (h:Q (.exit 0) (zan vals x)) : zqi vals (.inr x) Q:=h
theorem zy7 {vals:List Int} {v:Int} {r:(Int×Int) ⊕ (Int)} (h:zhl vals v=some r) (Q:Exit→S Un→Prop) (hQ:zqi vals r Q) : z12 (z5g 3) (awp z5f z5g (sub (z8 Tryz.f192) [1,1,0,1,2,2])) Q (zan vals v):=by
 refine @zoo _ _ (zhk vals) (fun v=>z12 (z5g 3) (awp z5f z5g (sub (z8 Tryz.f192) [1,1,0,1,2,2])) Q (zan vals v)) (fun r=>zqi vals r Q) ?_ v r h hQ
 intro v o h hI
 unfold zhk at h
 rcases z15 h with ⟨c1,h2⟩ | ⟨c1,h2⟩
 ·obtain⟨c3,h4⟩:=z8z h2
  rcases z15 h4 with ⟨c5,h6⟩ | ⟨c5,h6⟩
  ·cases h6
   exact z4u 1 (mpr (z10w vals v 0 Q) (z1j c1 (And.intro c3 (z1j c5 hI))))
  ·cases h6
   obtain⟨k7,hk8⟩:=znc hI
   exact z4u (k7+1) (mpr (z10w vals v k7 Q) (z1j c1 (And.intro c3 (zr (zk c5) hk8))))
 ·cases h2
  exact z4u 1 (mpr (z10w vals v 0 Q) (zr (zk c1) hI))
def zqj (vals:List Int) : Option (Int) :=
  (zhl vals (0:Int)) >>= fun o9=>match o9 with
   | .inl o10 =>
     some (o10.2)
   | .inr o11 =>
     some ((0:Int))
theorem z1vp {vals:List Int} {r:Int} (h:zqj vals=some r) : Runs (awp z5f z5g (z8 Tryz.f192) (zg Tryz.f192.ntmps 0 [.d (.v (.dat (U:=Un) Ty.int vals))]) (retQ z5f Tryz.f192.results.toList [.d] fun rs os=>rs=zov r∧os=zow r)):=by
 constructor
 rw[z1yt vals (fun rs os=>rs=zov r∧os=zow r)]
 unfold zqj at h
 obtain⟨o12,ho13,h14⟩:=bind_some h
 rcases o12 with o15 | o16
 ·cases h14
  exact (zy7 ho13 _ (z1lr (mpr (z1lq vals o15.1 o15.2 _) ⟨rfl,rfl⟩)))
 ·cases h14
  exact (zy7 ho13 _ (z1ou (mpr (z1ot vals o16 _) ⟨rfl,rfl⟩)))
def orL : List Int→Int
 | []=>0
 | x::r=>if x=0 then orL r else x
def zie (vals:List Int) : Int:=orL vals
@[simp] theorem z1yu (vals:List Int) : zie vals=orL vals:=by unfold zie;rfl
theorem z1sj (vals:List Int) (h:WL .int vals) : ∀ (r:List Int) (i:Nat),vals.drop i=r →
  ∃ o,zhl vals i=some o∧(match o with | .inl o=>o.2 | .inr _=>0)=orL r:=by
 intro r
 induction r with
 | nil =>
  intro i h1
  have e1:=drop_nil h1
  have hn:¬ ((i:Int)<vals.length):=by omega
  exact⟨.inr i,by rw[z10x,zhk];simp [hn],rfl⟩
 | cons x r ih =>
  intro i h1
  obtain⟨a1,a2,a3,_⟩:=z31 h1
  have hp:(i:Int)<vals.length:=by omega
  have hi:(0:Int)≤i:=by omega
  rw[z10x,zhk]
  simp only[hp,hi,decide_true,if_true,and_self,Int.toNat_natCast,a2,bne_iff_ne,ne_eq,ite_not,orL]
  by_cases hx : x=0
  ·rw[if_pos hx,if_pos hx,zqd a1 h.len,zlv];exact ih (i+1) a3
  ·exact⟨_,by rw[if_neg hx,zhi],by rw[if_neg hx]⟩
theorem z1sk (vals:List Int) (h:WL .int vals) : zqj vals=some (zie vals):=by
 obtain⟨o,ho,e⟩:=z1sj vals h _ 0 rfl
 unfold zqj zie
 simp only[List.drop_zero] at e
 rw[← e]
 have ho':zhl vals 0=some o:=ho
 rw[ho']
 cases o<;>rfl
def zwy : FnC Un:=fun args=>match args with
 | [x0]=>(dL .int x0).bind fun vals=>some ([],zov (zie vals),zow (zie vals))
 | _=>none
theorem z1yv : FnOK 192 zwy:=by
 intro args ob rs os h hob
 unfold zwy at h
 split at h
 ·simp only[Option.bind_eq_some_iff,Option.some.injEq,Prod.mk.injEq] at h
  obtain⟨vals,e0,rfl,rfl,rfl⟩:=h
  obtain rfl:=z1i e0
  exact⟨z2t (M:=z5f) rfl (zf (l1:=[]) (l2:=[]) (l3:=[]) (l4:=[]) (l5:=[]) trivial trivial trivial trivial trivial) Tryz.func192 (by kernel_rfl) z5g 0 [.d] (fun hwf=>z1vp (z1sk vals (ze hwf (a:=.d (.v (.dat (U:=Un) Ty.int vals))) (List.mem_of_getElem? (i:=0) rfl)))),zb Tryz.func192 (by kernel_rfl) (by kernel_rfl)⟩
 ·simp at h
end
end Go.Proofs.YtjfpbchdcbhfgaaGreat.B
namespace Go.Proofs.YtjfpbchdcbhfgaaGreat.B
open Go Go.RowKit
set_option maxRecDepth 100000
noncomputable section
attribute [local irreducible] awp ctxK z12 z1o retQ z2i
def cmpV (a b:Val) : Int×Bool:=if a.kind=b.kind then (if a.kind=3 then (cmpS a.s b.s,true) else if a.kind=1∨a.kind=2 then (cmpI a.n b.n,true) else (0,false)) else (0,false)
def zcn : Mc Un:=mach (tbl [(193,z9w),(194,z6z),(192,zwy)]) (tbl []) (tbl []) (tbl []) (tbl [])
def zmk : Nat→NS:=fun l=>(look l []).getD ⟨[],[],[],[],[],false⟩
def zgf (r:Int) : List (A Un):=[.c (.s (.int .i64 r))]
def zgg (_r:Int) : List (Ob Un):=[]
theorem z1gi (a:Val) (b:Val) (K:List (A Un)→List (Ob Un)→Prop) :
  awp zcn zmk (z8 Tryz.f147) (zg Tryz.f147.ntmps 0 [.d (.agg (enc Ty.val a)),.d (.agg (enc Ty.val b))]) (retQ zcn Tryz.f147.results.toList [.d] K) =
(K (zgf (zie [z3m a.kind b.kind,z3m a.n b.n,strings_Compare a.s b.s])) (zgg (zie [z3m a.kind b.kind,z3m a.n b.n,strings_Compare a.s b.s]))):=by kernel_rfl
def zem (a:Val) (b:Val) : Option (Int) :=
 some (zie [z3m a.kind b.kind,z3m a.n b.n,strings_Compare a.s b.s])
theorem z1bl {a:Val} {b:Val} {r:Int} (h:zem a b=some r) : Runs (awp zcn zmk (z8 Tryz.f147) (zg Tryz.f147.ntmps 0 [.d (.agg (enc Ty.val a)),.d (.agg (enc Ty.val b))]) (retQ zcn Tryz.f147.results.toList [.d] fun rs os=>rs=zgf r∧os=zgg r)):=by
 constructor
 rw[z1gi a b (fun rs os=>rs=zgf r∧os=zgg r)]
 unfold zem at h
 cases h
 exact⟨rfl,rfl⟩
def z32 (a b:Val) : Int:=ordV a b
@[simp] theorem zu7 (a b:Val) : z32 a b=ordV a b:=by unfold z32;rfl
theorem z18w (a b:Val) (_ha:WS .val a) (_hb:WS .val b) : zem a b=some (z32 a b):=by
 unfold zem z32 ordV
 simp only[z1yu,zou,zid,orL,zqe]
 by_cases h1 : a.kind=b.kind
 ·by_cases h2 : a.n=b.n
  ·simp only[h1,h2,if_true];split
   ·rename_i h;rw[h]
   ·rfl
  ·simp [h1,h2]
 ·simp [h1]
def z73 : FnC Un:=fun args=>match args with
 | [x0,x1]=>(dS .val x0).bind fun a=>(dS .val x1).bind fun b=>some ([],zgf (z32 a b),zgg (z32 a b))
 | _=>none
theorem zju : FnOK 147 z73:=by
 intro args ob rs os h hob
 unfold z73 at h
 split at h
 ·simp only[Option.bind_eq_some_iff,Option.some.injEq,Prod.mk.injEq] at h
  obtain⟨a,e0,b,e1,rfl,rfl,rfl⟩:=h
  obtain rfl:=z18 e0
  obtain rfl:=z18 e1
  exact⟨z2t (M:=zcn) rfl (zf (l1:=[(193,z9w),(194,z6z),(192,zwy)]) (l2:=[]) (l3:=[]) (l4:=[]) (l5:=[]) ⟨zu6,zlx,z1yv,trivial⟩ trivial trivial trivial trivial) Tryz.func147 (by kernel_rfl) zmk 0 [.d] (fun hwf=>z1bl (z18w a b (ze hwf (a:=.d (.agg (enc Ty.val a))) (List.mem_of_getElem? (i:=0) rfl)) (ze hwf (a:=.d (.agg (enc Ty.val b))) (List.mem_of_getElem? (i:=1) rfl)))),zb Tryz.func147 (by kernel_rfl) (by kernel_rfl)⟩
 ·simp at h
def z2a : FV Un:=fun args=>match args with
 | [x0,x1]=>(dS .val (.d x0)).bind fun a=>(dS .val (.d x1)).bind fun b=>some ([],[.v (.s (.int .i64 (z32 a b)))])
 | _=>none
theorem zqk : FvOK 147 z2a:=by
 refine⟨zb Tryz.func147 (by kernel_rfl) (by kernel_rfl),fun args ob rs h hob=>?_⟩
 unfold z2a at h
 split at h
 ·simp only[Option.bind_eq_some_iff,Option.some.injEq,Prod.mk.injEq] at h
  obtain⟨a,e0,b,e1,rfl,rfl⟩:=h
  simp only[List.map_cons,List.map_nil]
  rw[z18 e0]
  rw[z18 e1]
  refine Contract.data (zju _ ([]) _ _ (?_ : z73 _=some _) (by simp)).1
  unfold z73
  simp only[zfq]
  rfl
 ·simp at h
theorem zox : z2a=z1c ordV:=by
 have : z32=ordV:=by funext a b;exact zu7 a b
 rw[← this];rfl
def zao : Mc Un:=mach (tbl [(194,z6z),(193,z9w)]) (tbl []) (tbl []) (tbl []) (tbl [])
def zif : Nat→NS:=fun l=>(look l []).getD ⟨[],[],[],[],[],false⟩
def z4o (r:Int×Bool) : List (A Un):=[.c (.s (.int .i64 r.1)),.c (.s (.bool r.2))]
def z4p (_r:Int×Bool) : List (Ob Un):=[]
theorem z18x (a:Val) (b:Val) (K:List (A Un)→List (Ob Un)→Prop) :
  awp zao zif (z8 Tryz.f152) (zg Tryz.f152.ntmps 0 [.d (.agg (enc Ty.val a)),.d (.agg (enc Ty.val b))]) (retQ zao Tryz.f152.results.toList [.d,.d] K) =
(cnd (a.kind != b.kind)
 (K (z4o ((0:Int),false)) (z4p ((0:Int),false)))
 (cnd (decide (a.kind<(1:Int)))
  (K (z4o ((0:Int),false)) (z4p ((0:Int),false)))
  (cnd (decide (a.kind > (3:Int)))
   (K (z4o ((0:Int),false)) (z4p ((0:Int),false)))
   (cnd (a.kind == (3:Int))
    (K (z4o (strings_Compare a.s b.s,true)) (z4p (strings_Compare a.s b.s,true)))
    (K (z4o (z3m a.n b.n,true)) (z4p (z3m a.n b.n,true))))))):=by kernel_rfl
def zcb (a:Val) (b:Val) : Option (Int×Bool) :=
  if (a.kind != b.kind)=true then
   some ((0:Int),false)
  else
   if (decide (a.kind<(1:Int)))=true then
    some ((0:Int),false)
   else
    if (decide (a.kind > (3:Int)))=true then
     some ((0:Int),false)
    else
     if (a.kind == (3:Int))=true then
      some (strings_Compare a.s b.s,true)
     else
      some (z3m a.n b.n,true)
theorem z14i {a:Val} {b:Val} {r:Int×Bool} (h:zcb a b=some r) : Runs (awp zao zif (z8 Tryz.f152) (zg Tryz.f152.ntmps 0 [.d (.agg (enc Ty.val a)),.d (.agg (enc Ty.val b))]) (retQ zao Tryz.f152.results.toList [.d,.d] fun rs os=>rs=z4o r∧os=z4p r)):=by
 constructor
 rw[z18x a b (fun rs os=>rs=z4o r∧os=z4p r)]
 unfold zcb at h
 rcases z15 h with ⟨c1,h2⟩ | ⟨c1,h2⟩
 ·cases h2
  exact (z1j c1 ⟨rfl,rfl⟩)
 ·rcases z15 h2 with ⟨c3,h4⟩ | ⟨c3,h4⟩
  ·cases h4
   exact (zr (zk c1) (z1j c3 ⟨rfl,rfl⟩))
  ·rcases z15 h4 with ⟨c5,h6⟩ | ⟨c5,h6⟩
   ·cases h6
    exact (zr (zk c1) (zr (zk c3) (z1j c5 ⟨rfl,rfl⟩)))
   ·rcases z15 h6 with ⟨c7,h8⟩ | ⟨c7,h8⟩
    ·cases h8
     exact (zr (zk c1) (zr (zk c3) (zr (zk c5) (z1j c7 ⟨rfl,rfl⟩))))
    ·cases h8
     exact (zr (zk c1) (zr (zk c3) (zr (zk c5) (zr (zk c7) ⟨rfl,rfl⟩))))
def z1u (a b:Val) : Int×Bool:=cmpV a b
@[simp] theorem z18y (a b:Val) : z1u a b=cmpV a b:=by unfold z1u;rfl
theorem z10y (a b:Val) (_ha:WS .val a) (_hb:WS .val b) : zcb a b=some (z1u a b):=by
 unfold zcb z1u cmpV
 simp only[bne_iff_ne,ne_eq,ite_not,beq_iff_eq,decide_eq_true_eq,zou,zid]
 by_cases h1 : a.kind=b.kind
 ·simp only[h1,if_true]
  by_cases h3 : b.kind=3
  ·simp [h3]
  ·by_cases h4 : b.kind<1
   ·have : ¬ (b.kind=1∨b.kind=2):=by omega
    simp [h3,h4,this]
   ·by_cases h5 : b.kind > 3
    ·have : ¬ (b.kind=1∨b.kind=2):=by omega
     simp [h3,h4,h5,this]
    ·have : b.kind=1∨b.kind=2:=by omega
     simp [h3,h4,h5,this]
 ·simp [h1]
def z5i : FnC Un:=fun args=>match args with
 | [x0,x1]=>(dS .val x0).bind fun a=>(dS .val x1).bind fun b=>some ([],z4o (z1u a b),z4p (z1u a b))
 | _=>none
theorem zh5 : FnOK 152 z5i:=by
 intro args ob rs os h hob
 unfold z5i at h
 split at h
 ·simp only[Option.bind_eq_some_iff,Option.some.injEq,Prod.mk.injEq] at h
  obtain⟨a,e0,b,e1,rfl,rfl,rfl⟩:=h
  obtain rfl:=z18 e0
  obtain rfl:=z18 e1
  exact⟨z2t (M:=zao) rfl (zf (l1:=[(194,z6z),(193,z9w)]) (l2:=[]) (l3:=[]) (l4:=[]) (l5:=[]) ⟨zlx,zu6,trivial⟩ trivial trivial trivial trivial) Tryz.func152 (by kernel_rfl) zif 0 [.d,.d] (fun hwf=>z14i (z10y a b (ze hwf (a:=.d (.agg (enc Ty.val a))) (List.mem_of_getElem? (i:=0) rfl)) (ze hwf (a:=.d (.agg (enc Ty.val b))) (List.mem_of_getElem? (i:=1) rfl)))),zb Tryz.func152 (by kernel_rfl) (by kernel_rfl)⟩
 ·simp at h
end
end Go.Proofs.YtjfpbchdcbhfgaaGreat.B
namespace Go.Proofs.YtjfpbchdcbhfgaaGreat.B
open Go Go.RowKit
set_option maxRecDepth 100000
noncomputable section
attribute [local irreducible] awp ctxK z12 z1o retQ z2i awf ctxF zt
def zu8 : Mc Un:=mach (tbl []) (tbl []) (tbl []) (tbl []) (tbl [])
def z1yw (r:Int) : List (A Un):=[.c (.s (.int .i64 r))]
def z1yx (_r:Int) : List (Ob Un):=[]
def z10z (r:Int) : RF Un:=(z1yw r,z1yx r)
def zu9 : Nat→NS:=fun l=>(look l [(2,{ ts:=bl 39 14407,bs:=bl 39 0,nm:=[] })]).getD ⟨[],[],[],[],[],false⟩
def z9x (s1:List Val) (s2:List Val) (p:Val→Val→Int) (v0:Int) : S Un:=(st 39 39 156 0 [(0,al .val s1),(1,al .val s2),(2,AV.one (A.c (C.fv (z1c p)))),(6,ai (0:Int)),(11,al .val s1),(12,ai (↑s1.length:Int)),(13,ai v0)] [] [])
def zfx (s1:List Val) (s2:List Val) (p:Val→Val→Int) (v0:Int) (v1:Int) : S Un:=(st 39 39 156 0 [(0,al .val s1),(1,al .val s2),(2,AV.one (A.c (C.fv (z1c p)))),(6,ai v1),(11,al .val s1),(12,ai (↑s1.length:Int)),(13,ai v0)] [] [])
noncomputable def z1ub : Code:=sub (z8 Tryz.f195) [1,0,1,2,2]
def zen : S Un→Option (EX Un):=zt (zu9 2) (fun s Q=>awf zu8 zu9 z1ub s Q)
def z146 : Exit→S Un→Option (RF Un):=ctxF zu8 zu9 (z8 Tryz.f195) [1,0,1,2] (retF zu8 Tryz.f195.results.toList [.d])
def z1uc (s1:List Val) (s2:List Val) (p:Val→Val→Int) : Option (RF Un):=awf zu8 zu9 (z8 Tryz.f195) (zg Tryz.f195.ntmps 0 [.d (.v (.dat (U:=Un) Ty.val s1)),.d (.v (.dat (U:=Un) Ty.val s2)),.fn (z1c p)]) (retF zu8 Tryz.f195.results.toList [.d])
theorem z23e (s1:List Val) (s2:List Val) (p:Val→Val→Int) : z1uc s1 s2 p=(zen (z9x s1 s2 p (0:Int))).bind (zx z146):=by kernel_rfl
theorem z147 (s1:List Val) (s2:List Val) (p:Val→Val→Int) (v0:Int) : zen (z9x s1 s2 p v0)=cndO (decide (v0<(↑s1.length:Int))) (obO (0≤v0∧v0<(↑s1.length:Int)) (cndO (decide (v0≥(↑s2.length:Int))) (some (.ret,(zfx s1 s2 p v0 (1:Int)))) (obO (0≤v0∧v0<(↑s2.length:Int)) (cndO (p (s1.getD v0.toNat z7) (s2.getD v0.toNat z7) != 0) (some (.ret,(zfx s1 s2 p v0 (p (s1.getD v0.toNat z7) (s2.getD v0.toNat z7))))) (zen (z9x s1 s2 p (IntKind.i64.wrap (v0+1)))))))) (some (.exit 0,(z9x s1 s2 p v0))):=(z11 (zu9 2) z1ub _).trans (by kernel_rfl)
theorem z15o (s1:List Val) (s2:List Val) (p:Val→Val→Int) (v0:Int) (v1:Int) : z146 .ret (zfx s1 s2 p v0 v1)=some (z10z (v1)):=by kernel_rfl
theorem z1vq (s1:List Val) (s2:List Val) (p:Val→Val→Int) (v0:Int) : z146 (.exit 0) (z9x s1 s2 p v0)=cndO (decide ((↑s1.length:Int)<(↑s2.length:Int))) (some (z10z ((-1:Int)))) (some (z10z ((0:Int)))):=by kernel_rfl
def zwz (p:Val→Val→Int) : List Val→List Val→Int
 | [],[]=>0
 | [],_::_=>-1
 | _::_,[]=>1
 | a::l,b::r=>if p a b=0 then zwz p l r else p a b
def cmpR (s1 s2:List Val) (p:Val→Val→Int) : Int:=zwz p s1 s2
theorem z21l (s1 s2:List Val) (p:Val→Val→Int) (h1:WL .val s1) (h2:WL .val s2) : ∀ (ra rb:List Val) (i:Nat),s1.drop i=ra→s2.drop i=rb→i≤s1.length→i≤s2.length →
    (zen (z9x s1 s2 p (i:Int))).bind (zx z146)=some (z10z (zwz p ra rb)):=by
  have l1:=h1.len
  intro ra
  induction ra with
  | nil =>
    intro rb i e1 e2 i1 i2
    have n1 : s1.length = i := by have : s1.length ≤ i := List.drop_eq_nil_iff.1 e1
                                  omega
    have hL:zen (z9x s1 s2 p (i:Int))=some (.exit 0,z9x s1 s2 p (i:Int)):=by
      rw[z147,za,if_neg (by rw[decide_eq_true_eq];omega)]
    rw[zn hL,z1vq,za]
    cases rb with
    | nil =>
      have : s2.length≤i:=List.drop_eq_nil_iff.1 e2
      rw[if_neg (by rw[decide_eq_true_eq];omega)];rfl
    | cons y rb =>
      have hlt:i<s2.length:=by
        rcases Nat.lt_or_ge i s2.length with h | h
        · exact h
        · rw[List.drop_eq_nil_of_le h] at e2;simp at e2
      rw[if_pos (by rw[decide_eq_true_eq];omega)];rfl
  | cons x ra ih =>
    intro rb i e1 e2 i1 i2
    obtain⟨a1,a2,a3,_⟩:=z31 e1
    cases rb with
    | nil =>
      have n2:s2.length≤i:=List.drop_eq_nil_iff.1 e2
      have hL:zen (z9x s1 s2 p (i:Int))=some (.ret,zfx s1 s2 p (i:Int) 1):=by
        rw[z147,za,if_pos (by rw[decide_eq_true_eq];omega),z6 (by omega),za,if_pos (by rw[decide_eq_true_eq];omega)]
      rw[zn hL,z15o];rfl
    | cons y rb =>
      obtain⟨b1,b2,b3,_⟩:=z31 e2
      by_cases hxy : p x y=0
      · have hL:zen (z9x s1 s2 p (i:Int))=zen (z9x s1 s2 p ((i+1:Nat):Int)):=by
          rw[z147,za,if_pos (by rw[decide_eq_true_eq];omega),z6 (by omega),za,if_neg (by rw[decide_eq_true_eq];omega),z6 (by omega),Int.toNat_natCast,a2,b2,za,if_neg (by simp [hxy]),z2n (by omega)]
          rfl
        rw[hL,ih rb (i+1) a3 b3 (by omega) (by omega)]
        simp only[zwz,if_pos hxy]
      · have hL:zen (z9x s1 s2 p (i:Int))=some (.ret,zfx s1 s2 p (i:Int) (p x y)):=by
          rw[z147,za,if_pos (by rw[decide_eq_true_eq];omega),z6 (by omega),za,if_neg (by rw[decide_eq_true_eq];omega),z6 (by omega),Int.toNat_natCast,a2,b2,za,if_pos (by simpa using hxy)]
        rw[zn hL,z15o]
        simp only[zwz,if_neg hxy]
theorem z1yy (s1 s2:List Val) (p:Val→Val→Int) (h1:WL .val s1) (h2:WL .val s2) : z1uc s1 s2 p=some (z10z (cmpR s1 s2 p)):=by
 rw[z23e]
 exact z21l s1 s2 p h1 h2 s1 s2 0 rfl rfl (Nat.zero_le _) (Nat.zero_le _)
def z1bm : FnC Un:=fun args=>match args with
 | [x0,x1,x2]=>(dL .val x0).bind fun s1=>(dL .val x1).bind fun s2=>(dF x2).bind fun p=>some ([p=(z1c (zj p))],z1yw (cmpR s1 s2 (zj p)),z1yx (cmpR s1 s2 (zj p)))
 | _=>none
theorem z23f : FnOK 195 z1bm:=by
 intro args ob rs os h hob
 unfold z1bm at h
 split at h
 ·simp only[Option.bind_eq_some_iff,Option.some.injEq,Prod.mk.injEq] at h
  obtain⟨s1,e0,s2,e1,p,e2,rfl,rfl,rfl⟩:=h
  obtain rfl:=z1i e0
  obtain rfl:=z1i e1
  obtain rfl:=zki e2
  have hfv0:=hob _ (List.mem_of_getElem? (i:=0) rfl)
  generalize zj p=pp0 at *
  subst hfv0
  exact⟨zd (M:=zu8) rfl (zf (l1:=[]) (l2:=[]) (l3:=[]) (l4:=[]) (l5:=[]) trivial trivial trivial trivial trivial) Tryz.func195 (by kernel_rfl) zu9 0 [.d] (fun hwf=>(z1yy s1 s2 pp0 (ze hwf (a:=.d (.v (.dat (U:=Un) Ty.val s1))) (List.mem_of_getElem? (i:=0) rfl)) (ze hwf (a:=.d (.v (.dat (U:=Un) Ty.val s2))) (List.mem_of_getElem? (i:=1) rfl)))),zb Tryz.func195 (by kernel_rfl) (by kernel_rfl)⟩
 ·simp at h
def zjv : Mc Un:=mach (tbl [(195,z1bm)]) (tbl [(147,z2a)]) (tbl []) (tbl []) (tbl [])
def zua (r:Int) : List (A Un):=[.c (.s (.int .i64 r))]
def zub (_r:Int) : List (Ob Un):=[]
def zuc (r:Int) : RF Un:=(zua r,zub r)
def zud : Nat→NS:=fun l=>(look l []).getD ⟨[],[],[],[],[],false⟩
def zql (a:List Val) (b:List Val) : Option (RF Un):=awf zjv zud (z8 Tryz.f149) (zg Tryz.f149.ntmps 0 [.d (.v (.dat (U:=Un) Ty.val a)),.d (.v (.dat (U:=Un) Ty.val b))]) (retF zjv Tryz.f149.results.toList [.d])
theorem z1bn (a:List Val) (b:List Val) : zql a b=obO (z2a=z1c (zj z2a)) (some (zuc (cmpR a b (zj z2a)))):=by kernel_rfl
def z3v (a b:List Val) : Int:=ordR a b
theorem z1jj : ∀ a b : List Val,zwz ordV a b=ordR a b
 | [],[]=>rfl
 | [],_::_=>rfl
 | _::_,[]=>rfl
 | a::l,b::r=>by simp only[zwz,ordR,z1jj l r]
theorem z14j (a b:List Val) (_ha:WL .val a) (_hb:WL .val b) : zql a b=some (zuc (z3v a b)):=by
 have e:zj (z1c ordV)=ordV:=zdw ordV
 rw[z1bn,zox,e,z6 rfl]
 unfold cmpR z3v
 rw[z1jj]
def z66 : FnC Un:=fun args=>match args with
 | [x0,x1]=>(dL .val x0).bind fun a=>(dL .val x1).bind fun b=>some ([],zua (z3v a b),zub (z3v a b))
 | _=>none
theorem zig : FnOK 149 z66:=by
 intro args ob rs os h hob
 unfold z66 at h
 split at h
 ·simp only[Option.bind_eq_some_iff,Option.some.injEq,Prod.mk.injEq] at h
  obtain⟨a,e0,b,e1,rfl,rfl,rfl⟩:=h
  obtain rfl:=z1i e0
  obtain rfl:=z1i e1
  exact⟨zd (M:=zjv) rfl (zf (l1:=[(195,z1bm)]) (l2:=[(147,z2a)]) (l3:=[]) (l4:=[]) (l5:=[]) ⟨z23f,trivial⟩ ⟨zqk,trivial⟩ trivial trivial trivial) Tryz.func149 (by kernel_rfl) zud 0 [.d] (fun hwf=>(z14j a b (ze hwf (a:=.d (.v (.dat (U:=Un) Ty.val a))) (List.mem_of_getElem? (i:=0) rfl)) (ze hwf (a:=.d (.v (.dat (U:=Un) Ty.val b))) (List.mem_of_getElem? (i:=1) rfl)))),zb Tryz.func149 (by kernel_rfl) (by kernel_rfl)⟩
 ·simp at h
end
end Go.Proofs.YtjfpbchdcbhfgaaGreat.B
namespace Go.Proofs.YtjfpbchdcbhfgaaGreat.B
open Go Go.RowKit
set_option maxRecDepth 100000
noncomputable section
attribute [local irreducible] awp ctxK z12 z1o retQ z2i awf ctxF zt
def zx0 : Mc Un:=mach (tbl [(211,z3u)]) (tbl []) (tbl []) (tbl []) (tbl [])
def z1bo (r:Int×Bool) : List (A Un):=[.c (.s (.int .i64 r.1)),.c (.s (.bool r.2))]
def z1bp (_r:Int×Bool) : List (Ob Un):=[]
def zih (r:Int×Bool) : RF Un:=(z1bo r,z1bp r)
def z1bq : Nat→NS:=fun l=>(look l []).getD ⟨[],[],[],[],[],false⟩
def z15p (a:Int) (b:Int) (n:Int) : Option (RF Un):=awf zx0 z1bq (z8 Tryz.f233) (zg Tryz.f233.ntmps 0 [.d (.v (.s (.int .i64 a))),.d (.v (.s (.int .i64 b))),.d (.v (.s (.int .i64 n)))]) (retF zx0 Tryz.f233.results.toList [.d,.d])
theorem z1sl (a:Int) (b:Int) (n:Int) : z15p a b n=cndO (!z1v a) (some (zih ((0:Int),false))) (cndO (!z1v b) (some (zih ((0:Int),false))) (cndO (!z1v n) (some (zih ((0:Int),false))) (some (zih (n,true))))):=by kernel_rfl
def z3n (a:Int) (b:Int) (n:Int) : Int×Bool :=
  if (!z1v a)=true then
   ((0:Int),false)
  else
   if (!z1v b)=true then
    ((0:Int),false)
   else
    if (!z1v n)=true then
     ((0:Int),false)
    else
     (n,true)
theorem z1sm (a:Int) (b:Int) (n:Int) : z15p a b n=some (zih (z3n a b n)):=by rw[z1sl];unfold z3n;simp only[za];repeat (first | rfl | split)
def z5z : FnC Un:=fun args=>match args with
 | [x0,x1,x2]=>(dI .i64 x0).bind fun a=>(dI .i64 x1).bind fun b=>(dI .i64 x2).bind fun n=>some ([],z1bo (z3n a b n),z1bp (z3n a b n))
 | _=>none
theorem zfy : FnOK 233 z5z:=by
 intro args ob rs os h hob
 unfold z5z at h
 split at h
 ·simp only[Option.bind_eq_some_iff,Option.some.injEq,Prod.mk.injEq] at h
  obtain⟨a,e0,b,e1,n,e2,rfl,rfl,rfl⟩:=h
  obtain rfl:=z1t e0
  obtain rfl:=z1t e1
  obtain rfl:=z1t e2
  exact⟨zd (M:=zx0) rfl (zf (l1:=[(211,z3u)]) (l2:=[]) (l3:=[]) (l4:=[]) (l5:=[]) ⟨zal,trivial⟩ trivial trivial trivial trivial) Tryz.func233 (by kernel_rfl) z1bq 0 [.d,.d] (fun hwf=>(z1sm a b n)),zb Tryz.func233 (by kernel_rfl) (by kernel_rfl)⟩
 ·simp at h
def z110 : Mc Un:=mach (tbl [(211,z3u),(233,z5z)]) (tbl []) (tbl []) (tbl []) (tbl [])
def z1jk (r:Int×Bool) : List (A Un):=[.c (.s (.int .i64 r.1)),.c (.s (.bool r.2))]
def z1jl (_r:Int×Bool) : List (Ob Un):=[]
def zqm (r:Int×Bool) : RF Un:=(z1jk r,z1jl r)
def z1jm : Nat→NS:=fun l=>(look l []).getD ⟨[],[],[],[],[],false⟩
def z1br (a:Int) (b:Int) : Option (RF Un):=awf z110 z1jm (z8 Tryz.f202) (zg Tryz.f202.ntmps 0 [.d (.v (.s (.int .i64 a))),.d (.v (.s (.int .i64 b)))]) (retF z110 Tryz.f202.results.toList [.d,.d])
theorem z1vr (a:Int) (b:Int) : z1br a b=cndO (!z1v a) (some (zqm ((0:Int),false))) (cndO (!z1v b) (some (zqm ((0:Int),false))) (some (zqm ((z3n a b (IntKind.i64.wrap (a+b))).fst,(z3n a b (IntKind.i64.wrap (a+b))).snd)))):=by kernel_rfl
def zo6 (a:Int) (b:Int) : Int×Bool :=
  if (!z1v a)=true then
   ((0:Int),false)
  else
   if (!z1v b)=true then
    ((0:Int),false)
   else
    ((z3n a b (IntKind.i64.wrap (a+b))).fst,(z3n a b (IntKind.i64.wrap (a+b))).snd)
theorem z1vs (a:Int) (b:Int) : z1br a b=some (zqm (zo6 a b)):=by rw[z1vr];unfold zo6;simp only[za];repeat (first | rfl | split)
def z1jn : FnC Un:=fun args=>match args with
 | [x0,x1]=>(dI .i64 x0).bind fun a=>(dI .i64 x1).bind fun b=>some ([],z1jk (zo6 a b),z1jl (zo6 a b))
 | _=>none
theorem z1vt : FnOK 202 z1jn:=by
 intro args ob rs os h hob
 unfold z1jn at h
 split at h
 ·simp only[Option.bind_eq_some_iff,Option.some.injEq,Prod.mk.injEq] at h
  obtain⟨a,e0,b,e1,rfl,rfl,rfl⟩:=h
  obtain rfl:=z1t e0
  obtain rfl:=z1t e1
  exact⟨zd (M:=z110) rfl (zf (l1:=[(211,z3u),(233,z5z)]) (l2:=[]) (l3:=[]) (l4:=[]) (l5:=[]) ⟨zal,zfy,trivial⟩ trivial trivial trivial trivial) Tryz.func202 (by kernel_rfl) z1jm 0 [.d,.d] (fun hwf=>(z1vs a b)),zb Tryz.func202 (by kernel_rfl) (by kernel_rfl)⟩
 ·simp at h
def z111 : Mc Un:=mach (tbl [(211,z3u),(233,z5z)]) (tbl []) (tbl []) (tbl []) (tbl [])
def z1jo (r:Int×Bool) : List (A Un):=[.c (.s (.int .i64 r.1)),.c (.s (.bool r.2))]
def z1jp (_r:Int×Bool) : List (Ob Un):=[]
def zqn (r:Int×Bool) : RF Un:=(z1jo r,z1jp r)
def z1jq : Nat→NS:=fun l=>(look l []).getD ⟨[],[],[],[],[],false⟩
def z1bs (a:Int) (b:Int) : Option (RF Un):=awf z111 z1jq (z8 Tryz.f201) (zg Tryz.f201.ntmps 0 [.d (.v (.s (.int .i64 a))),.d (.v (.s (.int .i64 b)))]) (retF z111 Tryz.f201.results.toList [.d,.d])
theorem z1vu (a:Int) (b:Int) : z1bs a b=cndO (!z1v a) (some (zqn ((0:Int),false))) (cndO (!z1v b) (some (zqn ((0:Int),false))) (some (zqn ((z3n a b (IntKind.i64.wrap (a - b))).fst,(z3n a b (IntKind.i64.wrap (a - b))).snd)))):=by kernel_rfl
def zct (a:Int) (b:Int) : Int×Bool :=
  if (!z1v a)=true then
   ((0:Int),false)
  else
   if (!z1v b)=true then
    ((0:Int),false)
   else
    ((z3n a b (IntKind.i64.wrap (a - b))).fst,(z3n a b (IntKind.i64.wrap (a - b))).snd)
theorem z1vv (a:Int) (b:Int) : z1bs a b=some (zqn (zct a b)):=by rw[z1vu];unfold zct;simp only[za];repeat (first | rfl | split)
def zqo : FnC Un:=fun args=>match args with
 | [x0,x1]=>(dI .i64 x0).bind fun a=>(dI .i64 x1).bind fun b=>some ([],z1jo (zct a b),z1jp (zct a b))
 | _=>none
theorem z1bt : FnOK 201 zqo:=by
 intro args ob rs os h hob
 unfold zqo at h
 split at h
 ·simp only[Option.bind_eq_some_iff,Option.some.injEq,Prod.mk.injEq] at h
  obtain⟨a,e0,b,e1,rfl,rfl,rfl⟩:=h
  obtain rfl:=z1t e0
  obtain rfl:=z1t e1
  exact⟨zd (M:=z111) rfl (zf (l1:=[(211,z3u),(233,z5z)]) (l2:=[]) (l3:=[]) (l4:=[]) (l5:=[]) ⟨zal,zfy,trivial⟩ trivial trivial trivial trivial) Tryz.func201 (by kernel_rfl) z1jq 0 [.d,.d] (fun hwf=>(z1vv a b)),zb Tryz.func201 (by kernel_rfl) (by kernel_rfl)⟩
 ·simp at h
def z112 : Mc Un:=mach (tbl [(201,zqo)]) (tbl []) (tbl []) (tbl []) (tbl [])
def z1jr (r:Int×Bool) : List (A Un):=[.c (.s (.int .i64 r.1)),.c (.s (.bool r.2))]
def z1js (_r:Int×Bool) : List (Ob Un):=[]
def z1jt (r:Int×Bool) : RF Un:=(z1jr r,z1js r)
def z1ju : Nat→NS:=fun l=>(look l []).getD ⟨[],[],[],[],[],false⟩
def z1bu (a:Int) : Option (RF Un):=awf z112 z1ju (z8 Tryz.f159) (zg Tryz.f159.ntmps 0 [.d (.v (.s (.int .i64 a)))]) (retF z112 Tryz.f159.results.toList [.d,.d])
theorem z1vw (a:Int) : z1bu a=some (z1jt ((zct (0:Int) a).fst,(zct (0:Int) a).snd)):=by kernel_rfl
def z9y (a:Int) : Int×Bool :=
 ((zct (0:Int) a).fst,(zct (0:Int) a).snd)
theorem z1vx (a:Int) : z1bu a=some (z1jt (z9y a)):=by rw[z1vw];unfold z9y;simp only[za];repeat (first | rfl | split)
def zhm : FnC Un:=fun args=>match args with
 | [x0]=>(dI .i64 x0).bind fun a=>some ([],z1jr (z9y a),z1js (z9y a))
 | _=>none
theorem z1bv : FnOK 159 zhm:=by
 intro args ob rs os h hob
 unfold zhm at h
 split at h
 ·simp only[Option.bind_eq_some_iff,Option.some.injEq,Prod.mk.injEq] at h
  obtain⟨a,e0,rfl,rfl,rfl⟩:=h
  obtain rfl:=z1t e0
  exact⟨zd (M:=z112) rfl (zf (l1:=[(201,zqo)]) (l2:=[]) (l3:=[]) (l4:=[]) (l5:=[]) ⟨z1bt,trivial⟩ trivial trivial trivial trivial) Tryz.func159 (by kernel_rfl) z1ju 0 [.d,.d] (fun hwf=>(z1vx a)),zb Tryz.func159 (by kernel_rfl) (by kernel_rfl)⟩
 ·simp at h
def z113 : Mc Un:=mach (tbl [(211,z3u),(233,z5z)]) (tbl []) (tbl []) (tbl []) (tbl [])
def z1jv (r:Int×Bool) : List (A Un):=[.c (.s (.int .i64 r.1)),.c (.s (.bool r.2))]
def z1jw (_r:Int×Bool) : List (Ob Un):=[]
def zdz (r:Int×Bool) : RF Un:=(z1jv r,z1jw r)
def z1jx : Nat→NS:=fun l=>(look l []).getD ⟨[],[],[],[],[],false⟩
def z1bw (a:Int) (b:Int) : Option (RF Un):=awf z113 z1jx (z8 Tryz.f203) (zg Tryz.f203.ntmps 0 [.d (.v (.s (.int .i64 a))),.d (.v (.s (.int .i64 b)))]) (retF z113 Tryz.f203.results.toList [.d,.d])
theorem z1vy (a:Int) (b:Int) : z1bw a b=cndO (!z1v a) (some (zdz ((0:Int),false))) (cndO (!z1v b) (some (zdz ((0:Int),false))) (cndO (a == 0) (some (zdz ((0:Int),true))) (cndO (b == 0) (some (zdz ((0:Int),true))) (obO (¬List.foldl (fun a b=>if a<b then b else a) b [IntKind.i64.wrap ((0:Int) - b)]=0) (cndO (decide (List.foldl (fun a b=>if a<b then b else a) a [IntKind.i64.wrap ((0:Int) - a)] > IntKind.i64.wrap (Int.tdiv (1000000000000000:Int) (List.foldl (fun a b=>if a<b then b else a) b [IntKind.i64.wrap ((0:Int) - b)])))) (some (zdz ((0:Int),false))) (some (zdz ((z3n a b (IntKind.i64.wrap (a*b))).fst,(z3n a b (IntKind.i64.wrap (a*b))).snd)))))))):=by kernel_rfl
def mxI (a:Int) : Int:=List.foldl (fun a b=>if a<b then b else a) a [IntKind.i64.wrap ((0:Int) - a)]
def zo7 (a b:Int) : Int×Bool :=
 if z1v a=true then (if z1v b=true then (if a=0 then (0,true) else if b=0 then (0,true) else if mxI a > IntKind.i64.wrap (Int.tdiv 1000000000000000 (mxI b)) then (0,false) else z3n a b (IntKind.i64.wrap (a*b))) else (0,false)) else (0,false)
theorem z23g (n:Int) : inN n=true↔-1000000000000000≤n∧n≤1000000000000000:=by unfold inN;exact decide_eq_true_iff
theorem z1ov (a b:Int) (_ha:WI a) (_hb:WI b) : z1bw a b=some (zdz (zo7 a b)):=by
 rw[z1vy]
 unfold zo7
 simp only[za,Bool.not_eq_true',beq_iff_eq,decide_eq_true_eq]
 by_cases h1 : z1v a=true
 ·by_cases h2 : z1v b=true
  ·rw[if_neg (by rw[h1];decide),if_neg (by rw[h2];decide),if_pos h1,if_pos h2]
   by_cases h3 : a=0
   ·rw[if_pos h3,if_pos h3]
   ·by_cases h4 : b=0
    ·rw[if_neg h3,if_pos h4,if_neg h3,if_pos h4]
    ·have hb:=h2
     rw[zsl,z23g] at hb
     have hm:mxI b≠0:=by
      unfold mxI
      simp only[List.foldl_cons,List.foldl_nil]
      rw[z2n (by omega)]
      split<;>omega
     rw[if_neg h3,if_neg h4,if_neg h3,if_neg h4]
     refine (z6 hm).trans ?_
     show (if mxI a > IntKind.i64.wrap (Int.tdiv 1000000000000000 (mxI b)) then _ else _)=_
     by_cases h5 : mxI a > IntKind.i64.wrap (Int.tdiv 1000000000000000 (mxI b))
     ·rw[if_pos h5,if_pos h5]
     ·rw[if_neg h5,if_neg h5]
  ·rw[if_neg (by rw[h1];decide),if_pos (by simpa using h2),if_pos h1,if_neg h2]
 ·rw[if_pos (by simpa using h1),if_neg h1]
def z1jy : FnC Un:=fun args=>match args with
 | [x0,x1]=>(dI .i64 x0).bind fun a=>(dI .i64 x1).bind fun b=>some ([],z1jv (zo7 a b),z1jw (zo7 a b))
 | _=>none
theorem z1vz : FnOK 203 z1jy:=by
 intro args ob rs os h hob
 unfold z1jy at h
 split at h
 ·simp only[Option.bind_eq_some_iff,Option.some.injEq,Prod.mk.injEq] at h
  obtain⟨a,e0,b,e1,rfl,rfl,rfl⟩:=h
  obtain rfl:=z1t e0
  obtain rfl:=z1t e1
  exact⟨zd (M:=z113) rfl (zf (l1:=[(211,z3u),(233,z5z)]) (l2:=[]) (l3:=[]) (l4:=[]) (l5:=[]) ⟨zal,zfy,trivial⟩ trivial trivial trivial trivial) Tryz.func203 (by kernel_rfl) z1jx 0 [.d,.d] (fun hwf=>(z1ov a b (ze hwf (a:=.d (.v (.s (.int .i64 a)))) (List.mem_of_getElem? (i:=0) rfl)) (ze hwf (a:=.d (.v (.s (.int .i64 b)))) (List.mem_of_getElem? (i:=1) rfl)))),zb Tryz.func203 (by kernel_rfl) (by kernel_rfl)⟩
 ·simp at h
def z114 : Mc Un:=mach (tbl [(211,z3u),(233,z5z)]) (tbl []) (tbl []) (tbl []) (tbl [])
def z1jz (r:Int×Bool) : List (A Un):=[.c (.s (.int .i64 r.1)),.c (.s (.bool r.2))]
def z1k0 (_r:Int×Bool) : List (Ob Un):=[]
def zly (r:Int×Bool) : RF Un:=(z1jz r,z1k0 r)
def z1k1 : Nat→NS:=fun l=>(look l []).getD ⟨[],[],[],[],[],false⟩
def z1bx (a:Int) (b:Int) : Option (RF Un):=awf z114 z1k1 (z8 Tryz.f204) (zg Tryz.f204.ntmps 0 [.d (.v (.s (.int .i64 a))),.d (.v (.s (.int .i64 b)))]) (retF z114 Tryz.f204.results.toList [.d,.d])
theorem z1w0 (a:Int) (b:Int) : z1bx a b=cndO (!z1v a) (some (zly ((0:Int),false))) (cndO (!z1v b) (some (zly ((0:Int),false))) (cndO (b == 0) (some (zly ((0:Int),false))) (obO (¬b=0) (some (zly ((z3n a b (IntKind.i64.wrap (a.tdiv b))).fst,(z3n a b (IntKind.i64.wrap (a.tdiv b))).snd)))))):=by kernel_rfl
def zo8 (a b:Int) : Int×Bool :=
 if z1v a=true then (if z1v b=true then (if b=0 then (0,false) else z3n a b (IntKind.i64.wrap (a.tdiv b))) else (0,false)) else (0,false)
theorem z1ow (a b:Int) (_ha:WI a) (_hb:WI b) : z1bx a b=some (zly (zo8 a b)):=by
 rw[z1w0]
 unfold zo8
 simp only[za,Bool.not_eq_true',beq_iff_eq]
 by_cases h1 : z1v a=true
 ·by_cases h2 : z1v b=true
  ·by_cases h3 : b=0
   ·rw[if_neg (by rw[h1];decide),if_neg (by rw[h2];decide),if_pos h3,if_pos h1,if_pos h2,if_pos h3]
   ·rw[if_neg (by rw[h1];decide),if_neg (by rw[h2];decide),if_neg h3,if_pos h1,if_pos h2,if_neg h3,z6 h3]
  ·rw[if_neg (by rw[h1];decide),if_pos (by simpa using h2),if_pos h1,if_neg h2]
 ·rw[if_pos (by simpa using h1),if_neg h1]
def z1k2 : FnC Un:=fun args=>match args with
 | [x0,x1]=>(dI .i64 x0).bind fun a=>(dI .i64 x1).bind fun b=>some ([],z1jz (zo8 a b),z1k0 (zo8 a b))
 | _=>none
theorem z1w1 : FnOK 204 z1k2:=by
 intro args ob rs os h hob
 unfold z1k2 at h
 split at h
 ·simp only[Option.bind_eq_some_iff,Option.some.injEq,Prod.mk.injEq] at h
  obtain⟨a,e0,b,e1,rfl,rfl,rfl⟩:=h
  obtain rfl:=z1t e0
  obtain rfl:=z1t e1
  exact⟨zd (M:=z114) rfl (zf (l1:=[(211,z3u),(233,z5z)]) (l2:=[]) (l3:=[]) (l4:=[]) (l5:=[]) ⟨zal,zfy,trivial⟩ trivial trivial trivial trivial) Tryz.func204 (by kernel_rfl) z1k1 0 [.d,.d] (fun hwf=>(z1ow a b (ze hwf (a:=.d (.v (.s (.int .i64 a)))) (List.mem_of_getElem? (i:=0) rfl)) (ze hwf (a:=.d (.v (.s (.int .i64 b)))) (List.mem_of_getElem? (i:=1) rfl)))),zb Tryz.func204 (by kernel_rfl) (by kernel_rfl)⟩
 ·simp at h
def z115 : Mc Un:=mach (tbl [(211,z3u),(233,z5z)]) (tbl []) (tbl []) (tbl []) (tbl [])
def z1k3 (r:Int×Bool) : List (A Un):=[.c (.s (.int .i64 r.1)),.c (.s (.bool r.2))]
def z1k4 (_r:Int×Bool) : List (Ob Un):=[]
def zlz (r:Int×Bool) : RF Un:=(z1k3 r,z1k4 r)
def z1k5 : Nat→NS:=fun l=>(look l []).getD ⟨[],[],[],[],[],false⟩
def z1by (a:Int) (b:Int) : Option (RF Un):=awf z115 z1k5 (z8 Tryz.f205) (zg Tryz.f205.ntmps 0 [.d (.v (.s (.int .i64 a))),.d (.v (.s (.int .i64 b)))]) (retF z115 Tryz.f205.results.toList [.d,.d])
theorem z1w2 (a:Int) (b:Int) : z1by a b=cndO (!z1v a) (some (zlz ((0:Int),false))) (cndO (!z1v b) (some (zlz ((0:Int),false))) (cndO (b == 0) (some (zlz ((0:Int),false))) (obO (¬b=0) (some (zlz ((z3n a b (a.tmod b)).fst,(z3n a b (a.tmod b)).snd)))))):=by kernel_rfl
def zo9 (a b:Int) : Int×Bool :=
 if z1v a=true then (if z1v b=true then (if b=0 then (0,false) else z3n a b (a.tmod b)) else (0,false)) else (0,false)
theorem z1ox (a b:Int) (_ha:WI a) (_hb:WI b) : z1by a b=some (zlz (zo9 a b)):=by
 rw[z1w2]
 unfold zo9
 simp only[za,Bool.not_eq_true',beq_iff_eq]
 by_cases h1 : z1v a=true
 ·by_cases h2 : z1v b=true
  ·by_cases h3 : b=0
   ·rw[if_neg (by rw[h1];decide),if_neg (by rw[h2];decide),if_pos h3,if_pos h1,if_pos h2,if_pos h3]
   ·rw[if_neg (by rw[h1];decide),if_neg (by rw[h2];decide),if_neg h3,if_pos h1,if_pos h2,if_neg h3,z6 h3]
  ·rw[if_neg (by rw[h1];decide),if_pos (by simpa using h2),if_pos h1,if_neg h2]
 ·rw[if_pos (by simpa using h1),if_neg h1]
def z1k6 : FnC Un:=fun args=>match args with
 | [x0,x1]=>(dI .i64 x0).bind fun a=>(dI .i64 x1).bind fun b=>some ([],z1k3 (zo9 a b),z1k4 (zo9 a b))
 | _=>none
theorem z1w3 : FnOK 205 z1k6:=by
 intro args ob rs os h hob
 unfold z1k6 at h
 split at h
 ·simp only[Option.bind_eq_some_iff,Option.some.injEq,Prod.mk.injEq] at h
  obtain⟨a,e0,b,e1,rfl,rfl,rfl⟩:=h
  obtain rfl:=z1t e0
  obtain rfl:=z1t e1
  exact⟨zd (M:=z115) rfl (zf (l1:=[(211,z3u),(233,z5z)]) (l2:=[]) (l3:=[]) (l4:=[]) (l5:=[]) ⟨zal,zfy,trivial⟩ trivial trivial trivial trivial) Tryz.func205 (by kernel_rfl) z1k5 0 [.d,.d] (fun hwf=>(z1ox a b (ze hwf (a:=.d (.v (.s (.int .i64 a)))) (List.mem_of_getElem? (i:=0) rfl)) (ze hwf (a:=.d (.v (.s (.int .i64 b)))) (List.mem_of_getElem? (i:=1) rfl)))),zb Tryz.func205 (by kernel_rfl) (by kernel_rfl)⟩
 ·simp at h
end
end Go.Proofs.YtjfpbchdcbhfgaaGreat.B
