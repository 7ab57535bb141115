/- Part 15 of the proof: Sref03 Sdeqp Shelf Lindexb. -/
import Derived.Shelf.Small.Strs
import Derived.Shelf.Small.Wraps
import Derived.Shelf.Strings.Search1
import Derived.Shelf.GgClosure.StringsIndexFunc
import Derived.Ground.GgwProg
import Derived.Shelf.GgClosure.StringsIndexFuncTop
import Derived.Shelf.GgClosure.StringsRunes
import Derived.Shelf.Strings.FuncGrows
import Derived.Shelf.Slices.Turned
import Derived.Ground.Names2Prog
import Derived.Shelf.Slices.SearchI
import Derived.Test.YtjfpbchdcbhfgaaGreatProg
import Derived.Test.YtjfpbchdcbhfgaaGreatNsrt14
namespace Go.Proofs.YtjfpbchdcbhfgaaGreat.B
open Go Go.RowKit
set_option maxRecDepth 100000
noncomputable section
attribute [local irreducible] awp ctxK z12 z1o retQ z2i
def zoy : Mc Un:=mach (tbl []) (tbl []) (tbl []) (tbl []) (tbl [])
def z193 : Nat→NS:=fun l=>(look l []).getD ⟨[],[],[],[],[],false⟩
def zoz (r:Bool) : List (A Un):=[.c (.s (.bool r))]
def zp0 (_r:Bool) : List (Ob Un):=[]
theorem z1z6 (n:Int) (K:List (A Un)→List (Ob Un)→Prop) :
  awp zoy z193 (z8 Tryz.f73) (zg Tryz.f73.ntmps 0 [.d (.v (.s (.int .i64 n)))]) (retQ zoy Tryz.f73.results.toList [.d] K) =
(cnd (decide (n≥(-1000000000000000:Int)))
 (K (zoz (decide (n≤(1000000000000000:Int)))) (zp0 (decide (n≤(1000000000000000:Int)))))
 (K (zoz (false)) (zp0 (false)))):=by kernel_rfl
def zqs (n:Int) : Option (Bool) :=
  if (decide (n≥(-1000000000000000:Int)))=true then
   some (decide (n≤(1000000000000000:Int)))
  else
   some (false)
theorem z1wf {n:Int} {r:Bool} (h:zqs n=some r) : Runs (awp zoy z193 (z8 Tryz.f73) (zg Tryz.f73.ntmps 0 [.d (.v (.s (.int .i64 n)))]) (retQ zoy Tryz.f73.results.toList [.d] fun rs os=>rs=zoz r∧os=zp0 r)):=by
 constructor
 rw[z1z6 n (fun rs os=>rs=zoz r∧os=zp0 r)]
 unfold zqs at h
 rcases z15 h with ⟨c1,h2⟩ | ⟨c1,h2⟩
 ·cases h2
  exact (z1j c1 ⟨rfl,rfl⟩)
 ·cases h2
  exact (zr (zk c1) ⟨rfl,rfl⟩)
def zm0 (n:Int) : Bool :=
  if (decide (n≥(-1000000000000000:Int)))=true then
   (decide (n≤(1000000000000000:Int)))
  else
   (false)
theorem z1z7 (n:Int) : zqs n=some (zm0 n):=by unfold zqs zm0;repeat (first | rfl | split)
def zx5 : FnC Un:=fun args=>match args with
 | [x0]=>(dI .i64 x0).bind fun n=>some ([],zoz (zm0 n),zp0 (zm0 n))
 | _=>none
theorem z1z8 : FnOK 73 zx5:=by
 intro args ob rs os h hob
 unfold zx5 at h
 split at h
 ·simp only[Option.bind_eq_some_iff,Option.some.injEq,Prod.mk.injEq] at h
  obtain⟨n,e0,rfl,rfl,rfl⟩:=h
  obtain rfl:=z1t e0
  exact⟨z2t (M:=zoy) rfl (zf (l1:=[]) (l2:=[]) (l3:=[]) (l4:=[]) (l5:=[]) trivial trivial trivial trivial trivial) Tryz.func73 (by kernel_rfl) z193 0 [.d] (fun hwf=>z1wf (z1z7 n)),zb Tryz.func73 (by kernel_rfl) (by kernel_rfl)⟩
 ·simp at h
@[simp] theorem z1sq (n:Int) : zm0 n=inN n:=by
 unfold zm0 inN
 by_cases h : n≥-1000000000000000
 ·rw[if_pos (decide_eq_true h)];congr 1;simp only[eq_iff_iff];omega
 ·rw[if_neg (by simpa using h)];symm;simp only[decide_eq_false_iff_not];omega
def zik : Mc Un:=mach (tbl []) (tbl []) (tbl []) (tbl []) (tbl [])
def zx6 : Nat→NS:=fun l=>(look l []).getD ⟨[],[],[],[],[],false⟩
def zep (r:Int) : List (A Un):=[.c (.s (.int .i64 r))]
def zeq (_r:Int) : List (Ob Un):=[]
theorem z1sr (a:Int) (b:Int) (K:List (A Un)→List (Ob Un)→Prop) :
  awp zik zx6 (z8 Tryz.f83) (zg Tryz.f83.ntmps 0 [.d (.v (.s (.int .i64 a))),.d (.v (.s (.int .i64 b)))]) (retQ zik Tryz.f83.results.toList [.d] K) =
(cnd (decide (a<b))
 (K (zep ((-1:Int))) (zeq ((-1:Int))))
 (cnd (decide (a > b))
  (K (zep ((1:Int))) (zeq ((1:Int))))
  (K (zep ((0:Int))) (zeq ((0:Int)))))):=by kernel_rfl
def zkp (a:Int) (b:Int) : Option (Int) :=
  if (decide (a<b))=true then
   some ((-1:Int))
  else
   if (decide (a > b))=true then
    some ((1:Int))
   else
    some ((0:Int))
theorem z1pb {a:Int} {b:Int} {r:Int} (h:zkp a b=some r) : Runs (awp zik zx6 (z8 Tryz.f83) (zg Tryz.f83.ntmps 0 [.d (.v (.s (.int .i64 a))),.d (.v (.s (.int .i64 b)))]) (retQ zik Tryz.f83.results.toList [.d] fun rs os=>rs=zep r∧os=zeq r)):=by
 constructor
 rw[z1sr a b (fun rs os=>rs=zep r∧os=zeq r)]
 unfold zkp at h
 rcases z15 h with ⟨c1,h2⟩ | ⟨c1,h2⟩
 ·cases h2
  exact (z1j c1 ⟨rfl,rfl⟩)
 ·rcases z15 h2 with ⟨c3,h4⟩ | ⟨c3,h4⟩
  ·cases h4
   exact (zr (zk c1) (z1j c3 ⟨rfl,rfl⟩))
  ·cases h4
   exact (zr (zk c1) (zr (zk c3) ⟨rfl,rfl⟩))
def z3w (a:Int) (b:Int) : Int :=
  if (decide (a<b))=true then
   ((-1:Int))
  else
   if (decide (a > b))=true then
    ((1:Int))
   else
    ((0:Int))
theorem z1ss (a:Int) (b:Int) : zkp a b=some (z3w a b):=by unfold zkp z3w;repeat (first | rfl | split)
def zap : FnC Un:=fun args=>match args with
 | [x0,x1]=>(dI .i64 x0).bind fun a=>(dI .i64 x1).bind fun b=>some ([],zep (z3w a b),zeq (z3w a b))
 | _=>none
theorem zsq : FnOK 83 zap:=by
 intro args ob rs os h hob
 unfold zap at h
 split at h
 ·simp only[Option.bind_eq_some_iff,Option.some.injEq,Prod.mk.injEq] at h
  obtain⟨a,e0,b,e1,rfl,rfl,rfl⟩:=h
  obtain rfl:=z1t e0
  obtain rfl:=z1t e1
  exact⟨z2t (M:=zik) rfl (zf (l1:=[]) (l2:=[]) (l3:=[]) (l4:=[]) (l5:=[]) trivial trivial trivial trivial trivial) Tryz.func83 (by kernel_rfl) zx6 0 [.d] (fun hwf=>z1pb (z1ss a b)),zb Tryz.func83 (by kernel_rfl) (by kernel_rfl)⟩
 ·simp at h
@[simp] theorem zy8 (a b:Int) : z3w a b=cmpI a b:=by
 unfold z3w cmpI;simp only[decide_eq_true_eq]
def z39 : Mc Un:=mach (tbl [(83,zap)]) (tbl []) (tbl []) (tbl []) (tbl [])
def z3a : Nat→NS:=fun l=>(look l [(2,{ ts:=[true,true,false,false,true,true,false,false,false,false,false,false,false,false,false,false,false,false,false,false,false,false,false,false,false,false,false,false,false,false,false,false,false,false,false,false,false,false,false],bs:=[false,false,false,false,false,false,false,false,false,false,false,false,false,false,false,false,false,false,false,false,false,false,false,false,false,false,false,false,false,false,false,false,false,false,false,false,false,false,false],nm:=[],gb:=[],gs:=[] })]).getD ⟨[],[],[],[],[],false⟩
def zg0 (r:Int) : List (A Un):=[.c (.s (.int .i64 r))]
def zg1 (_r:Int) : List (Ob Un):=[]
def z5o (a:ByteArray) (b:ByteArray) (v0:Int) : S Un:=(st 39 39 156 0 [(0,AV.one (A.c (C.s (Value.string a)))),(1,AV.one (A.c (C.s (Value.string b)))),(4,AV.one (A.c (C.s (Value.int IntKind.i64 (0:Int))))),(5,AV.one (A.c (C.s (Value.int IntKind.i64 v0))))] [] [])
def zcc (a:ByteArray) (b:ByteArray) (v0:Int) (v1:Int) : S Un:=(st 39 39 156 0 [(0,AV.one (A.c (C.s (Value.string a)))),(1,AV.one (A.c (C.s (Value.string b)))),(4,AV.one (A.c (C.s (Value.int IntKind.i64 v1)))),(5,AV.one (A.c (C.s (Value.int IntKind.i64 v0))))] [] [])
theorem z1pc (a:ByteArray) (b:ByteArray) (K:List (A Un)→List (Ob Un)→Prop) :
  awp z39 z3a (z8 Tryz.f135) (zg Tryz.f135.ntmps 0 [.d (.v (cs a)),.d (.v (cs b))]) (retQ z39 Tryz.f135.results.toList [.d] K) =
(z12 (z3a 2) (awp z39 z3a (sub (z8 Tryz.f135) [1,0,1,2,2])) (ctxK z39 z3a (z8 Tryz.f135) [1,0,1,2] (retQ z39 Tryz.f135.results.toList [.d] K)) (z5o a b (0:Int))):=by kernel_rfl
theorem zil (a:ByteArray) (b:ByteArray) (v0:Int) (k:Nat) (Q:Exit→S Un→Prop) :
  z1o (z3a 2) (awp z39 z3a (sub (z8 Tryz.f135) [1,0,1,2,2])) Q (k+1) (z5o a b v0) =
(cnd (decide (v0<(↑a.size:Int)))
 (cnd (decide (v0<(↑b.size:Int)))
  (((0:Int)≤v0∧v0<(↑a.size:Int)) ∧
  (((0:Int)≤v0∧v0<(↑b.size:Int)) ∧
  (cnd ((↑(a.toList.getD v0.toNat (0:UInt8)).toNat:Int) != (↑(b.toList.getD v0.toNat (0:UInt8)).toNat:Int))
   (((0:Int)≤v0∧v0<(↑a.size:Int)) ∧
   (((0:Int)≤v0∧v0<(↑b.size:Int)) ∧
   (Q .ret (zcc a b v0 (z3w (IntKind.i64.wrap (↑(a.toList.getD v0.toNat (0:UInt8)).toNat:Int)) (IntKind.i64.wrap (↑(b.toList.getD v0.toNat (0:UInt8)).toNat:Int)))))))
   (z1o (z3a 2) (awp z39 z3a (sub (z8 Tryz.f135) [1,0,1,2,2])) Q k (z5o a b (IntKind.i64.wrap (v0+(1:Int))))))))
  (Q (.exit 0) (z5o a b v0)))
 (Q (.exit 0) (z5o a b v0))):=by kernel_rfl
theorem z194 (a:ByteArray) (b:ByteArray) (v0:Int) (v1:Int) (K:List (A Un)→List (Ob Un)→Prop) :
  ctxK z39 z3a (z8 Tryz.f135) [1,0,1,2] (retQ z39 Tryz.f135.results.toList [.d] K) .ret (zcc a b v0 v1) =
(K (zg0 (v1)) (zg1 (v1))):=by kernel_rfl
theorem z1c9 (a:ByteArray) (b:ByteArray) (v0:Int) (K:List (A Un)→List (Ob Un)→Prop) :
  ctxK z39 z3a (z8 Tryz.f135) [1,0,1,2] (retQ z39 Tryz.f135.results.toList [.d] K) (.exit 0) (z5o a b v0) =
(K (zg0 (z3w (↑a.size:Int) (↑b.size:Int))) (zg1 (z3w (↑a.size:Int) (↑b.size:Int)))):=by kernel_rfl
def z9e (a:ByteArray) (b:ByteArray) (v:Int) : Option ((Int) ⊕ ((Int×Int) ⊕ (Int))) :=
  if (decide (v<(↑a.size:Int)))=true then
   if (decide (v<(↑b.size:Int)))=true then
    if (0:Int)≤v∧v<(↑a.size:Int) then
     if (0:Int)≤v∧v<(↑b.size:Int) then
      if ((↑(a.toList.getD v.toNat (0:UInt8)).toNat:Int) != (↑(b.toList.getD v.toNat (0:UInt8)).toNat:Int))=true then
       if (0:Int)≤v∧v<(↑a.size:Int) then
        if (0:Int)≤v∧v<(↑b.size:Int) then
         some (.inr (.inl (v,(z3w (IntKind.i64.wrap (↑(a.toList.getD v.toNat (0:UInt8)).toNat:Int)) (IntKind.i64.wrap (↑(b.toList.getD v.toNat (0:UInt8)).toNat:Int))))))
        else none
       else none
      else
       some (.inl (IntKind.i64.wrap (v+(1:Int))))
     else none
    else none
   else
    some (.inr (.inr v))
  else
   some (.inr (.inr v))
def ze1 (a:ByteArray) (b:ByteArray) (v:Int) : Option ((Int×Int) ⊕ (Int)):=zca (z9e a b) v
theorem zim (a:ByteArray) (b:ByteArray) (v:Int) : ze1 a b v=zkj (ze1 a b) (z9e a b v):=zon _ _
def zin (a:ByteArray) (b:ByteArray) (r:(Int×Int) ⊕ (Int)) (Q:Exit→S Un→Prop) : Prop:=match r with | .inl x=>Q .ret (zcc a b x.1 x.2) | .inr x=>Q (.exit 0) (z5o a b x)
theorem z195 {a:ByteArray} {b:ByteArray} {x:Int×Int} {Q:Exit→S Un→Prop} (h:Q .ret (zcc a b x.1 x.2)) : zin a b (.inl x) Q:=h
theorem z1ca {a:ByteArray} {b:ByteArray} {x:Int} {Q:Exit→S Un→Prop} (h:Q (.exit 0) (z5o a b x)) : zin a b (.inr x) Q:=h
theorem zp1 {a:ByteArray} {b:ByteArray} {v:Int} {r:(Int×Int) ⊕ (Int)} (h:ze1 a b v=some r) (Q:Exit→S Un→Prop) (hQ:zin a b r Q) : z12 (z3a 2) (awp z39 z3a (sub (z8 Tryz.f135) [1,0,1,2,2])) Q (z5o a b v):=by
 refine @zoo _ _ (z9e a b) (fun v=>z12 (z3a 2) (awp z39 z3a (sub (z8 Tryz.f135) [1,0,1,2,2])) Q (z5o a b v)) (fun r=>zin a b r Q) ?_ v r h hQ
 intro v o h hI
 unfold z9e at h
 rcases z15 h with ⟨c1,h2⟩ | ⟨c1,h2⟩
 ·rcases z15 h2 with ⟨c3,h4⟩ | ⟨c3,h4⟩
  ·obtain⟨c5,h6⟩:=z8z h4
   obtain⟨c7,h8⟩:=z8z h6
   rcases z15 h8 with ⟨c9,h10⟩ | ⟨c9,h10⟩
   ·obtain⟨c11,h12⟩:=z8z h10
    obtain⟨c13,h14⟩:=z8z h12
    cases h14
    exact z4u 1 (mpr (zil a b v 0 Q) (z1j c1 (z1j c3 (And.intro c5 (And.intro c7 (z1j c9 (And.intro c11 (And.intro c13 hI))))))))
   ·cases h10
    obtain⟨k15,hk16⟩:=znc hI
    exact z4u (k15+1) (mpr (zil a b v k15 Q) (z1j c1 (z1j c3 (And.intro c5 (And.intro c7 (zr (zk c9) hk16))))))
  ·cases h4
   exact z4u 1 (mpr (zil a b v 0 Q) (z1j c1 (zr (zk c3) hI)))
 ·cases h2
  exact z4u 1 (mpr (zil a b v 0 Q) (zr (zk c1) hI))
def zio (a:ByteArray) (b:ByteArray) : Option (Int) :=
  (ze1 a b (0:Int)) >>= fun o17=>match o17 with
   | .inl o18 =>
     some (o18.2)
   | .inr o19 =>
     some (z3w (↑a.size:Int) (↑b.size:Int))
theorem z1lt {a:ByteArray} {b:ByteArray} {r:Int} (h:zio a b=some r) : Runs (awp z39 z3a (z8 Tryz.f135) (zg Tryz.f135.ntmps 0 [.d (.v (cs a)),.d (.v (cs b))]) (retQ z39 Tryz.f135.results.toList [.d] fun rs os=>rs=zg0 r∧os=zg1 r)):=by
 constructor
 rw[z1pc a b (fun rs os=>rs=zg0 r∧os=zg1 r)]
 unfold zio at h
 obtain⟨o20,ho21,h22⟩:=bind_some h
 rcases o20 with o23 | o24
 ·cases h22
  exact (zp1 ho21 _ (z195 (mpr (z194 a b o23.1 o23.2 _) ⟨rfl,rfl⟩)))
 ·cases h22
  exact (zp1 ho21 _ (z1ca (mpr (z1c9 a b o24 _) ⟨rfl,rfl⟩)))
def zaq (a b:ByteArray) : Int:=cmpS a b
@[simp] theorem z1pd (a b:ByteArray) : zaq a b=cmpS a b:=by unfold zaq;rfl
theorem z1gj (a b:ByteArray) (ha:WStr a) (hb:WStr b) : ∀ (ra rb:List UInt8) (i:Nat),a.toList.drop i=ra→b.toList.drop i=rb→i≤a.size→i≤b.size →
  ∃ o,ze1 a b i=some o∧(match o with | .inl o=>o.2 | .inr _=>cmpI a.size b.size)=cmpL ra rb:=by
 intro ra
 induction ra with
 | nil =>
  intro rb i h1 h2 h3 h4
  have e1:=zh4 h1;have e2:=zh4 h2
  rw[z38] at e1 e2
  simp only[List.length_nil] at e1
  have hn:¬ ((i:Int)<a.size):=by omega
  refine⟨.inr i,by rw[zim,z9e];simp [hn],?_⟩
  simp only
  cases rb with
  | nil=>simp at e2;unfold cmpI cmpL;rw[if_neg (by omega),if_neg (by omega)]
  | cons y rb=>simp at e2;unfold cmpI cmpL;rw[if_pos (by omega)]
 | cons x ra ih =>
  intro rb i h1 h2 h3 h4
  obtain⟨a1,a2,a3,_⟩:=z31 h1
  rw[z38] at a1
  have hp:(i:Int)<a.size:=by omega
  cases rb with
  | nil =>
   have e2:=zh4 h2
   rw[z38] at e2
   simp only[List.length_nil] at e2
   have hn:¬ ((i:Int)<b.size):=by omega
   refine⟨.inr i,by rw[zim,z9e];simp [hn,hp],?_⟩
   simp only;unfold cmpI cmpL;rw[if_neg (by omega),if_pos (by omega)]
  | cons y rb =>
   obtain⟨b1,b2,b3,_⟩:=z31 h2
   rw[z38] at b1
   have hq:(i:Int)<b.size:=by omega
   have hi:(0:Int)≤i:=by omega
   rw[zim,z9e]
   simp only[hp,hq,hi,decide_true,if_true,true_and,and_self,Int.toNat_natCast,a2,b2]
   by_cases hxy : x=y
   ·subst hxy
    simp only[bne_self_eq_false,Bool.false_eq_true,if_false]
    rw[zqd a1 ha]
    simpa only [cmpL,if_true,zlv] using ih rb (i+1) a3 b3 (by omega) (by omega)
   ·have hne:((x.toNat:Int) != (y.toNat:Int))=true:=by
     rw[bne_iff_ne];intro e;exact hxy (UInt8.toNat_inj.1 (by omega))
    have hx:=x.toNat_lt;have hy:=y.toNat_lt
    refine⟨_,by rw[if_pos hne,zhi],?_⟩
    simp only[cmpL,hxy,if_false,zy8]
    rw[z2n (by omega),z2n (by omega)]
theorem z1gk (a b:ByteArray) (ha:WStr a) (hb:WStr b) : zio a b=some (zaq a b):=by
 obtain⟨o,ho,e⟩:=z1gj a b ha hb _ _ 0 rfl rfl (by omega) (by omega)
 unfold zio zaq cmpS
 rw[show (0:Int)=((0:Nat):Int) from rfl,ho]
 simp only[List.drop_zero] at e
 rw[← e]
 cases o<;>simp
def zkq : FnC Un:=fun args=>match args with
 | [x0,x1]=>(dStr x0).bind fun a=>(dStr x1).bind fun b=>some ([],zg0 (zaq a b),zg1 (zaq a b))
 | _=>none
theorem z1pe : FnOK 135 zkq:=by
 intro args ob rs os h hob
 unfold zkq at h
 split at h
 ·simp only[Option.bind_eq_some_iff,Option.some.injEq,Prod.mk.injEq] at h
  obtain⟨a,e0,b,e1,rfl,rfl,rfl⟩:=h
  obtain rfl:=z57 e0
  obtain rfl:=z57 e1
  exact⟨z2t (M:=z39) rfl (zf (l1:=[(83,zap)]) (l2:=[]) (l3:=[]) (l4:=[]) (l5:=[]) ⟨zsq,trivial⟩ trivial trivial trivial trivial) Tryz.func135 (by kernel_rfl) z3a 0 [.d] (fun hwf=>z1lt (z1gk a b (ze hwf (a:=.d (.v (cs a))) (List.mem_of_getElem? (i:=0) rfl)) (ze hwf (a:=.d (.v (cs b))) (List.mem_of_getElem? (i:=1) rfl)))),zb Tryz.func135 (by kernel_rfl) (by kernel_rfl)⟩
 ·simp at h
def z3b : Mc Un:=mach (tbl []) (tbl []) (tbl []) (tbl []) (tbl [])
def z3c : Nat→NS:=fun l=>(look l [(2,{ ts:=[true,false,true,true,false,false,false,false,false,false,false,false,false,false,false,false,false,false,false,false,false,false,false],bs:=[false,false,false,false,false,false,false,false,false,false,false,false,false,false,false,false,false,false,false,false,false,false,false],nm:=[],gb:=[],gs:=[] })]).getD ⟨[],[],[],[],[],false⟩
def zg2 (r:Bool) : List (A Un):=[.c (.s (.bool r))]
def zg3 (_r:Bool) : List (Ob Un):=[]
def z3h (s:ByteArray) (v0:Int) : S Un:=(st 23 23 92 0 [(0,AV.one (A.c (C.s (Value.string s)))),(2,AV.one (A.c (C.s (Value.bool false)))),(3,AV.one (A.c (C.s (Value.int IntKind.i64 v0))))] [] [])
theorem z1pf (s:ByteArray) (K:List (A Un)→List (Ob Un)→Prop) :
  awp z3b z3c (z8 Tryz.f74) (zg Tryz.f74.ntmps 0 [.d (.v (cs s))]) (retQ z3b Tryz.f74.results.toList [.d] K) =
(z12 (z3c 2) (awp z3b z3c (sub (z8 Tryz.f74) [1,0,1,2,2])) (ctxK z3b z3c (z8 Tryz.f74) [1,0,1,2] (retQ z3b Tryz.f74.results.toList [.d] K)) (z3h s (0:Int))):=by kernel_rfl
theorem zip (s:ByteArray) (v0:Int) (k:Nat) (Q:Exit→S Un→Prop) :
  z1o (z3c 2) (awp z3b z3c (sub (z8 Tryz.f74) [1,0,1,2,2])) Q (k+1) (z3h s v0) =
(cnd (decide (v0<(↑s.size:Int)))
 (((0:Int)≤v0∧v0<(↑s.size:Int)) ∧
 (cnd (decide ((↑(s.toList.getD v0.toNat (0:UInt8)).toNat:Int)<(32:Int)))
  (Q .ret (z3h s v0))
  (((0:Int)≤v0∧v0<(↑s.size:Int)) ∧
  (cnd (decide ((↑(s.toList.getD v0.toNat (0:UInt8)).toNat:Int) > (126:Int)))
   (Q .ret (z3h s v0))
   (z1o (z3c 2) (awp z3b z3c (sub (z8 Tryz.f74) [1,0,1,2,2])) Q k (z3h s (IntKind.i64.wrap (v0+(1:Int)))))))))
 (Q (.exit 0) (z3h s v0))):=by kernel_rfl
theorem z196 (s:ByteArray) (v0:Int) (K:List (A Un)→List (Ob Un)→Prop) :
  ctxK z3b z3c (z8 Tryz.f74) [1,0,1,2] (retQ z3b Tryz.f74.results.toList [.d] K) .ret (z3h s v0) =
(K (zg2 (false)) (zg3 (false))):=by kernel_rfl
theorem z1cb (s:ByteArray) (v0:Int) (K:List (A Un)→List (Ob Un)→Prop) :
  ctxK z3b z3c (z8 Tryz.f74) [1,0,1,2] (retQ z3b Tryz.f74.results.toList [.d] K) (.exit 0) (z3h s v0) =
(K (zg2 (decide ((↑s.size:Int)≤(100:Int)))) (zg3 (decide ((↑s.size:Int)≤(100:Int))))):=by kernel_rfl
def zbe (s:ByteArray) (v:Int) : Option ((Int) ⊕ ((Int) ⊕ (Int))) :=
  if (decide (v<(↑s.size:Int)))=true then
   if (0:Int)≤v∧v<(↑s.size:Int) then
    if (decide ((↑(s.toList.getD v.toNat (0:UInt8)).toNat:Int)<(32:Int)))=true then
     some (.inr (.inl v))
    else
     if (0:Int)≤v∧v<(↑s.size:Int) then
      if (decide ((↑(s.toList.getD v.toNat (0:UInt8)).toNat:Int) > (126:Int)))=true then
       some (.inr (.inl v))
      else
       some (.inl (IntKind.i64.wrap (v+(1:Int))))
     else none
   else none
  else
   some (.inr (.inr v))
def ze2 (s:ByteArray) (v:Int) : Option ((Int) ⊕ (Int)):=zca (zbe s) v
theorem zqt (s:ByteArray) (v:Int) : ze2 s v=zkj (ze2 s) (zbe s v):=zon _ _
def ziq (s:ByteArray) (r:(Int) ⊕ (Int)) (Q:Exit→S Un→Prop) : Prop:=match r with | .inl x=>Q .ret (z3h s x) | .inr x=>Q (.exit 0) (z3h s x)
theorem z197 {s:ByteArray} {x:Int} {Q:Exit→S Un→Prop} (h:Q .ret (z3h s x)) : ziq s (.inl x) Q:=h
theorem z1cc {s:ByteArray} {x:Int} {Q:Exit→S Un→Prop} (h:Q (.exit 0) (z3h s x)) : ziq s (.inr x) Q:=h
theorem zp2 {s:ByteArray} {v:Int} {r:(Int) ⊕ (Int)} (h:ze2 s v=some r) (Q:Exit→S Un→Prop) (hQ:ziq s r Q) : z12 (z3c 2) (awp z3b z3c (sub (z8 Tryz.f74) [1,0,1,2,2])) Q (z3h s v):=by
 refine @zoo _ _ (zbe s) (fun v=>z12 (z3c 2) (awp z3b z3c (sub (z8 Tryz.f74) [1,0,1,2,2])) Q (z3h s v)) (fun r=>ziq s r Q) ?_ v r h hQ
 intro v o h hI
 unfold zbe at h
 rcases z15 h with ⟨c1,h2⟩ | ⟨c1,h2⟩
 ·obtain⟨c3,h4⟩:=z8z h2
  rcases z15 h4 with ⟨c5,h6⟩ | ⟨c5,h6⟩
  ·cases h6
   exact z4u 1 (mpr (zip s v 0 Q) (z1j c1 (And.intro c3 (z1j c5 hI))))
  ·obtain⟨c7,h8⟩:=z8z h6
   rcases z15 h8 with ⟨c9,h10⟩ | ⟨c9,h10⟩
   ·cases h10
    exact z4u 1 (mpr (zip s v 0 Q) (z1j c1 (And.intro c3 (zr (zk c5) (And.intro c7 (z1j c9 hI))))))
   ·cases h10
    obtain⟨k11,hk12⟩:=znc hI
    exact z4u (k11+1) (mpr (zip s v k11 Q) (z1j c1 (And.intro c3 (zr (zk c5) (And.intro c7 (zr (zk c9) hk12))))))
 ·cases h2
  exact z4u 1 (mpr (zip s v 0 Q) (zr (zk c1) hI))
def zir (s:ByteArray) : Option (Bool) :=
  (ze2 s (0:Int)) >>= fun o13=>match o13 with
   | .inl o14 =>
     some (false)
   | .inr o15 =>
     some (decide ((↑s.size:Int)≤(100:Int)))
theorem z1lu {s:ByteArray} {r:Bool} (h:zir s=some r) : Runs (awp z3b z3c (z8 Tryz.f74) (zg Tryz.f74.ntmps 0 [.d (.v (cs s))]) (retQ z3b Tryz.f74.results.toList [.d] fun rs os=>rs=zg2 r∧os=zg3 r)):=by
 constructor
 rw[z1pf s (fun rs os=>rs=zg2 r∧os=zg3 r)]
 unfold zir at h
 obtain⟨o16,ho17,h18⟩:=bind_some h
 rcases o16 with o19 | o20
 ·cases h18
  exact (zp2 ho17 _ (z197 (mpr (z196 s o19 _) ⟨rfl,rfl⟩)))
 ·cases h18
  exact (zp2 ho17 _ (z1cc (mpr (z1cb s o20 _) ⟨rfl,rfl⟩)))
def zar (s:ByteArray) : Bool:=zu4 s
@[simp] theorem z1pg (s:ByteArray) : zar s=zu4 s:=by unfold zar;rfl
theorem z1gl (s:ByteArray) (hs:WStr s) : ∀ (r:List UInt8) (i:Nat),s.toList.drop i=r →
  ∃ o,ze2 s i=some o∧(match o with | .inl _=>false | .inr _=>true)=r.all (fun b=>decide (32≤b.toNat∧b.toNat≤126)):=by
 intro r
 induction r with
 | nil =>
  intro i h1
  have e1:=zh4 h1
  rw[z38] at e1
  simp only[List.length_nil] at e1
  have hn:¬ ((i:Int)<s.size):=by omega
  exact⟨.inr i,by rw[zqt,zbe];simp [hn],rfl⟩
 | cons x r ih =>
  intro i h1
  obtain⟨a1,a2,a3,_⟩:=z31 h1
  rw[z38] at a1
  have hp:(i:Int)<s.size:=by omega
  have hi:(0:Int)≤i:=by omega
  rw[zqt,zbe]
  simp only[hp,hi,decide_true,if_true,and_self,Int.toNat_natCast,a2,decide_eq_true_eq,List.all_cons]
  by_cases c1 : (x.toNat:Int)<32
  ·exact⟨_,by rw[if_pos c1,zhi],by simp;omega⟩
  ·rw[if_neg c1]
   by_cases c2 : (x.toNat:Int) > 126
   ·exact⟨_,by rw[if_pos c2,zhi],by simp;omega⟩
   ·rw[if_neg c2,zqd a1 hs,zlv]
    have e:decide (32≤x.toNat∧x.toNat≤126)=true:=by simp;omega
    rw[e,Bool.true_and]
    exact ih (i+1) a3
theorem z1gm (s:ByteArray) (hs:WStr s) : zir s=some (zar s):=by
 obtain⟨o,ho,e⟩:=z1gl s hs _ 0 rfl
 unfold zir zar zu4
 rw[show (0:Int)=((0:Nat):Int) from rfl,ho]
 simp only[List.drop_zero] at e
 rw[← e]
 cases o with
 | inl o=>simp
 | inr o=>simp;omega
def zkr : FnC Un:=fun args=>match args with
 | [x0]=>(dStr x0).bind fun s=>some ([],zg2 (zar s),zg3 (zar s))
 | _=>none
theorem z1ph : FnOK 74 zkr:=by
 intro args ob rs os h hob
 unfold zkr at h
 split at h
 ·simp only[Option.bind_eq_some_iff,Option.some.injEq,Prod.mk.injEq] at h
  obtain⟨s,e0,rfl,rfl,rfl⟩:=h
  obtain rfl:=z57 e0
  exact⟨z2t (M:=z3b) rfl (zf (l1:=[]) (l2:=[]) (l3:=[]) (l4:=[]) (l5:=[]) trivial trivial trivial trivial trivial) Tryz.func74 (by kernel_rfl) z3c 0 [.d] (fun hwf=>z1lu (z1gm s (ze hwf (a:=.d (.v (cs s))) (List.mem_of_getElem? (i:=0) rfl)))),zb Tryz.func74 (by kernel_rfl) (by kernel_rfl)⟩
 ·simp at h
def zg4 : Mc Un:=mach (tbl [(73,zx5),(74,zkr)]) (tbl []) (tbl []) (tbl []) (tbl [])
def zsr : Nat→NS:=fun l=>(look l []).getD ⟨[],[],[],[],[],false⟩
def z4g (r:Bool) : List (A Un):=[.c (.s (.bool r))]
def z4h (_r:Bool) : List (Ob Un):=[]
theorem z1pi (v:Val) (K:List (A Un)→List (Ob Un)→Prop) :
  awp zg4 zsr (z8 Tryz.f38) (zg Tryz.f38.ntmps 0 [.d (.agg (enc Ty.val v))]) (retQ zg4 Tryz.f38.results.toList [.d] K) =
(cnd (v.kind == (0:Int))
 (cnd (v.n == (0:Int))
  (K (z4g (v.s.toList == (ByteArray.mk #[]).toList)) (z4h (v.s.toList == (ByteArray.mk #[]).toList)))
  (K (z4g (false)) (z4h (false))))
 (cnd (v.kind == (1:Int))
  (cnd (v.n == (0:Int))
   (K (z4g (v.s.toList == (ByteArray.mk #[]).toList)) (z4h (v.s.toList == (ByteArray.mk #[]).toList)))
   (cnd (v.n == (1:Int))
    (K (z4g (v.s.toList == (ByteArray.mk #[]).toList)) (z4h (v.s.toList == (ByteArray.mk #[]).toList)))
    (K (z4g (false)) (z4h (false)))))
  (cnd (v.kind == (2:Int))
   (cnd (zm0 v.n)
    (K (z4g (v.s.toList == (ByteArray.mk #[]).toList)) (z4h (v.s.toList == (ByteArray.mk #[]).toList)))
    (K (z4g (false)) (z4h (false))))
   (cnd (v.kind == (3:Int))
    (cnd (v.n == (0:Int))
     (K (z4g (zar v.s)) (z4h (zar v.s)))
     (K (z4g (false)) (z4h (false))))
    (K (z4g (false)) (z4h (false))))))):=by kernel_rfl
def zis (v:Val) : Option (Bool) :=
  if (v.kind == (0:Int))=true then
   if (v.n == (0:Int))=true then
    some (v.s.toList == (ByteArray.mk #[]).toList)
   else
    some (false)
  else
   if (v.kind == (1:Int))=true then
    if (v.n == (0:Int))=true then
     some (v.s.toList == (ByteArray.mk #[]).toList)
    else
     if (v.n == (1:Int))=true then
      some (v.s.toList == (ByteArray.mk #[]).toList)
     else
      some (false)
   else
    if (v.kind == (2:Int))=true then
     if (zm0 v.n)=true then
      some (v.s.toList == (ByteArray.mk #[]).toList)
     else
      some (false)
    else
     if (v.kind == (3:Int))=true then
      if (v.n == (0:Int))=true then
       some (zar v.s)
      else
       some (false)
     else
      some (false)
theorem z1lv {v:Val} {r:Bool} (h:zis v=some r) : Runs (awp zg4 zsr (z8 Tryz.f38) (zg Tryz.f38.ntmps 0 [.d (.agg (enc Ty.val v))]) (retQ zg4 Tryz.f38.results.toList [.d] fun rs os=>rs=z4g r∧os=z4h r)):=by
 constructor
 rw[z1pi v (fun rs os=>rs=z4g r∧os=z4h r)]
 unfold zis at h
 rcases z15 h with ⟨c1,h2⟩ | ⟨c1,h2⟩
 ·rcases z15 h2 with ⟨c3,h4⟩ | ⟨c3,h4⟩
  ·cases h4
   exact (z1j c1 (z1j c3 ⟨rfl,rfl⟩))
  ·cases h4
   exact (z1j c1 (zr (zk c3) ⟨rfl,rfl⟩))
 ·rcases z15 h2 with ⟨c5,h6⟩ | ⟨c5,h6⟩
  ·rcases z15 h6 with ⟨c7,h8⟩ | ⟨c7,h8⟩
   ·cases h8
    exact (zr (zk c1) (z1j c5 (z1j c7 ⟨rfl,rfl⟩)))
   ·rcases z15 h8 with ⟨c9,h10⟩ | ⟨c9,h10⟩
    ·cases h10
     exact (zr (zk c1) (z1j c5 (zr (zk c7) (z1j c9 ⟨rfl,rfl⟩))))
    ·cases h10
     exact (zr (zk c1) (z1j c5 (zr (zk c7) (zr (zk c9) ⟨rfl,rfl⟩))))
  ·rcases z15 h6 with ⟨c11,h12⟩ | ⟨c11,h12⟩
   ·rcases z15 h12 with ⟨c13,h14⟩ | ⟨c13,h14⟩
    ·cases h14
     exact (zr (zk c1) (zr (zk c5) (z1j c11 (z1j c13 ⟨rfl,rfl⟩))))
    ·cases h14
     exact (zr (zk c1) (zr (zk c5) (z1j c11 (zr (zk c13) ⟨rfl,rfl⟩))))
   ·rcases z15 h12 with ⟨c15,h16⟩ | ⟨c15,h16⟩
    ·rcases z15 h16 with ⟨c17,h18⟩ | ⟨c17,h18⟩
     ·cases h18
      exact (zr (zk c1) (zr (zk c5) (zr (zk c11) (z1j c15 (z1j c17 ⟨rfl,rfl⟩)))))
     ·cases h18
      exact (zr (zk c1) (zr (zk c5) (zr (zk c11) (z1j c15 (zr (zk c17) ⟨rfl,rfl⟩)))))
    ·cases h16
     exact (zr (zk c1) (zr (zk c5) (zr (zk c11) (zr (zk c15) ⟨rfl,rfl⟩))))
def zc3 (v:Val) : Bool:=zak v
@[simp] theorem z11c (v:Val) : zc3 v=zak v:=by unfold zc3;rfl
theorem z1gn (v:Val) (_hv:WS .val v) : zis v=some (zc3 v):=by
 unfold zis zc3 zak
 simp only[beq_iff_eq,z1ok,z1sq,z1pg]
 by_cases h0 : v.kind=0
 ·simp [h0];split<;>simp_all
 ·by_cases h1 : v.kind=1
  ·by_cases n0 : v.n=0
   ·simp [h1,n0]
   ·by_cases n1 : v.n=1
    ·simp [h1,n1]
    ·simp [h1,n0,n1]
  ·by_cases h2 : v.kind=2
   ·simp [h2]
    split<;>simp_all
   ·by_cases h3 : v.kind=3
    ·simp [h3];split<;>simp_all
    ·simp [h0,h1,h2,h3]
def zcu : FnC Un:=fun args=>match args with
 | [x0]=>(dS .val x0).bind fun v=>some ([],z4g (zc3 v),z4h (zc3 v))
 | _=>none
theorem z11d : FnOK 38 zcu:=by
 intro args ob rs os h hob
 unfold zcu at h
 split at h
 ·simp only[Option.bind_eq_some_iff,Option.some.injEq,Prod.mk.injEq] at h
  obtain⟨v,e0,rfl,rfl,rfl⟩:=h
  obtain rfl:=z18 e0
  exact⟨z2t (M:=zg4) rfl (zf (l1:=[(73,zx5),(74,zkr)]) (l2:=[]) (l3:=[]) (l4:=[]) (l5:=[]) ⟨z1z8,z1ph,trivial⟩ trivial trivial trivial trivial) Tryz.func38 (by kernel_rfl) zsr 0 [.d] (fun hwf=>z1lv (z1gn v (ze hwf (a:=.d (.agg (enc Ty.val v))) (List.mem_of_getElem? (i:=0) rfl)))),zb Tryz.func38 (by kernel_rfl) (by kernel_rfl)⟩
 ·simp at h
def zg5 : Mc Un:=mach (tbl [(83,zap),(135,zkq)]) (tbl []) (tbl []) (tbl []) (tbl [])
def zss : Nat→NS:=fun l=>(look l []).getD ⟨[],[],[],[],[],false⟩
def zcv (r:Int) : List (A Un):=[.c (.s (.int .i64 r))]
def zcw (_r:Int) : List (Ob Un):=[]
theorem z1pj (a:Val) (b:Val) (K:List (A Un)→List (Ob Un)→Prop) :
  awp zg5 zss (z8 Tryz.f82) (zg Tryz.f82.ntmps 0 [.d (.agg (enc Ty.val a)),.d (.agg (enc Ty.val b))]) (retQ zg5 Tryz.f82.results.toList [.d] K) =
(cnd (a.kind != b.kind)
 (K (zcv (z3w a.kind b.kind)) (zcw (z3w a.kind b.kind)))
 (cnd (a.n != b.n)
  (K (zcv (z3w a.n b.n)) (zcw (z3w a.n b.n)))
  (K (zcv (zaq a.s b.s)) (zcw (zaq a.s b.s))))):=by kernel_rfl
def zit (a:Val) (b:Val) : Option (Int) :=
  if (a.kind != b.kind)=true then
   some (z3w a.kind b.kind)
  else
   if (a.n != b.n)=true then
    some (z3w a.n b.n)
   else
    some (zaq a.s b.s)
theorem z1lw {a:Val} {b:Val} {r:Int} (h:zit a b=some r) : Runs (awp zg5 zss (z8 Tryz.f82) (zg Tryz.f82.ntmps 0 [.d (.agg (enc Ty.val a)),.d (.agg (enc Ty.val b))]) (retQ zg5 Tryz.f82.results.toList [.d] fun rs os=>rs=zcv r∧os=zcw r)):=by
 constructor
 rw[z1pj a b (fun rs os=>rs=zcv r∧os=zcw r)]
 unfold zit at h
 rcases z15 h with ⟨c1,h2⟩ | ⟨c1,h2⟩
 ·cases h2
  exact (z1j c1 ⟨rfl,rfl⟩)
 ·rcases z15 h2 with ⟨c3,h4⟩ | ⟨c3,h4⟩
  ·cases h4
   exact (zr (zk c1) (z1j c3 ⟨rfl,rfl⟩))
  ·cases h4
   exact (zr (zk c1) (zr (zk c3) ⟨rfl,rfl⟩))
def z8q (a b:Val) : Int:=ordV a b
@[simp] theorem z1pk (a b:Val) : z8q a b=ordV a b:=by unfold z8q;rfl
theorem z1go (a b:Val) (_ha:WS .val a) (_hb:WS .val b) : zit a b=some (z8q a b):=by
 unfold zit z8q ordV
 simp only[bne_iff_ne,ne_eq,ite_not,zy8,z1pd]
 split
 ·split<;>rfl
 ·rfl
def zks : FnC Un:=fun args=>match args with
 | [x0,x1]=>(dS .val x0).bind fun a=>(dS .val x1).bind fun b=>some ([],zcv (z8q a b),zcw (z8q a b))
 | _=>none
theorem z1pl : FnOK 82 zks:=by
 intro args ob rs os h hob
 unfold zks at h
 split at h
 ·simp only[Option.bind_eq_some_iff,Option.some.injEq,Prod.mk.injEq] at h
  obtain⟨a,e0,b,e1,rfl,rfl,rfl⟩:=h
  obtain rfl:=z18 e0
  obtain rfl:=z18 e1
  exact⟨z2t (M:=zg5) rfl (zf (l1:=[(83,zap),(135,zkq)]) (l2:=[]) (l3:=[]) (l4:=[]) (l5:=[]) ⟨zsq,z1pe,trivial⟩ trivial trivial trivial trivial) Tryz.func82 (by kernel_rfl) zss 0 [.d] (fun hwf=>z1lw (z1go a b (ze hwf (a:=.d (.agg (enc Ty.val a))) (List.mem_of_getElem? (i:=0) rfl)) (ze hwf (a:=.d (.agg (enc Ty.val b))) (List.mem_of_getElem? (i:=1) rfl)))),zb Tryz.func82 (by kernel_rfl) (by kernel_rfl)⟩
 ·simp at h
def z2x : Mc Un:=mach (tbl [(82,zks),(83,zap)]) (tbl []) (tbl []) (tbl []) (tbl [])
def z2y : Nat→NS:=fun l=>(look l [(2,{ ts:=[true,true,false,false,true,true,false,false,false,false,false,false,false,false,false,false,false,false,false,false,false,false,false,false,false,false,false,false,false,false,false,false,false,false,false,false,false,false,false,false,false,false],bs:=[false,false,false,false,false,false,false,false,false,false,false,false,false,false,false,false,false,false,false,false,false,false,false,false,false,false,false,false,false,false,false,false,false,false,false,false,false,false,false,false,false,false],nm:=[],gb:=[],gs:=[] })]).getD ⟨[],[],[],[],[],false⟩
def ze3 (r:Int) : List (A Un):=[.c (.s (.int .i64 r))]
def ze4 (_r:Int) : List (Ob Un):=[]
def z53 (a:List Val) (b:List Val) (v0:Int) : S Un:=(st 42 42 168 0 [(0,AV.one (A.c (C.sl Ty.val a false))),(1,AV.one (A.c (C.sl Ty.val b false))),(4,AV.one (A.c (C.s (Value.int IntKind.i64 (0:Int))))),(5,AV.one (A.c (C.s (Value.int IntKind.i64 v0))))] [] [])
def zbc (a:List Val) (b:List Val) (v0:Int) (v1:Int) : S Un:=(st 42 42 168 0 [(0,AV.one (A.c (C.sl Ty.val a false))),(1,AV.one (A.c (C.sl Ty.val b false))),(4,AV.one (A.c (C.s (Value.int IntKind.i64 v1)))),(5,AV.one (A.c (C.s (Value.int IntKind.i64 v0))))] [] [])
theorem z1lx (a:List Val) (b:List Val) (K:List (A Un)→List (Ob Un)→Prop) :
  awp z2x z2y (z8 Tryz.f43) (zg Tryz.f43.ntmps 0 [.d (.v (.dat (U:=Un) Ty.val a)),.d (.v (.dat (U:=Un) Ty.val b))]) (retQ z2x Tryz.f43.results.toList [.d] K) =
(z12 (z2y 2) (awp z2x z2y (sub (z8 Tryz.f43) [1,0,1,2,2])) (ctxK z2x z2y (z8 Tryz.f43) [1,0,1,2] (retQ z2x Tryz.f43.results.toList [.d] K)) (z53 a b (0:Int))):=by kernel_rfl
theorem zgh (a:List Val) (b:List Val) (v0:Int) (k:Nat) (Q:Exit→S Un→Prop) :
  z1o (z2y 2) (awp z2x z2y (sub (z8 Tryz.f43) [1,0,1,2,2])) Q (k+1) (z53 a b v0) =
(cnd (decide (v0<(↑a.length:Int)))
 (cnd (decide (v0<(↑b.length:Int)))
  (((0:Int)≤v0∧v0<(↑a.length:Int)) ∧
  (((0:Int)≤v0∧v0<(↑b.length:Int)) ∧
  (cnd (z8q (a.getD v0.toNat z7) (b.getD v0.toNat z7) != (0:Int))
   (((0:Int)≤v0∧v0<(↑a.length:Int)) ∧
   (((0:Int)≤v0∧v0<(↑b.length:Int)) ∧
   (Q .ret (zbc a b v0 (z8q (a.getD v0.toNat z7) (b.getD v0.toNat z7))))))
   (z1o (z2y 2) (awp z2x z2y (sub (z8 Tryz.f43) [1,0,1,2,2])) Q k (z53 a b (IntKind.i64.wrap (v0+(1:Int))))))))
  (Q (.exit 0) (z53 a b v0)))
 (Q (.exit 0) (z53 a b v0))):=by kernel_rfl
theorem z14k (a:List Val) (b:List Val) (v0:Int) (v1:Int) (K:List (A Un)→List (Ob Un)→Prop) :
  ctxK z2x z2y (z8 Tryz.f43) [1,0,1,2] (retQ z2x Tryz.f43.results.toList [.d] K) .ret (zbc a b v0 v1) =
(K (ze3 (v1)) (ze4 (v1))):=by kernel_rfl
theorem z198 (a:List Val) (b:List Val) (v0:Int) (K:List (A Un)→List (Ob Un)→Prop) :
  ctxK z2x z2y (z8 Tryz.f43) [1,0,1,2] (retQ z2x Tryz.f43.results.toList [.d] K) (.exit 0) (z53 a b v0) =
(K (ze3 (z3w (↑a.length:Int) (↑b.length:Int))) (ze4 (z3w (↑a.length:Int) (↑b.length:Int)))):=by kernel_rfl
def z8d (a:List Val) (b:List Val) (v:Int) : Option ((Int) ⊕ ((Int×Int) ⊕ (Int))) :=
  if (decide (v<(↑a.length:Int)))=true then
   if (decide (v<(↑b.length:Int)))=true then
    if (0:Int)≤v∧v<(↑a.length:Int) then
     if (0:Int)≤v∧v<(↑b.length:Int) then
      if (z8q (a.getD v.toNat z7) (b.getD v.toNat z7) != (0:Int))=true then
       if (0:Int)≤v∧v<(↑a.length:Int) then
        if (0:Int)≤v∧v<(↑b.length:Int) then
         some (.inr (.inl (v,(z8q (a.getD v.toNat z7) (b.getD v.toNat z7)))))
        else none
       else none
      else
       some (.inl (IntKind.i64.wrap (v+(1:Int))))
     else none
    else none
   else
    some (.inr (.inr v))
  else
   some (.inr (.inr v))
def zco (a:List Val) (b:List Val) (v:Int) : Option ((Int×Int) ⊕ (Int)):=zca (z8d a b) v
theorem zh6 (a:List Val) (b:List Val) (v:Int) : zco a b v=zkj (zco a b) (z8d a b v):=zon _ _
def zgi (a:List Val) (b:List Val) (r:(Int×Int) ⊕ (Int)) (Q:Exit→S Un→Prop) : Prop:=match r with | .inl x=>Q .ret (zbc a b x.1 x.2) | .inr x=>Q (.exit 0) (z53 a b x)
theorem z14l {a:List Val} {b:List Val} {x:Int×Int} {Q:Exit→S Un→Prop} (h:Q .ret (zbc a b x.1 x.2)) : zgi a b (.inl x) Q:=h
theorem z199 {a:List Val} {b:List Val} {x:Int} {Q:Exit→S Un→Prop} (h:Q (.exit 0) (z53 a b x)) : zgi a b (.inr x) Q:=h
theorem zn2 {a:List Val} {b:List Val} {v:Int} {r:(Int×Int) ⊕ (Int)} (h:zco a b v=some r) (Q:Exit→S Un→Prop) (hQ:zgi a b r Q) : z12 (z2y 2) (awp z2x z2y (sub (z8 Tryz.f43) [1,0,1,2,2])) Q (z53 a b v):=by
 refine @zoo _ _ (z8d a b) (fun v=>z12 (z2y 2) (awp z2x z2y (sub (z8 Tryz.f43) [1,0,1,2,2])) Q (z53 a b v)) (fun r=>zgi a b r Q) ?_ v r h hQ
 intro v o h hI
 unfold z8d at h
 rcases z15 h with ⟨c1,h2⟩ | ⟨c1,h2⟩
 ·rcases z15 h2 with ⟨c3,h4⟩ | ⟨c3,h4⟩
  ·obtain⟨c5,h6⟩:=z8z h4
   obtain⟨c7,h8⟩:=z8z h6
   rcases z15 h8 with ⟨c9,h10⟩ | ⟨c9,h10⟩
   ·obtain⟨c11,h12⟩:=z8z h10
    obtain⟨c13,h14⟩:=z8z h12
    cases h14
    exact z4u 1 (mpr (zgh a b v 0 Q) (z1j c1 (z1j c3 (And.intro c5 (And.intro c7 (z1j c9 (And.intro c11 (And.intro c13 hI))))))))
   ·cases h10
    obtain⟨k15,hk16⟩:=znc hI
    exact z4u (k15+1) (mpr (zgh a b v k15 Q) (z1j c1 (z1j c3 (And.intro c5 (And.intro c7 (zr (zk c9) hk16))))))
  ·cases h4
   exact z4u 1 (mpr (zgh a b v 0 Q) (z1j c1 (zr (zk c3) hI)))
 ·cases h2
  exact z4u 1 (mpr (zgh a b v 0 Q) (zr (zk c1) hI))
def zgj (a:List Val) (b:List Val) : Option (Int) :=
  (zco a b (0:Int)) >>= fun o17=>match o17 with
   | .inl o18 =>
     some (o18.2)
   | .inr o19 =>
     some (z3w (↑a.length:Int) (↑b.length:Int))
theorem z1gp {a:List Val} {b:List Val} {r:Int} (h:zgj a b=some r) : Runs (awp z2x z2y (z8 Tryz.f43) (zg Tryz.f43.ntmps 0 [.d (.v (.dat (U:=Un) Ty.val a)),.d (.v (.dat (U:=Un) Ty.val b))]) (retQ z2x Tryz.f43.results.toList [.d] fun rs os=>rs=ze3 r∧os=ze4 r)):=by
 constructor
 rw[z1lx a b (fun rs os=>rs=ze3 r∧os=ze4 r)]
 unfold zgj at h
 obtain⟨o20,ho21,h22⟩:=bind_some h
 rcases o20 with o23 | o24
 ·cases h22
  exact (zn2 ho21 _ (z14l (mpr (z14k a b o23.1 o23.2 _) ⟨rfl,rfl⟩)))
 ·cases h22
  exact (zn2 ho21 _ (z199 (mpr (z198 a b o24 _) ⟨rfl,rfl⟩)))
def z6p (a b:List Val) : Int:=ordR a b
@[simp] theorem z1ly (a b:List Val) : z6p a b=ordR a b:=by unfold z6p;rfl
theorem z1cd (a b:List Val) (ha:WL .val a) (hb:WL .val b) : ∀ (ra rb:List Val) (i:Nat),a.drop i=ra→b.drop i=rb→i≤a.length→i≤b.length →
  ∃ o,zco a b i=some o∧(match o with | .inl o=>o.2 | .inr _=>cmpI a.length b.length)=ordR ra rb:=by
 intro ra
 induction ra with
 | nil =>
  intro rb i h1 h2 h3 h4
  have e1:=zh4 h1;have e2:=zh4 h2
  simp only[List.length_nil] at e1
  have hn:¬ ((i:Int)<a.length):=by omega
  refine⟨.inr i,by rw[zh6,z8d];simp [hn],?_⟩
  simp only
  cases rb with
  | nil=>simp at e2;unfold cmpI ordR;rw[if_neg (by omega),if_neg (by omega)]
  | cons y rb=>simp at e2;unfold cmpI ordR;rw[if_pos (by omega)]
 | cons x ra ih =>
  intro rb i h1 h2 h3 h4
  obtain⟨a1,a2,a3,_⟩:=z31 h1
  have hp:(i:Int)<a.length:=by omega
  cases rb with
  | nil =>
   have e2:=zh4 h2
   simp only[List.length_nil] at e2
   have hn:¬ ((i:Int)<b.length):=by omega
   refine⟨.inr i,by rw[zh6,z8d];simp [hn,hp],?_⟩
   simp only;unfold cmpI ordR;rw[if_neg (by omega),if_pos (by omega)]
  | cons y rb =>
   obtain⟨b1,b2,b3,_⟩:=z31 h2
   have hq:(i:Int)<b.length:=by omega
   have hi:(0:Int)≤i:=by omega
   rw[zh6,z8d]
   simp only[hp,hq,hi,decide_true,if_true,true_and,and_self,Int.toNat_natCast,a2,b2,bne_iff_ne,ne_eq,ite_not,z1pk]
   by_cases hxy : ordV x y=0
   ·rw[if_pos hxy,zqd a1 ha.len]
    simpa only [ordR,hxy,if_true,zlv] using ih rb (i+1) a3 b3 (by omega) (by omega)
   ·exact⟨_,by rw[if_neg hxy,zhi],by simp only[ordR,hxy,if_false]⟩
theorem z1ce (a b:List Val) (ha:WL .val a) (hb:WL .val b) : zgj a b=some (z6p a b):=by
 obtain⟨o,ho,e⟩:=z1cd a b ha hb _ _ 0 rfl rfl (by omega) (by omega)
 unfold zgj z6p
 rw[show (0:Int)=((0:Nat):Int) from rfl,ho]
 simp only[List.drop_zero] at e
 rw[← e]
 cases o<;>simp
def zbf : FnC Un:=fun args=>match args with
 | [x0,x1]=>(dL .val x0).bind fun a=>(dL .val x1).bind fun b=>some ([],ze3 (z6p a b),ze4 (z6p a b))
 | _=>none
theorem zy9 : FnOK 43 zbf:=by
 intro args ob rs os h hob
 unfold zbf at h
 split at h
 ·simp only[Option.bind_eq_some_iff,Option.some.injEq,Prod.mk.injEq] at h
  obtain⟨a,e0,b,e1,rfl,rfl,rfl⟩:=h
  obtain rfl:=z1i e0
  obtain rfl:=z1i e1
  exact⟨z2t (M:=z2x) rfl (zf (l1:=[(82,zks),(83,zap)]) (l2:=[]) (l3:=[]) (l4:=[]) (l5:=[]) ⟨z1pl,zsq,trivial⟩ trivial trivial trivial trivial) Tryz.func43 (by kernel_rfl) z2y 0 [.d] (fun hwf=>z1gp (z1ce a b (ze hwf (a:=.d (.v (.dat (U:=Un) Ty.val a))) (List.mem_of_getElem? (i:=0) rfl)) (ze hwf (a:=.d (.v (.dat (U:=Un) Ty.val b))) (List.mem_of_getElem? (i:=1) rfl)))),zb Tryz.func43 (by kernel_rfl) (by kernel_rfl)⟩
 ·simp at h
end
end Go.Proofs.YtjfpbchdcbhfgaaGreat.B
namespace Go.Proofs.YtjfpbchdcbhfgaaGreat.B
open Go Go.RowKit
set_option maxRecDepth 100000
noncomputable section
attribute [local irreducible] awp ctxK z12 z1o retQ z2i awf ctxF zt
noncomputable def deq {α:Type} (a b:α) : Bool:=@decide (a=b) (Classical.propDecidable _)
theorem deq_iff {α:Type} {a b:α} : deq a b=true↔a=b:=by unfold deq;exact @decide_eq_true_iff _ (Classical.propDecidable _)
theorem z1cf {α:Type} {a b:α} {x:Bool} (h:x=true↔a=b) : x=deq a b:=by
 rw[Bool.eq_iff_iff,h,deq_iff]
theorem z21m {α β:Type} {L:S Un→Option (EX Un)} {st:Int→S Un} {C:Exit→S Un→Option β} (R:Bool→Option β) {a b:List α} {d:α} {e:Exit} (hl:a.length≤9223372036854775807)
  (step:∀ i : Nat,i<a.length→i<b.length→L (st i)=if deq (a.getD i d) (b.getD i d)=true then L (st (IntKind.i64.wrap ((i:Int)+1))) else some (.ret,st i))
  (stop:∀ i : Nat,¬ (i<a.length∧i<b.length)→L (st i)=some (e,st i)) (cr:∀ i : Nat,C .ret (st i)=R false) (ce:∀ i : Nat,C e (st i)=R ((a.length:Int) == (b.length:Int))) : (L (st (0:Int))).bind (zx C)=R (deq a b):=by
 have key:∀ (k i:Nat),i+k=a.length→i≤b.length→(L (st i)).bind (zx C)=R (deq (a.drop i) (b.drop i)):=by
  intro k
  induction k with
  | zero =>
   intro i hi hb
   obtain rfl : i=a.length:=by omega
   rw[zn (stop _ (by omega)),ce]
   congr 1
   refine z1cf ?_
   rw[List.drop_length,beq_iff_eq]
   constructor
   ·intro h;rw[List.drop_eq_nil_of_le (by omega)]
   ·intro h
    have:=congrArg List.length h
    rw[List.length_drop,List.length_nil] at this;omega
  | succ k ih =>
   intro i hi hb
   have h1:i<a.length:=by omega
   by_cases h2 : i<b.length
   ·have ga:a.getD i d=a[i]:=by rw[List.getD_eq_getElem?_getD,List.getElem?_eq_getElem h1];rfl
    have gb:b.getD i d=b[i]:=by rw[List.getD_eq_getElem?_getD,List.getElem?_eq_getElem h2];rfl
    have hs:=step i h1 h2
    rw[ga,gb] at hs
    rw[List.drop_eq_getElem_cons h1,List.drop_eq_getElem_cons h2]
    by_cases hq : deq a[i] b[i]=true
    ·rw[if_pos hq,z4v h1 hl] at hs
     rw[hs,ih (i+1) (by omega) (by omega)]
     rw[deq_iff] at hq
     congr 1
     refine z1cf ?_
     rw[deq_iff,hq]
     exact⟨fun h=>by rw[h],fun h=>(List.cons.inj h).2⟩
    ·rw[if_neg hq] at hs
     rw[zn hs,cr]
     congr 1
     refine z1cf ?_
     rw[deq_iff] at hq
     exact⟨fun h=>absurd h (by decide),fun h=>absurd (List.cons.inj h).1 hq⟩
   ·rw[zn (stop _ (by omega)),ce]
    congr 1
    refine z1cf ?_
    rw[beq_iff_eq]
    constructor
    ·intro h;omega
    ·intro h
     have:=congrArg List.length h
     rw[List.length_drop,List.length_drop] at this;omega
 exact key a.length 0 (by omega) (by omega)
theorem z1ud (x y:List Val) : (z6p x y != 0)=!deq x y:=by
 rw[Bool.eq_iff_iff,bne_iff_ne,Bool.not_eq_true',← Bool.not_eq_true,deq_iff,z1ly,ne_eq,ordR_zero]
end
end Go.Proofs.YtjfpbchdcbhfgaaGreat.B
namespace Go.Proofs
open Go.Shelf
def Tryz.lays106_ren : Go.Shelf.Ren:=⟨fun | 106=>194 | 213=>229 | 265=>245 | n=>n,fun | 9=>9 | 3=>3 | n=>n,fun | n=>n⟩
theorem Tryz.lays106 : Go.Proofs.Lays.n106 Tryz.prog Tryz.lays106_ren:={
  mixed:=by kernel_rfl
  f106:=Tryz.func194.trans (congrArg some (by kernel_rfl))
  f213:=Tryz.func229.trans (congrArg some (by kernel_rfl))
  f265:=Tryz.func245.trans (congrArg some (by kernel_rfl))
  t3:=Tryz.underlying3
  a3:=Tryz.isAgg3
  z3:=Tryz.sizeOf3
  v3:=Tryz.zeroValue3
  t9:=Tryz.underlying9
  a9:=Tryz.isAgg9
  z9:=Tryz.sizeOf9
  v9:=Tryz.zeroValue9 }
open Go.RowKit in
theorem Tryz.strings_Compare (a b:ByteArray) (w:World) :
  Calls Tryz.prog 194 #[.string a,.string b] w fun e w'=>e=.returned (.int .i64 (Lib.compareBytes a.data.toList b.data.toList))∧w'=w:=Any.strings_Compare Tryz.lays106 a b w
def Tryz.lays137_ren : Go.Shelf.Ren:=⟨fun | 137=>235 | 217=>246 | 266=>251 | n=>n,fun | 9=>9 | 5=>5 | 3=>3 | n=>n,fun | n=>n⟩
theorem Tryz.lays137 : Go.Proofs.Lays.n137 Tryz.prog Tryz.lays137_ren:={
  mixed:=by kernel_rfl
  f137:=Tryz.func235.trans (congrArg some (by kernel_rfl))
  f217:=Tryz.func246.trans (congrArg some (by kernel_rfl))
  f266:=Tryz.func251.trans (congrArg some (by kernel_rfl))
  t3:=Tryz.underlying3
  a3:=Tryz.isAgg3
  z3:=Tryz.sizeOf3
  v3:=Tryz.zeroValue3
  t5:=Tryz.underlying5
  a5:=Tryz.isAgg5
  z5:=Tryz.sizeOf5
  v5:=Tryz.zeroValue5
  t9:=Tryz.underlying9
  a9:=Tryz.isAgg9
  z9:=Tryz.sizeOf9
  v9:=Tryz.zeroValue9 }
open Go.RowKit in
theorem Tryz.strings_IndexByte (s:ByteArray) (c:Int) (w:World) :
  Calls Tryz.prog 235 #[.string s,.int .u8 c] w fun e w'=>e=.returned (.int .i64 (Lib.indexByte s.data.toList c.toNat.toUInt8))∧w'=w:=Any.strings_IndexByte Tryz.lays137 s c w
def Tryz.laysGw15_ren : Go.Shelf.Ren:=⟨fun | 15=>247 | 20=>252 | n=>n,fun | 9=>9 | 23=>221 | 3=>3 | 4=>4 | 0=>0 | 21=>21 | n=>n,fun | n=>n⟩
theorem Tryz.laysGw15 : Go.Proofs.LaysGw.n15 Tryz.prog Tryz.laysGw15_ren:={
  mixed:=by kernel_rfl
  f15:=Tryz.func247.trans (congrArg some (by kernel_rfl))
  f20:=Tryz.func252.trans (congrArg some (by kernel_rfl))
  t0:=Tryz.underlying0
  a0:=Tryz.isAgg0
  z0:=Tryz.sizeOf0
  v0:=Tryz.zeroValue0
  i0:=by kernel_rfl
  t3:=Tryz.underlying3
  a3:=Tryz.isAgg3
  z3:=Tryz.sizeOf3
  v3:=Tryz.zeroValue3
  i3:=by kernel_rfl
  t4:=Tryz.underlying4
  a4:=Tryz.isAgg4
  z4:=Tryz.sizeOf4
  v4:=Tryz.zeroValue4
  i4:=by kernel_rfl
  t9:=Tryz.underlying9
  a9:=Tryz.isAgg9
  z9:=Tryz.sizeOf9
  v9:=Tryz.zeroValue9
  i9:=by kernel_rfl
  t21:=Tryz.underlying21
  a21:=Tryz.isAgg21
  z21:=Tryz.sizeOf21
  v21:=Tryz.zeroValue21
  i21:=by kernel_rfl
  t23:=Tryz.underlying221
  a23:=Tryz.isAgg221
  z23:=Tryz.sizeOf221
  v23:=Tryz.zeroValue221
  i23:=by kernel_rfl }
open Go.RowKit Go.Lib in
theorem Tryz.strings_IndexFunc (g:Nat) (lb:Array Value) (eg:∀ args w,(callFunc g args).run Tryz.prog w=.ok (.enter g args) w) (p:Nat→Bool) (s:ByteArray) (w:World) (hp:PredAt Tryz.prog g lb encR p w) :
  Calls Tryz.prog 247 #[.string s,.func (.func g) #[] lb] w fun e w'=>e=.returned (.int .i64 (Lib.idxFunc p true s))∧Below w.heap.size w w':=Any.strings_IndexFunc Tryz.laysGw15 g lb eg p s w hp
def Tryz.lays107_ren : Go.Shelf.Ren:=⟨fun | 107=>206 | 108=>234 | n=>n,fun | 28=>42 | 3=>3 | 4=>4 | 0=>0 | n=>n,fun | n=>n⟩
theorem Tryz.lays107 : Go.Proofs.Lays.n107 Tryz.prog Tryz.lays107_ren:={
  mixed:=by kernel_rfl
  f107:=Tryz.func206.trans (congrArg some (by kernel_rfl))
  f108:=Tryz.func234.trans (congrArg some (by kernel_rfl))
  t0:=Tryz.underlying0
  a0:=Tryz.isAgg0
  z0:=Tryz.sizeOf0
  v0:=Tryz.zeroValue0
  t3:=Tryz.underlying3
  a3:=Tryz.isAgg3
  z3:=Tryz.sizeOf3
  v3:=Tryz.zeroValue3
  t4:=Tryz.underlying4
  a4:=Tryz.isAgg4
  z4:=Tryz.sizeOf4
  v4:=Tryz.zeroValue4
  t28:=Tryz.underlying42
  a28:=Tryz.isAgg42
  z28:=Tryz.sizeOf42
  v28:=Tryz.zeroValue42 }
open Go.Lib in
theorem Tryz.slices_Contains_int (b off n c:Nat) (zs:List Int) (x:Int) (w:World) (hz:n≤zs.length) (hbig:n≤9223372036854775807) (hc:∀ j,j<zs.length→w.cell? ⟨b,off+j,none⟩=some (.int .i64 (zs.getD j 0))) :
  Calls Tryz.prog 206 #[.slice (some ⟨b,off,none⟩) n c,.int .i64 x] w fun e w'=>e=.returned (.bool ((zs.take n).contains x))∧w'=w:=Any.slices_Contains_int Tryz.lays107 b off n c zs x w hz hbig hc
end Go.Proofs
namespace Go.Proofs.YtjfpbchdcbhfgaaGreat.B
open Go Go.RowKit
set_option maxRecDepth 1000000
def idxB (s:ByteArray) (c:Int) : Int:=Lib.indexByte s.data.toList c.toNat.toUInt8
theorem z11e : ∀ (l:List UInt8) (c:UInt8),Lib.indexByte l c≤l.length
 | [],_=>by simp [Lib.indexByte]
 | b::l,c=>by
  have:=z11e l c
  unfold Lib.indexByte
  rw[List.length_cons]
  repeat' split
  all_goals omega
theorem z1wg (s:ByteArray) (c:Int) : -1≤idxB s c∧idxB s c≤s.size:=by
 unfold idxB
 have h1:=Lib.indexByte_ge s.data.toList c.toNat.toUInt8
 have h2:=z11e s.data.toList c.toNat.toUInt8
 rw[Array.length_toList] at h2
 exact⟨h1,h2⟩
def z9t : FnC Un:=fun args=>match args with
 | [x0,x1]=>(dStr x0).bind fun s=>(dI .u8 x1).bind fun c=>some ([],[.c (.s (.int .i64 (idxB s c)))],[])
 | _=>none
theorem zx7 : FnOK 235 z9t:=by
 intro args ob rs os h hob
 unfold z9t at h
 split at h
 ·rename_i x0 x1
  simp only[Option.bind_eq_some_iff,Option.some.injEq,Prod.mk.injEq] at h
  obtain⟨s,e0,c,e1,rfl,rfl,rfl⟩:=h
  obtain rfl:=z57 e0
  obtain rfl:=z1t e1
  refine⟨?_,zb Tryz.func235 (by kernel_rfl) (by kernel_rfl)⟩
  have hx:=z1wg s c
  by_cases hr : s.size≤9223372036854775807
  ·refine zqg (oneC_i64.2 (by omega)) fun w vs St hvs=>?_
   match vs,hvs with
   | [v0,v1],⟨h0,h1,_⟩ =>
    obtain⟨rfl,-⟩:=zos h0
    obtain⟨rfl,-⟩:=zot h1
    exact Tryz.strings_IndexByte s c w
  ·intro w St vs hbd hvs hld
   match vs,hvs with
   | [v0,v1],⟨h0,h1,_⟩ =>
    obtain⟨rfl,g0⟩:=zos h0
    exact absurd g0 hr
 ·simp at h
end Go.Proofs.YtjfpbchdcbhfgaaGreat.B
