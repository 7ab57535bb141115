/- Part 7 of the proof: Sref03 Sr15w Sref15v. -/
import Derived.Test.YtjfpbchdcbhfgaaGreatNth6
set_option linter.unusedVariables false
set_option linter.unusedSimpArgs false
namespace Go.Proofs.YtjfpbchdcbhfgaaGreat
namespace B
open Go Go.RowKit
set_option maxRecDepth 100000
noncomputable section
attribute [local irreducible] awp ctxK zu z1d retQ z1p
theorem z2eb (n:Int) (K:List (A Un)→List (Ob Un)→Prop) :
  awp z1du z262 (ze Tryz.f73) (z2j Tryz.f73.ntmps 0 [.d (.v (.s (.int .i64 n)))]) (retQ z1du Tryz.f73.results.toList [.d] K) =
(cnd (decide (n≥(-1000000000000000:Int)))
 (K (zur (decide (n≤(1000000000000000:Int)))) (zus (decide (n≤(1000000000000000:Int)))))
 (K (zur (false)) (zus (false)))):=by kernel_rfl
theorem z2al {n:Int} {r:Bool} (h:zwt n=some r) : Runs (awp z1du z262 (ze Tryz.f73) (z2j Tryz.f73.ntmps 0 [.d (.v (.s (.int .i64 n)))]) (retQ z1du Tryz.f73.results.toList [.d] fun rs os=>rs=zur r∧os=zus r)):=by
 constructor;rw[z2eb n (fun rs os=>rs=zur r∧os=zus r)];unfold zwt at h;rcases z15 h with ⟨c1,h2⟩ | ⟨c1,h2⟩
 ·cases h2;exact (z1h c1 ⟨rfl,rfl⟩)
 ·cases h2;exact (zw (zj c1) ⟨rfl,rfl⟩)
theorem z2ed : FnOK 73 zc7:=fnK1 z1c (M:=z1du) rfl trivial trivial trivial trivial trivial Tryz.func73 fun n=>fun _ _=>z2al (z2e7 n)
theorem z265 (a:Int) (b:Int) (K:List (A Un)→List (Ob Un)→Prop) :
  awp z1du z262 (ze Tryz.f83) (z2j Tryz.f83.ntmps 0 [.d (.v (.s (.int .i64 a))),.d (.v (.s (.int .i64 b)))]) (retQ z1du Tryz.f83.results.toList [.d] K) =
(cnd (decide (a<b))
 (K (zav ((-1:Int))) (zaw ((-1:Int))))
 (cnd (decide (a > b))
  (K (zav ((1:Int))) (zaw ((1:Int))))
  (K (zav ((0:Int))) (zaw ((0:Int)))))):=by kernel_rfl
def zp6 (a:Int) (b:Int) : Option (Int) :=
  if (decide (a<b))=true then
   some ((-1:Int))
  else
   if (decide (a > b))=true then
    some ((1:Int))
   else
    some ((0:Int))
theorem z215 {a:Int} {b:Int} {r:Int} (h:zp6 a b=some r) : Runs (awp z1du z262 (ze Tryz.f83) (z2j Tryz.f83.ntmps 0 [.d (.v (.s (.int .i64 a))),.d (.v (.s (.int .i64 b)))]) (retQ z1du Tryz.f83.results.toList [.d] fun rs os=>rs=zav r∧os=zaw r)):=by
 constructor;rw[z265 a b (fun rs os=>rs=zav r∧os=zaw r)];unfold zp6 at h;rcases z15 h with ⟨c1,h2⟩ | ⟨c1,h2⟩
 ·cases h2;exact (z1h c1 ⟨rfl,rfl⟩)
 ·rcases z15 h2 with ⟨c3,h4⟩ | ⟨c3,h4⟩
  ·cases h4;exact (zw (zj c1) (z1h c3 ⟨rfl,rfl⟩))
  ·cases h4;exact (zw (zj c1) (zw (zj c3) ⟨rfl,rfl⟩))
def z3p (a:Int) (b:Int) : Int :=
  if (decide (a<b))=true then
   ((-1:Int))
  else
   if (decide (a > b))=true then
    ((1:Int))
   else
    ((0:Int))
theorem z266 (a:Int) (b:Int) : zp6 a b=some (z3p a b):=by unfold zp6 z3p;repeat (first | rfl | split)
def zt2 : FnC Un:=fnF2 (dI .i64) (dI .i64) fun a b=>([],zav (z3p a b),zaw (z3p a b))
theorem zyw : FnOK 83 zt2:=fnK2 z1c z1c (M:=z1du) rfl trivial trivial trivial trivial trivial Tryz.func83 fun a b=>fun _ _=>z215 (z266 a b)
@[simp] theorem z14j (a b:Int) : z3p a b=cmpI a b:=by
 unfold z3p cmpI;simp only[decide_eq_true_eq]
def z34 : Mc Un:=mcF_ [(83,zt2)] [] [] [] []
def z3g : Nat→NS:=nsF_ [(2,{ ts:=[true,true,false,false,true,true,false,false,false,false,false,false,false,false,false,false,false,false,false,false,false,false,false,false,false,false,false,false,false,false,false,false,false,false,false,false,false,false,false],bs:=[false,false,false,false,false,false,false,false,false,false,false,false,false,false,false,false,false,false,false,false,false,false,false,false,false,false,false,false,false,false,false,false,false,false,false,false,false,false,false],nm:=[],gb:=[],gs:=[] })] false
def z5e (a:ByteArray) (b:ByteArray) (v0:Int) : S Un:=(st 39 39 156 0 [(0,AV.one (A.c (C.s (Value.string a)))),(1,AV.one (A.c (C.s (Value.string b)))),(4,AV.one (A.c (C.s (Value.int IntKind.i64 (0:Int))))),(5,AV.one (A.c (C.s (Value.int IntKind.i64 v0))))] [] [])
def zdw (a:ByteArray) (b:ByteArray) (v0:Int) (v1:Int) : S Un:=(st 39 39 156 0 [(0,AV.one (A.c (C.s (Value.string a)))),(1,AV.one (A.c (C.s (Value.string b)))),(4,AV.one (A.c (C.s (Value.int IntKind.i64 v1)))),(5,AV.one (A.c (C.s (Value.int IntKind.i64 v0))))] [] [])
theorem z216 (a:ByteArray) (b:ByteArray) (K:List (A Un)→List (Ob Un)→Prop) :
  awp z34 z3g (ze Tryz.f135) (z2j Tryz.f135.ntmps 0 [.d (.v (cs a)),.d (.v (cs b))]) (retQ z34 Tryz.f135.results.toList [.d] K) =
(zu (z3g 2) (awp z34 z3g (sub (ze Tryz.f135) [1,0,1,2,2])) (ctxK z34 z3g (ze Tryz.f135) [1,0,1,2] (retQ z34 Tryz.f135.results.toList [.d] K)) (z5e a b (0:Int))):=by kernel_rfl
theorem zle (a:ByteArray) (b:ByteArray) (v0:Int) (k:Nat) (Q:Exit→S Un→Prop) :
  z1d (z3g 2) (awp z34 z3g (sub (ze Tryz.f135) [1,0,1,2,2])) Q (k+1) (z5e a b v0) =
(cnd (decide (v0<(↑a.size:Int)))
 (cnd (decide (v0<(↑b.size:Int)))
  (((0:Int)≤v0∧v0<(↑a.size:Int)) ∧
  (((0:Int)≤v0∧v0<(↑b.size:Int)) ∧
  (cnd ((↑(a.toList.getD v0.toNat (0:UInt8)).toNat:Int) != (↑(b.toList.getD v0.toNat (0:UInt8)).toNat:Int))
   (((0:Int)≤v0∧v0<(↑a.size:Int)) ∧
   (((0:Int)≤v0∧v0<(↑b.size:Int)) ∧
   (Q .ret (zdw a b v0 (z3p (IntKind.i64.wrap (↑(a.toList.getD v0.toNat (0:UInt8)).toNat:Int)) (IntKind.i64.wrap (↑(b.toList.getD v0.toNat (0:UInt8)).toNat:Int)))))))
   (z1d (z3g 2) (awp z34 z3g (sub (ze Tryz.f135) [1,0,1,2,2])) Q k (z5e a b (IntKind.i64.wrap (v0+(1:Int))))))))
  (Q (.exit 0) (z5e a b v0)))
 (Q (.exit 0) (z5e a b v0))):=by kernel_rfl
theorem z1hk (a:ByteArray) (b:ByteArray) (v0:Int) (v1:Int) (K:List (A Un)→List (Ob Un)→Prop) :
  ctxK z34 z3g (ze Tryz.f135) [1,0,1,2] (retQ z34 Tryz.f135.results.toList [.d] K) .ret (zdw a b v0 v1) =
(K (zav (v1)) (zaw (v1))):=by kernel_rfl
theorem z1l9 (a:ByteArray) (b:ByteArray) (v0:Int) (K:List (A Un)→List (Ob Un)→Prop) :
  ctxK z34 z3g (ze Tryz.f135) [1,0,1,2] (retQ z34 Tryz.f135.results.toList [.d] K) (.exit 0) (z5e a b v0) =
(K (zav (z3p (↑a.size:Int) (↑b.size:Int))) (zaw (z3p (↑a.size:Int) (↑b.size:Int)))):=by kernel_rfl
def zag (a:ByteArray) (b:ByteArray) (v:Int) : Option ((Int) ⊕ ((Int×Int) ⊕ (Int))) :=
  if (decide (v<(↑a.size:Int)))=true then
   if (decide (v<(↑b.size:Int)))=true then
    if (0:Int)≤v∧v<(↑a.size:Int) then
     if (0:Int)≤v∧v<(↑b.size:Int) then
      if ((↑(a.toList.getD v.toNat (0:UInt8)).toNat:Int) != (↑(b.toList.getD v.toNat (0:UInt8)).toNat:Int))=true then
       if (0:Int)≤v∧v<(↑a.size:Int) then
        if (0:Int)≤v∧v<(↑b.size:Int) then
         some (.inr (.inl (v,(z3p (IntKind.i64.wrap (↑(a.toList.getD v.toNat (0:UInt8)).toNat:Int)) (IntKind.i64.wrap (↑(b.toList.getD v.toNat (0:UInt8)).toNat:Int))))))
        else none
       else none
      else
       some (.inl (IntKind.i64.wrap (v+(1:Int))))
     else none
    else none
   else
    some (.inr (.inr v))
  else
   some (.inr (.inr v))
def zfp (a:ByteArray) (b:ByteArray) (v:Int) : Option ((Int×Int) ⊕ (Int)):=zdv (zag a b) v
theorem zlf (a:ByteArray) (b:ByteArray) (v:Int) : zfp a b v=zp4 (zfp a b) (zag a b v):=zuo _ _
def zlg (a:ByteArray) (b:ByteArray) (r:(Int×Int) ⊕ (Int)) (Q:Exit→S Un→Prop) : Prop:=match r with | .inl x=>Q .ret (zdw a b x.1 x.2) | .inr x=>Q (.exit 0) (z5e a b x)
theorem z1hl {a:ByteArray} {b:ByteArray} {x:Int×Int} {Q:Exit→S Un→Prop} (h:Q .ret (zdw a b x.1 x.2)) : zlg a b (.inl x) Q:=h
theorem z1la {a:ByteArray} {b:ByteArray} {x:Int} {Q:Exit→S Un→Prop} (h:Q (.exit 0) (z5e a b x)) : zlg a b (.inr x) Q:=h
theorem zuw {a:ByteArray} {b:ByteArray} {v:Int} {r:(Int×Int) ⊕ (Int)} (h:zfp a b v=some r) (Q:Exit→S Un→Prop) (hQ:zlg a b r Q) : zu (z3g 2) (awp z34 z3g (sub (ze Tryz.f135) [1,0,1,2,2])) Q (z5e a b v):=by
 refine @zup _ _ (zag a b) (fun v=>zu (z3g 2) (awp z34 z3g (sub (ze Tryz.f135) [1,0,1,2,2])) Q (z5e a b v)) (fun r=>zlg a b r Q) ?_ v r h hQ;intro v o h hI;unfold zag at h;rcases z15 h with ⟨c1,h2⟩ | ⟨c1,h2⟩
 ·rcases z15 h2 with ⟨c3,h4⟩ | ⟨c3,h4⟩
  ·obtain⟨c5,h6⟩:=z9w h4;obtain⟨c7,h8⟩:=z9w h6;rcases z15 h8 with ⟨c9,h10⟩ | ⟨c9,h10⟩
   ·obtain⟨c11,h12⟩:=z9w h10;obtain⟨c13,h14⟩:=z9w h12;cases h14;exact z4s 1 (mpr (zle a b v 0 Q) (z1h c1 (z1h c3 (And.intro c5 (And.intro c7 (z1h c9 (And.intro c11 (And.intro c13 hI))))))))
   ·cases h10;obtain⟨k15,hk16⟩:=zt0 hI;exact z4s (k15+1) (mpr (zle a b v k15 Q) (z1h c1 (z1h c3 (And.intro c5 (And.intro c7 (zw (zj c9) hk16))))))
  ·cases h4;exact z4s 1 (mpr (zle a b v 0 Q) (z1h c1 (zw (zj c3) hI)))
 ·cases h2;exact z4s 1 (mpr (zle a b v 0 Q) (zw (zj c1) hI))
def zlh (a:ByteArray) (b:ByteArray) : Option (Int) :=
  (zfp a b (0:Int)) >>= fun o17=>match o17 with
   | .inl o18 =>
     some (o18.2)
   | .inr o19 =>
     some (z3p (↑a.size:Int) (↑b.size:Int))
theorem z1x8 {a:ByteArray} {b:ByteArray} {r:Int} (h:zlh a b=some r) : Runs (awp z34 z3g (ze Tryz.f135) (z2j Tryz.f135.ntmps 0 [.d (.v (cs a)),.d (.v (cs b))]) (retQ z34 Tryz.f135.results.toList [.d] fun rs os=>rs=zav r∧os=zaw r)):=by
 constructor;rw[z216 a b (fun rs os=>rs=zav r∧os=zaw r)];unfold zlh at h;obtain⟨o20,ho21,h22⟩:=bind_some h;rcases o20 with o23 | o24
 ·cases h22;exact (zuw ho21 _ (z1hl (mpr (z1hk a b o23.1 o23.2 _) ⟨rfl,rfl⟩)))
 ·cases h22;exact (zuw ho21 _ (z1la (mpr (z1l9 a b o24 _) ⟨rfl,rfl⟩)))
def zbj (a b:ByteArray) : Int:=cmpS a b
@[simp] theorem z217 (a b:ByteArray) : zbj a b=cmpS a b:=by unfold zbj;rfl
theorem z1r7 (a b:ByteArray) (ha:WStr a) (hb:WStr b) : ∀ (ra rb:List UInt8) (i:Nat),a.toList.drop i=ra→b.toList.drop i=rb→i≤a.size→i≤b.size →
  ∃ o,zfp a b i=some o∧(match o with | .inl o=>o.2 | .inr _=>cmpI a.size b.size)=cmpL ra rb:=by
 intro ra
 induction ra with
 | nil =>
  intro rb i h1 h2 h3 h4;have e1:=zk9 h1;have e2:=zk9 h2;rw[z3f] at e1 e2;simp only[y1a] at e1;have hn:¬ ((i:Int)<a.size):=by omega
  refine⟨.inr i,by rw[zlf,zag];simp [hn],?_⟩;simp only;cases rb with
  | nil=>simp at e2;unfold cmpI cmpL;rw[if_neg (by omega),if_neg (by omega)]
  | cons y rb=>simp at e2;unfold cmpI cmpL;rw[if_pos (by omega)]
 | cons x ra ih =>
  intro rb i h1 h2 h3 h4;obtain⟨a1,a2,a3,_⟩:=z39 h1;rw[z3f] at a1;have hp:(i:Int)<a.size:=by omega
  cases rb with
  | nil =>
   have e2:=zk9 h2;rw[z3f] at e2;simp only[y1a] at e2;have hn:¬ ((i:Int)<b.size):=by omega
   refine⟨.inr i,by rw[zlf,zag];simp [hn,hp],?_⟩;simp only;unfold cmpI cmpL;rw[if_neg (by omega),if_pos (by omega)]
  | cons y rb =>
   obtain⟨b1,b2,b3,_⟩:=z39 h2;rw[z3f] at b1;have hq:(i:Int)<b.size:=by omega
   have hi:(0:Int)≤i:=by omega
   rw[zlf,zag];simp only[hp,hq,hi,decide_true,if_true,true_and,and_self,y5,a2,b2];by_cases hxy : x=y
   ·subst hxy;simp only[bne_self_eq_false,y24,if_false];rw[zwr a1 ha];simpa only [cmpL,if_true,zr1] using ih rb (i+1) a3 b3 (by omega) (by omega)
   ·have hne:((x.toNat:Int) != (y.toNat:Int))=true:=by
     rw[bne_iff_ne];intro e;exact hxy (UInt8.toNat_inj.1 (by omega))
    have hx:=x.toNat_lt;have hy:=y.toNat_lt;refine⟨_,by rw[if_pos hne,zr2],?_⟩;simp only[cmpL,hxy,if_false,z14j];rw[z1j (by omega),z1j (by omega)]
theorem z1r8 (a b:ByteArray) (ha:WStr a) (hb:WStr b) : zlh a b=some (zbj a b):=by
 obtain⟨o,ho,e⟩:=z1r7 a b ha hb _ _ 0 rfl rfl (by omega) (by omega);unfold zlh zbj cmpS;rw[show (0:Int)=((0:Nat):Int) from rfl,ho];simp only[y2j] at e;rw[← e];cases o<;>simp
def z1dx : FnC Un:=fnF2 dStr dStr fun a b=>([],zav (zbj a b),zaw (zbj a b))
theorem z218 : FnOK 135 z1dx:=fnK2 z43 z43 (M:=z34) rfl ⟨zyw,trivial⟩ trivial trivial trivial trivial Tryz.func135 fun a b=>fun w _=>z1x8 (z1r8 a b (wfA_ w 0) (wfA_ w 1))
def z3h : Nat→NS:=nsF_ [(2,{ ts:=[true,false,true,true,false,false,false,false,false,false,false,false,false,false,false,false,false,false,false,false,false,false,false],bs:=[false,false,false,false,false,false,false,false,false,false,false,false,false,false,false,false,false,false,false,false,false,false,false],nm:=[],gb:=[],gs:=[] })] false
def z3a (s:ByteArray) (v0:Int) : S Un:=(st 23 23 92 0 [(0,AV.one (A.c (C.s (Value.string s)))),(2,AV.one (A.c (C.s (Value.bool false)))),(3,AV.one (A.c (C.s (Value.int IntKind.i64 v0))))] [] [])
theorem z219 (s:ByteArray) (K:List (A Un)→List (Ob Un)→Prop) :
  awp z1du z3h (ze Tryz.f74) (z2j Tryz.f74.ntmps 0 [.d (.v (cs s))]) (retQ z1du Tryz.f74.results.toList [.d] K) =
(zu (z3h 2) (awp z1du z3h (sub (ze Tryz.f74) [1,0,1,2,2])) (ctxK z1du z3h (ze Tryz.f74) [1,0,1,2] (retQ z1du Tryz.f74.results.toList [.d] K)) (z3a s (0:Int))):=by kernel_rfl
theorem zli (s:ByteArray) (v0:Int) (k:Nat) (Q:Exit→S Un→Prop) :
  z1d (z3h 2) (awp z1du z3h (sub (ze Tryz.f74) [1,0,1,2,2])) Q (k+1) (z3a s v0) =
(cnd (decide (v0<(↑s.size:Int)))
 (((0:Int)≤v0∧v0<(↑s.size:Int)) ∧
 (cnd (decide ((↑(s.toList.getD v0.toNat (0:UInt8)).toNat:Int)<(32:Int)))
  (Q .ret (z3a s v0))
  (((0:Int)≤v0∧v0<(↑s.size:Int)) ∧
  (cnd (decide ((↑(s.toList.getD v0.toNat (0:UInt8)).toNat:Int) > (126:Int)))
   (Q .ret (z3a s v0))
   (z1d (z3h 2) (awp z1du z3h (sub (ze Tryz.f74) [1,0,1,2,2])) Q k (z3a s (IntKind.i64.wrap (v0+(1:Int)))))))))
 (Q (.exit 0) (z3a s v0))):=by kernel_rfl
theorem z1hm (s:ByteArray) (v0:Int) (K:List (A Un)→List (Ob Un)→Prop) :
  ctxK z1du z3h (ze Tryz.f74) [1,0,1,2] (retQ z1du Tryz.f74.results.toList [.d] K) .ret (z3a s v0) =
(K (zur (false)) (zus (false))):=by kernel_rfl
theorem z1lb (s:ByteArray) (v0:Int) (K:List (A Un)→List (Ob Un)→Prop) :
  ctxK z1du z3h (ze Tryz.f74) [1,0,1,2] (retQ z1du Tryz.f74.results.toList [.d] K) (.exit 0) (z3a s v0) =
(K (zur (decide ((↑s.size:Int)≤(100:Int)))) (zus (decide ((↑s.size:Int)≤(100:Int))))):=by kernel_rfl
def zcq (s:ByteArray) (v:Int) : Option ((Int) ⊕ ((Int) ⊕ (Int))) :=
  if (decide (v<(↑s.size:Int)))=true then
   if (0:Int)≤v∧v<(↑s.size:Int) then
    if (decide ((↑(s.toList.getD v.toNat (0:UInt8)).toNat:Int)<(32:Int)))=true then
     some (.inr (.inl v))
    else
     if (0:Int)≤v∧v<(↑s.size:Int) then
      if (decide ((↑(s.toList.getD v.toNat (0:UInt8)).toNat:Int) > (126:Int)))=true then
       some (.inr (.inl v))
      else
       some (.inl (IntKind.i64.wrap (v+(1:Int))))
     else none
   else none
  else
   some (.inr (.inr v))
def zfq (s:ByteArray) (v:Int) : Option ((Int) ⊕ (Int)):=zdv (zcq s) v
theorem zwv (s:ByteArray) (v:Int) : zfq s v=zp4 (zfq s) (zcq s v):=zuo _ _
def zlj (s:ByteArray) (r:(Int) ⊕ (Int)) (Q:Exit→S Un→Prop) : Prop:=match r with | .inl x=>Q .ret (z3a s x) | .inr x=>Q (.exit 0) (z3a s x)
theorem z1hn {s:ByteArray} {x:Int} {Q:Exit→S Un→Prop} (h:Q .ret (z3a s x)) : zlj s (.inl x) Q:=h
theorem z1lc {s:ByteArray} {x:Int} {Q:Exit→S Un→Prop} (h:Q (.exit 0) (z3a s x)) : zlj s (.inr x) Q:=h
theorem zux {s:ByteArray} {v:Int} {r:(Int) ⊕ (Int)} (h:zfq s v=some r) (Q:Exit→S Un→Prop) (hQ:zlj s r Q) : zu (z3h 2) (awp z1du z3h (sub (ze Tryz.f74) [1,0,1,2,2])) Q (z3a s v):=by
 refine @zup _ _ (zcq s) (fun v=>zu (z3h 2) (awp z1du z3h (sub (ze Tryz.f74) [1,0,1,2,2])) Q (z3a s v)) (fun r=>zlj s r Q) ?_ v r h hQ;intro v o h hI;unfold zcq at h;rcases z15 h with ⟨c1,h2⟩ | ⟨c1,h2⟩
 ·obtain⟨c3,h4⟩:=z9w h2;rcases z15 h4 with ⟨c5,h6⟩ | ⟨c5,h6⟩
  ·cases h6;exact z4s 1 (mpr (zli s v 0 Q) (z1h c1 (And.intro c3 (z1h c5 hI))))
  ·obtain⟨c7,h8⟩:=z9w h6;rcases z15 h8 with ⟨c9,h10⟩ | ⟨c9,h10⟩
   ·cases h10;exact z4s 1 (mpr (zli s v 0 Q) (z1h c1 (And.intro c3 (zw (zj c5) (And.intro c7 (z1h c9 hI))))))
   ·cases h10;obtain⟨k11,hk12⟩:=zt0 hI;exact z4s (k11+1) (mpr (zli s v k11 Q) (z1h c1 (And.intro c3 (zw (zj c5) (And.intro c7 (zw (zj c9) hk12))))))
 ·cases h2;exact z4s 1 (mpr (zli s v 0 Q) (zw (zj c1) hI))
def zlk (s:ByteArray) : Option (Bool) :=
  (zfq s (0:Int)) >>= fun o13=>match o13 with
   | .inl o14 =>
     some (false)
   | .inr o15 =>
     some (decide ((↑s.size:Int)≤(100:Int)))
theorem z1x9 {s:ByteArray} {r:Bool} (h:zlk s=some r) : Runs (awp z1du z3h (ze Tryz.f74) (z2j Tryz.f74.ntmps 0 [.d (.v (cs s))]) (retQ z1du Tryz.f74.results.toList [.d] fun rs os=>rs=zur r∧os=zus r)):=by
 constructor;rw[z219 s (fun rs os=>rs=zur r∧os=zus r)];unfold zlk at h;obtain⟨o16,ho17,h18⟩:=bind_some h;rcases o16 with o19 | o20
 ·cases h18;exact (zux ho17 _ (z1hn (mpr (z1hm s o19 _) ⟨rfl,rfl⟩)))
 ·cases h18;exact (zux ho17 _ (z1lc (mpr (z1lb s o20 _) ⟨rfl,rfl⟩)))
def zbk (s:ByteArray) : Bool:=z10g s
@[simp] theorem z21a (s:ByteArray) : zbk s=z10g s:=by unfold zbk;rfl
theorem z1r9 (s:ByteArray) (hs:WStr s) : ∀ (r:List UInt8) (i:Nat),s.toList.drop i=r →
  ∃ o,zfq s i=some o∧(match o with | .inl _=>false | .inr _=>true)=r.all (fun b=>decide (32≤b.toNat∧b.toNat≤126)):=by
 intro r
 induction r with
 | nil =>
  intro i h1;have e1:=zk9 h1;rw[z3f] at e1;simp only[y1a] at e1;have hn:¬ ((i:Int)<s.size):=by omega
  exact⟨.inr i,by rw[zwv,zcq];simp [hn],rfl⟩
 | cons x r ih =>
  intro i h1;obtain⟨a1,a2,a3,_⟩:=z39 h1;rw[z3f] at a1;have hp:(i:Int)<s.size:=by omega
  have hi:(0:Int)≤i:=by omega
  rw[zwv,zcq];simp only[hp,hi,decide_true,if_true,and_self,y5,a2,decide_eq_true_eq,y1g];by_cases c1 : (x.toNat:Int)<32
  ·exact⟨_,by rw[if_pos c1,zr2],by simp;omega⟩
  ·rw[if_neg c1];by_cases c2 : (x.toNat:Int) > 126
   ·exact⟨_,by rw[if_pos c2,zr2],by simp;omega⟩
   ·rw[if_neg c2,zwr a1 hs,zr1];have e:decide (32≤x.toNat∧x.toNat≤126)=true:=by simp;omega
    rw[e,y18];exact ih (i+1) a3
theorem z1ra (s:ByteArray) (hs:WStr s) : zlk s=some (zbk s):=by
 obtain⟨o,ho,e⟩:=z1r9 s hs _ 0 rfl;unfold zlk zbk z10g;rw[show (0:Int)=((0:Nat):Int) from rfl,ho];simp only[y2j] at e;rw[← e];cases o with
 | inl o=>simp
 | inr o=>simp;omega
def z1dy : FnC Un:=fnF1 dStr fun s=>([],zur (zbk s),zus (zbk s))
theorem z21b : FnOK 74 z1dy:=fnK1 z43 (M:=z1du) rfl trivial trivial trivial trivial trivial Tryz.func74 fun s=>fun w _=>z1x9 (z1ra s (wfA_ w 0))
def zi5 : Mc Un:=mcF_ [(73,zc7),(74,z1dy)] [] [] [] []
theorem z21c (v:Val) (K:List (A Un)→List (Ob Un)→Prop) :
  awp zi5 z262 (ze Tryz.f38) (z2j Tryz.f38.ntmps 0 [.d (.agg (enc Ty.val v))]) (retQ zi5 Tryz.f38.results.toList [.d] K) =
(cnd (v.kind == (0:Int))
 (cnd (v.n == (0:Int))
  (K (zur (v.s.toList == (ByteArray.mk #[]).toList)) (zus (v.s.toList == (ByteArray.mk #[]).toList)))
  (K (zur (false)) (zus (false))))
 (cnd (v.kind == (1:Int))
  (cnd (v.n == (0:Int))
   (K (zur (v.s.toList == (ByteArray.mk #[]).toList)) (zus (v.s.toList == (ByteArray.mk #[]).toList)))
   (cnd (v.n == (1:Int))
    (K (zur (v.s.toList == (ByteArray.mk #[]).toList)) (zus (v.s.toList == (ByteArray.mk #[]).toList)))
    (K (zur (false)) (zus (false)))))
  (cnd (v.kind == (2:Int))
   (cnd (z1u v.n)
    (K (zur (v.s.toList == (ByteArray.mk #[]).toList)) (zus (v.s.toList == (ByteArray.mk #[]).toList)))
    (K (zur (false)) (zus (false))))
   (cnd (v.kind == (3:Int))
    (cnd (v.n == (0:Int))
     (K (zur (zbk v.s)) (zus (zbk v.s)))
     (K (zur (false)) (zus (false))))
    (K (zur (false)) (zus (false))))))):=by kernel_rfl
def zll (v:Val) : Option (Bool) :=
  if (v.kind == (0:Int))=true then
   if (v.n == (0:Int))=true then
    some (v.s.toList == (ByteArray.mk #[]).toList)
   else
    some (false)
  else
   if (v.kind == (1:Int))=true then
    if (v.n == (0:Int))=true then
     some (v.s.toList == (ByteArray.mk #[]).toList)
    else
     if (v.n == (1:Int))=true then
      some (v.s.toList == (ByteArray.mk #[]).toList)
     else
      some (false)
   else
    if (v.kind == (2:Int))=true then
     if (z1u v.n)=true then
      some (v.s.toList == (ByteArray.mk #[]).toList)
     else
      some (false)
    else
     if (v.kind == (3:Int))=true then
      if (v.n == (0:Int))=true then
       some (zbk v.s)
      else
       some (false)
     else
      some (false)
theorem z1xa {v:Val} {r:Bool} (h:zll v=some r) : Runs (awp zi5 z262 (ze Tryz.f38) (z2j Tryz.f38.ntmps 0 [.d (.agg (enc Ty.val v))]) (retQ zi5 Tryz.f38.results.toList [.d] fun rs os=>rs=zur r∧os=zus r)):=by
 constructor;rw[z21c v (fun rs os=>rs=zur r∧os=zus r)];unfold zll at h;rcases z15 h with ⟨c1,h2⟩ | ⟨c1,h2⟩
 ·rcases z15 h2 with ⟨c3,h4⟩ | ⟨c3,h4⟩
  ·cases h4;exact (z1h c1 (z1h c3 ⟨rfl,rfl⟩))
  ·cases h4;exact (z1h c1 (zw (zj c3) ⟨rfl,rfl⟩))
 ·rcases z15 h2 with ⟨c5,h6⟩ | ⟨c5,h6⟩
  ·rcases z15 h6 with ⟨c7,h8⟩ | ⟨c7,h8⟩
   ·cases h8;exact (zw (zj c1) (z1h c5 (z1h c7 ⟨rfl,rfl⟩)))
   ·rcases z15 h8 with ⟨c9,h10⟩ | ⟨c9,h10⟩
    ·cases h10;exact (zw (zj c1) (z1h c5 (zw (zj c7) (z1h c9 ⟨rfl,rfl⟩))))
    ·cases h10;exact (zw (zj c1) (z1h c5 (zw (zj c7) (zw (zj c9) ⟨rfl,rfl⟩))))
  ·rcases z15 h6 with ⟨c11,h12⟩ | ⟨c11,h12⟩
   ·rcases z15 h12 with ⟨c13,h14⟩ | ⟨c13,h14⟩
    ·cases h14;exact (zw (zj c1) (zw (zj c5) (z1h c11 (z1h c13 ⟨rfl,rfl⟩))))
    ·cases h14;exact (zw (zj c1) (zw (zj c5) (z1h c11 (zw (zj c13) ⟨rfl,rfl⟩))))
   ·rcases z15 h12 with ⟨c15,h16⟩ | ⟨c15,h16⟩
    ·rcases z15 h16 with ⟨c17,h18⟩ | ⟨c17,h18⟩
     ·cases h18;exact (zw (zj c1) (zw (zj c5) (zw (zj c11) (z1h c15 (z1h c17 ⟨rfl,rfl⟩)))))
     ·cases h18;exact (zw (zj c1) (zw (zj c5) (zw (zj c11) (z1h c15 (zw (zj c17) ⟨rfl,rfl⟩)))))
    ·cases h16;exact (zw (zj c1) (zw (zj c5) (zw (zj c11) (zw (zj c15) ⟨rfl,rfl⟩))))
theorem z1rb (v:Val) (_hv:WS .val v) : zll v=some (zc8 v):=by
 unfold zll zc8 z80;simp only[beq_iff_eq,z20w,zyt,z21a];by_cases h0 : v.kind=0
 ·simp [h0];split<;>simp_all
 ·by_cases h1 : v.kind=1
  ·by_cases n0 : v.n=0
   ·simp [h1,n0]
   ·by_cases n1 : v.n=1
    ·simp [h1,n1]
    ·simp [h1,n0,n1]
  ·by_cases h2 : v.kind=2
   ·simp [h2];split<;>simp_all
   ·by_cases h3 : v.kind=3
    ·simp [h3];split<;>simp_all
    ·simp [h0,h1,h2,h3]
theorem z17d : FnOK 38 z14i:=fnK1 zq (M:=zi5) rfl ⟨z2ed,z21b,trivial⟩ trivial trivial trivial trivial Tryz.func38 fun v=>fun w _=>z1xa (z1rb v (wfA_ w 0))
def zi6 : Mc Un:=mcF_ [(83,zt2),(135,z1dx)] [] [] [] []
theorem z21d (a:Val) (b:Val) (K:List (A Un)→List (Ob Un)→Prop) :
  awp zi6 z262 (ze Tryz.f82) (z2j Tryz.f82.ntmps 0 [.d (.agg (enc Ty.val a)),.d (.agg (enc Ty.val b))]) (retQ zi6 Tryz.f82.results.toList [.d] K) =
(cnd (a.kind != b.kind)
 (K (zav (z3p a.kind b.kind)) (zaw (z3p a.kind b.kind)))
 (cnd (a.n != b.n)
  (K (zav (z3p a.n b.n)) (zaw (z3p a.n b.n)))
  (K (zav (zbj a.s b.s)) (zaw (zbj a.s b.s))))):=by kernel_rfl
def zlm (a:Val) (b:Val) : Option (Int) :=
  if (a.kind != b.kind)=true then
   some (z3p a.kind b.kind)
  else
   if (a.n != b.n)=true then
    some (z3p a.n b.n)
   else
    some (zbj a.s b.s)
theorem z1xb {a:Val} {b:Val} {r:Int} (h:zlm a b=some r) : Runs (awp zi6 z262 (ze Tryz.f82) (z2j Tryz.f82.ntmps 0 [.d (.agg (enc Ty.val a)),.d (.agg (enc Ty.val b))]) (retQ zi6 Tryz.f82.results.toList [.d] fun rs os=>rs=zav r∧os=zaw r)):=by
 constructor;rw[z21d a b (fun rs os=>rs=zav r∧os=zaw r)];unfold zlm at h;rcases z15 h with ⟨c1,h2⟩ | ⟨c1,h2⟩
 ·cases h2;exact (z1h c1 ⟨rfl,rfl⟩)
 ·rcases z15 h2 with ⟨c3,h4⟩ | ⟨c3,h4⟩
  ·cases h4;exact (zw (zj c1) (z1h c3 ⟨rfl,rfl⟩))
  ·cases h4;exact (zw (zj c1) (zw (zj c3) ⟨rfl,rfl⟩))
def z9e (a b:Val) : Int:=ordV a b
@[simp] theorem z21e (a b:Val) : z9e a b=ordV a b:=by unfold z9e;rfl
theorem z1rc (a b:Val) (_ha:WS .val a) (_hb:WS .val b) : zlm a b=some (z9e a b):=by
 unfold zlm z9e ordV;simp only[bne_iff_ne,ne_eq,ite_not,z14j,z217];split
 ·split<;>rfl
 ·rfl
def z1e1 : FnC Un:=fnF2 (dS .val) (dS .val) fun a b=>([],zav (z9e a b),zaw (z9e a b))
theorem z21f : FnOK 82 z1e1:=fnK2 zq zq (M:=zi6) rfl ⟨zyw,z218,trivial⟩ trivial trivial trivial trivial Tryz.func82 fun a b=>fun w _=>z1xb (z1rc a b (wfA_ w 0) (wfA_ w 1))
def z2s : Mc Un:=mcF_ [(82,z1e1),(83,zt2)] [] [] [] []
def z31 : Nat→NS:=nsF_ [(2,{ ts:=[true,true,false,false,true,true,false,false,false,false,false,false,false,false,false,false,false,false,false,false,false,false,false,false,false,false,false,false,false,false,false,false,false,false,false,false,false,false,false,false,false,false],bs:=[false,false,false,false,false,false,false,false,false,false,false,false,false,false,false,false,false,false,false,false,false,false,false,false,false,false,false,false,false,false,false,false,false,false,false,false,false,false,false,false,false,false],nm:=[],gb:=[],gs:=[] })] false
def z50 (a:List Val) (b:List Val) (v0:Int) : S Un:=(st 42 42 168 0 [(0,AV.one (A.c (C.sl Ty.val a false))),(1,AV.one (A.c (C.sl Ty.val b false))),(4,AV.one (A.c (C.s (Value.int IntKind.i64 (0:Int))))),(5,AV.one (A.c (C.s (Value.int IntKind.i64 v0))))] [] [])
def zck (a:List Val) (b:List Val) (v0:Int) (v1:Int) : S Un:=(st 42 42 168 0 [(0,AV.one (A.c (C.sl Ty.val a false))),(1,AV.one (A.c (C.sl Ty.val b false))),(4,AV.one (A.c (C.s (Value.int IntKind.i64 v1)))),(5,AV.one (A.c (C.s (Value.int IntKind.i64 v0))))] [] [])
theorem z1xc (a:List Val) (b:List Val) (K:List (A Un)→List (Ob Un)→Prop) :
  awp z2s z31 (ze Tryz.f43) (z2j Tryz.f43.ntmps 0 [.d (.v (.dat (U:=Un) Ty.val a)),.d (.v (.dat (U:=Un) Ty.val b))]) (retQ z2s Tryz.f43.results.toList [.d] K) =
(zu (z31 2) (awp z2s z31 (sub (ze Tryz.f43) [1,0,1,2,2])) (ctxK z2s z31 (ze Tryz.f43) [1,0,1,2] (retQ z2s Tryz.f43.results.toList [.d] K)) (z50 a b (0:Int))):=by kernel_rfl
theorem zj0 (a:List Val) (b:List Val) (v0:Int) (k:Nat) (Q:Exit→S Un→Prop) :
  z1d (z31 2) (awp z2s z31 (sub (ze Tryz.f43) [1,0,1,2,2])) Q (k+1) (z50 a b v0) =
(cnd (decide (v0<(↑a.length:Int)))
 (cnd (decide (v0<(↑b.length:Int)))
  (((0:Int)≤v0∧v0<(↑a.length:Int)) ∧
  (((0:Int)≤v0∧v0<(↑b.length:Int)) ∧
  (cnd (z9e (a.getD v0.toNat z7) (b.getD v0.toNat z7) != (0:Int))
   (((0:Int)≤v0∧v0<(↑a.length:Int)) ∧
   (((0:Int)≤v0∧v0<(↑b.length:Int)) ∧
   (Q .ret (zck a b v0 (z9e (a.getD v0.toNat z7) (b.getD v0.toNat z7))))))
   (z1d (z31 2) (awp z2s z31 (sub (ze Tryz.f43) [1,0,1,2,2])) Q k (z50 a b (IntKind.i64.wrap (v0+(1:Int))))))))
  (Q (.exit 0) (z50 a b v0)))
 (Q (.exit 0) (z50 a b v0))):=by kernel_rfl
theorem z1ck (a:List Val) (b:List Val) (v0:Int) (v1:Int) (K:List (A Un)→List (Ob Un)→Prop) :
  ctxK z2s z31 (ze Tryz.f43) [1,0,1,2] (retQ z2s Tryz.f43.results.toList [.d] K) .ret (zck a b v0 v1) =
(K (zav (v1)) (zaw (v1))):=by kernel_rfl
theorem z1ho (a:List Val) (b:List Val) (v0:Int) (K:List (A Un)→List (Ob Un)→Prop) :
  ctxK z2s z31 (ze Tryz.f43) [1,0,1,2] (retQ z2s Tryz.f43.results.toList [.d] K) (.exit 0) (z50 a b v0) =
(K (zav (z3p (↑a.length:Int) (↑b.length:Int))) (zaw (z3p (↑a.length:Int) (↑b.length:Int)))):=by kernel_rfl
def z8t (a:List Val) (b:List Val) (v:Int) : Option ((Int) ⊕ ((Int×Int) ⊕ (Int))) :=
  if (decide (v<(↑a.length:Int)))=true then
   if (decide (v<(↑b.length:Int)))=true then
    if (0:Int)≤v∧v<(↑a.length:Int) then
     if (0:Int)≤v∧v<(↑b.length:Int) then
      if (z9e (a.getD v.toNat z7) (b.getD v.toNat z7) != (0:Int))=true then
       if (0:Int)≤v∧v<(↑a.length:Int) then
        if (0:Int)≤v∧v<(↑b.length:Int) then
         some (.inr (.inl (v,(z9e (a.getD v.toNat z7) (b.getD v.toNat z7)))))
        else none
       else none
      else
       some (.inl (IntKind.i64.wrap (v+(1:Int))))
     else none
    else none
   else
    some (.inr (.inr v))
  else
   some (.inr (.inr v))
def zea (a:List Val) (b:List Val) (v:Int) : Option ((Int×Int) ⊕ (Int)):=zdv (z8t a b) v
theorem zkb (a:List Val) (b:List Val) (v:Int) : zea a b v=zp4 (zea a b) (z8t a b v):=zuo _ _
def zj1 (a:List Val) (b:List Val) (r:(Int×Int) ⊕ (Int)) (Q:Exit→S Un→Prop) : Prop:=match r with | .inl x=>Q .ret (zck a b x.1 x.2) | .inr x=>Q (.exit 0) (z50 a b x)
theorem z1cl {a:List Val} {b:List Val} {x:Int×Int} {Q:Exit→S Un→Prop} (h:Q .ret (zck a b x.1 x.2)) : zj1 a b (.inl x) Q:=h
theorem z1hp {a:List Val} {b:List Val} {x:Int} {Q:Exit→S Un→Prop} (h:Q (.exit 0) (z50 a b x)) : zj1 a b (.inr x) Q:=h
theorem zsr {a:List Val} {b:List Val} {v:Int} {r:(Int×Int) ⊕ (Int)} (h:zea a b v=some r) (Q:Exit→S Un→Prop) (hQ:zj1 a b r Q) : zu (z31 2) (awp z2s z31 (sub (ze Tryz.f43) [1,0,1,2,2])) Q (z50 a b v):=by
 refine @zup _ _ (z8t a b) (fun v=>zu (z31 2) (awp z2s z31 (sub (ze Tryz.f43) [1,0,1,2,2])) Q (z50 a b v)) (fun r=>zj1 a b r Q) ?_ v r h hQ;intro v o h hI;unfold z8t at h;rcases z15 h with ⟨c1,h2⟩ | ⟨c1,h2⟩
 ·rcases z15 h2 with ⟨c3,h4⟩ | ⟨c3,h4⟩
  ·obtain⟨c5,h6⟩:=z9w h4;obtain⟨c7,h8⟩:=z9w h6;rcases z15 h8 with ⟨c9,h10⟩ | ⟨c9,h10⟩
   ·obtain⟨c11,h12⟩:=z9w h10;obtain⟨c13,h14⟩:=z9w h12;cases h14;exact z4s 1 (mpr (zj0 a b v 0 Q) (z1h c1 (z1h c3 (And.intro c5 (And.intro c7 (z1h c9 (And.intro c11 (And.intro c13 hI))))))))
   ·cases h10;obtain⟨k15,hk16⟩:=zt0 hI;exact z4s (k15+1) (mpr (zj0 a b v k15 Q) (z1h c1 (z1h c3 (And.intro c5 (And.intro c7 (zw (zj c9) hk16))))))
  ·cases h4;exact z4s 1 (mpr (zj0 a b v 0 Q) (z1h c1 (zw (zj c3) hI)))
 ·cases h2;exact z4s 1 (mpr (zj0 a b v 0 Q) (zw (zj c1) hI))
def zj2 (a:List Val) (b:List Val) : Option (Int) :=
  (zea a b (0:Int)) >>= fun o17=>match o17 with
   | .inl o18 =>
     some (o18.2)
   | .inr o19 =>
     some (z3p (↑a.length:Int) (↑b.length:Int))
theorem z1rd {a:List Val} {b:List Val} {r:Int} (h:zj2 a b=some r) : Runs (awp z2s z31 (ze Tryz.f43) (z2j Tryz.f43.ntmps 0 [.d (.v (.dat (U:=Un) Ty.val a)),.d (.v (.dat (U:=Un) Ty.val b))]) (retQ z2s Tryz.f43.results.toList [.d] fun rs os=>rs=zav r∧os=zaw r)):=by
 constructor;rw[z1xc a b (fun rs os=>rs=zav r∧os=zaw r)];unfold zj2 at h;obtain⟨o20,ho21,h22⟩:=bind_some h;rcases o20 with o23 | o24
 ·cases h22;exact (zsr ho21 _ (z1cl (mpr (z1ck a b o23.1 o23.2 _) ⟨rfl,rfl⟩)))
 ·cases h22;exact (zsr ho21 _ (z1hp (mpr (z1ho a b o24 _) ⟨rfl,rfl⟩)))
def z7o (a b:List Val) : Int:=ordR a b
@[simp] theorem z1xd (a b:List Val) : z7o a b=ordR a b:=by unfold z7o;rfl
theorem z1ld (a b:List Val) (ha:WL .val a) (hb:WL .val b) : ∀ (ra rb:List Val) (i:Nat),a.drop i=ra→b.drop i=rb→i≤a.length→i≤b.length →
  ∃ o,zea a b i=some o∧(match o with | .inl o=>o.2 | .inr _=>cmpI a.length b.length)=ordR ra rb:=by
 intro ra
 induction ra with
 | nil =>
  intro rb i h1 h2 h3 h4;have e1:=zk9 h1;have e2:=zk9 h2;simp only[y1a] at e1;have hn:¬ ((i:Int)<a.length):=by omega
  refine⟨.inr i,by rw[zkb,z8t];simp [hn],?_⟩;simp only;cases rb with
  | nil=>simp at e2;unfold cmpI ordR;rw[if_neg (by omega),if_neg (by omega)]
  | cons y rb=>simp at e2;unfold cmpI ordR;rw[if_pos (by omega)]
 | cons x ra ih =>
  intro rb i h1 h2 h3 h4;obtain⟨a1,a2,a3,_⟩:=z39 h1;have hp:(i:Int)<a.length:=by omega
  cases rb with
  | nil =>
   have e2:=zk9 h2;simp only[y1a] at e2;have hn:¬ ((i:Int)<b.length):=by omega
   refine⟨.inr i,by rw[zkb,z8t];simp [hn,hp],?_⟩;simp only;unfold cmpI ordR;rw[if_neg (by omega),if_pos (by omega)]
  | cons y rb =>
   obtain⟨b1,b2,b3,_⟩:=z39 h2;have hq:(i:Int)<b.length:=by omega
   have hi:(0:Int)≤i:=by omega
   rw[zkb,z8t];simp only[hp,hq,hi,decide_true,if_true,true_and,and_self,y5,a2,b2,bne_iff_ne,ne_eq,ite_not,z21e];by_cases hxy : ordV x y=0
   ·rw[if_pos hxy,zwr a1 ha.len];simpa only [ordR,hxy,if_true,zr1] using ih rb (i+1) a3 b3 (by omega) (by omega)
   ·exact⟨_,by rw[if_neg hxy,zr2],by simp only[ordR,hxy,if_false]⟩
theorem z1le (a b:List Val) (ha:WL .val a) (hb:WL .val b) : zj2 a b=some (z7o a b):=by
 obtain⟨o,ho,e⟩:=z1ld a b ha hb _ _ 0 rfl rfl (by omega) (by omega);unfold zj2 z7o;rw[show (0:Int)=((0:Nat):Int) from rfl,ho];simp only[y2j] at e;rw[← e];cases o<;>simp
def z17e : FnC Un:=fnF2 (dL .val) (dL .val) fun a b=>([],zav (z7o a b),zaw (z7o a b))
theorem z1xe : FnOK 43 z17e:=fnK2 z10 z10 (M:=z2s) rfl ⟨z21f,zyw,trivial⟩ trivial trivial trivial trivial Tryz.func43 fun a b=>fun w _=>z1rd (z1le a b (wfA_ w 0) (wfA_ w 1))
end
end B
namespace B
open Go Go.RowKit
set_option maxRecDepth 100000
noncomputable section
attribute [local irreducible] awp ctxK zu z1d retQ z1p awf ctxF z1o
def z2f (r:Int) : RF Un:=([.c (.s (.int .i64 r))],[])
def z1e2 (op:Int) : Option (RF Un):=fnF_ z1du z262 Tryz.f59 0 [.d] [.d (.v (.s (.int .i64 op)))]
def zca (op:Int) : Option (RF Un):=cndO (op == 5) (cndO (op == 5) (some (z2f ((2:Int)))) (some (z2f ((-1:Int))))) (cndO (op == 6) (cndO (op == 6) (some (z2f ((2:Int)))) (some (z2f ((-1:Int))))) (cndO (op == 9) (cndO (op == 9) (some (z2f ((2:Int)))) (some (z2f ((-1:Int))))) (cndO (op == 10) (cndO (op == 10) (some (z2f ((2:Int)))) (some (z2f ((-1:Int))))) (cndO (op == 11) (some (z2f ((2:Int)))) (some (z2f ((-1:Int))))))))
def zyy (op:Int) : Option (RF Un):=cndO (op == 3) (cndO (op == 3) (some (z2f ((1:Int)))) (zca op)) (cndO (op == 4) (cndO (op == 4) (some (z2f ((1:Int)))) (zca op)) (cndO (op == 7) (cndO (op == 7) (some (z2f ((1:Int)))) (zca op)) (cndO (op == 8) (cndO (op == 8) (some (z2f ((1:Int)))) (zca op)) (cndO (op == 12) (cndO (op == 12) (some (z2f ((1:Int)))) (zca op)) (cndO (op == 13) (some (z2f ((1:Int)))) (zca op))))))
theorem z267 (op:Int) : z1e2 op=cndO (op == 1) (cndO (op == 1) (some (z2f ((0:Int)))) (zyy op)) (cndO (op == 2) (some (z2f ((0:Int)))) (zyy op)):=by kernel_rfl
def zdx (op:Int) : Int:=z3j op
def z2i (r:Rel) : Int:=z1y r
theorem z1e3 (op:Int) : zdx op=z3j op:=by unfold zdx;rfl
theorem zah (r:Rel) : z2i r=z1y r:=by unfold z2i;rfl
theorem z1hq {β:Type} (a b:Bool) (x y:Option β) : cndO a (cndO a x y) (cndO b x y)=cndO (a || b) x y:=by cases a<;>cases b<;>rfl
theorem z1xf (op:Int) (_h:WI op) : z1e2 op=some (z2f (zdx op)):=by
 have e:∀ x : Option (RF Un),(cndO (op == 11) (cndO (op == 11) (some (z2f ((2:Int)))) x) x)=cndO (op == 11) (some (z2f ((2:Int)))) x:=fun x=>by cases op == 11<;>rfl
 rw[z267];unfold zdx zyy zca z3j;simp only[e,z1hq];simp only[z8,y1i,beq_iff_eq];by_cases h1 : op=1∨op=2
 ·rw[if_pos h1,if_pos h1]
 rw[if_neg h1,if_neg h1];by_cases h2 : op=3∨op=4∨op=7∨op=8∨op=12∨op=13
 ·rw[if_pos h2,if_pos h2]
 rw[if_neg h2,if_neg h2];by_cases h3 : op=5∨op=6∨op=9∨op=10∨op=11
 ·rw[if_pos h3,if_pos h3]
 rw[if_neg h3,if_neg h3]
def z135 : FnC Un:=fnF1 (dI .i64) fun op=>([],z2f (zdx op))
theorem z1e4 : FnOK 59 z135:=fnK1 z1c (M:=z1du) rfl trivial trivial trivial trivial trivial Tryz.func59 fun op=>GiF.r fun w _=>z1xf op (wfA_ w 0)
def zuy (m:Nat) : FnC Un:=fnF1 (dS .rel) fun r=>z2m (r.ht) m ([],z2f (z2i r))
def z1e5 (m:Nat) : Mc Un:=mcF_ [(59,z135),(19,zuy m)] [] [] [] []
def z17f (r:Rel):=z2i (Rel.mk (Rel.op (r.kids.getD 0 za)) (Rel.table (r.kids.getD 0 za)) (Rel.cols (r.kids.getD 0 za)) (Rel.kids (r.kids.getD 0 za)) (Rel.terms (r.kids.getD 0 za)) (Rel.aggs (r.kids.getD 0 za)) (Rel.keys (r.kids.getD 0 za)) (Rel.limit (r.kids.getD 0 za)) (Rel.skip (r.kids.getD 0 za)) (Rel.all (r.kids.getD 0 za)) (Rel.rows (r.kids.getD 0 za)))
def z17g (m:Nat) (r:Rel) : Option (RF Un):=fnF_ (z1e5 m) z262 Tryz.f19 0 [.d] [.d (.agg (enc Ty.rel r))]
def zuz (m:Nat) (r:Rel) : Option (RF Un):=obO ((0:Int)≤(0:Int)∧(0:Int)<(↑r.kids.length:Int)) (obO ((Rel.ids (r.kids.getD 0 za)).ht<m) (obO ((0:Int)≤(1:Int)∧(1:Int)<(↑r.kids.length:Int)) (obO ((Rel.ids (r.kids.getD 1 za)).ht<m) (some (z2f (IntKind.i64.wrap (z2i (Rel.ids (r.kids.getD 0 za))+z2i (Rel.ids (r.kids.getD 1 za)))))))))
def zv0 (m:Nat) (r:Rel) : Option (RF Un):=cndO (r.op == 7) (some (z2f (IntKind.i64.wrap ((↑r.terms.length:Int)+(↑r.aggs.length:Int))))) (obO ((0:Int)≤(0:Int)∧(0:Int)<(↑r.kids.length:Int)) (obO ((Rel.ids (r.kids.getD 0 za)).ht<m) (some (z2f (z17f r)))))
def zv1 (m:Nat) (r:Rel) : Option (RF Un):=cndO (r.op == 4) (some (z2f ((↑r.terms.length:Int)))) (cndO (r.op == 5) (cndO (r.op == 5) (zuz m r) (zv0 m r)) (cndO (r.op == 6) (zuz m r) (zv0 m r)))
theorem z21g (m:Nat) (r:Rel) : z17g m r=cndO (decide (zdx r.op<0)) (some (z2f ((0:Int)))) (cndO (decide ((↑r.kids.length:Int)<zdx r.op)) (some (z2f ((0:Int)))) (cndO (r.op == 1) (cndO (r.op == 1) (some (z2f ((↑r.cols.length:Int)))) (zv1 m r)) (cndO (r.op == 2) (some (z2f ((↑r.cols.length:Int)))) (zv1 m r)))):=by kernel_rfl
theorem z1re (m:Nat) (r:Rel) (_hr:WS .rel r) (hm:r.ht<m+1) : z17g m r=some (z2f (z2i r)):=by
 have k0:0<r.kids.length→(r.kids.getD 0 za).ht<m:=fun h=>by have:=Rel.ht_kid (z61 (d:=za) (l:=r.kids) h);omega
 have k1:1<r.kids.length→(r.kids.getD 1 za).ht<m:=fun h=>by have:=Rel.ht_kid (z61 (d:=za) (l:=r.kids) h);omega
 rw[z21g];unfold zv1;rw[z1hq,z1hq,zah r,zkr r];simp only[z8,beq_iff_eq,decide_eq_true_eq,z1e3,y1i];by_cases c1 : z3j r.op<0
 ·rw[if_pos c1,if_pos (.inl c1)]
 by_cases c2 : (r.kids.length:Int)<z3j r.op
 ·rw[if_neg c1,if_pos c2,if_pos (.inr c2)]
 rw[if_neg c1,if_neg c2,if_neg (show ¬ (z3j r.op<0∨(r.kids.length:Int)<z3j r.op) by omega)];by_cases h1 : r.op=1∨r.op=2
 ·rw[if_pos h1,if_pos h1]
 rw[if_neg h1,if_neg h1];have hn:=z2ea c1 h1;by_cases h4 : r.op=4
 ·rw[if_pos h4,if_pos h4]
 rw[if_neg h4,if_neg h4];have hl0:0<r.kids.length:=by omega
 have kk0:=k0 hl0;have g0:=zc9 r.kids 0 hl0;by_cases h56 : r.op=5∨r.op=6
 ·have ht:=z17b h56;have hl1:1<r.kids.length:=by omega
  have kk1:=k1 hl1;have g1:=zc9 r.kids 1 hl1;unfold zuz;rw[if_pos h56,if_neg (by omega),if_pos h56,g0,g1];simp only[Rel.ids_eq,zah];rw[z6 (show (0:Int)≤0∧(0:Int)<(r.kids.length:Int) by omega),z6 kk0,z6 (show (0:Int)≤1∧(1:Int)<(r.kids.length:Int) by omega),z6 kk1]
 ·rw[if_neg h56];unfold zv0;rw[z8];by_cases h7 : r.op=7
  ·rw[if_pos (by simpa using h7),if_pos h7]
  ·rw[if_neg (by simpa using h7),if_neg h7,if_neg h56,g0];simp only[z17f,z2kj,Rel.ids_eq,zah];rw[z6 (by omega),z6 kk0]
abbrev z1e6 (m:Nat) : Prop:=FnOK 19 (zuy m)
theorem z1xg (m:Nat) (hG:z1e6 m) : FnOK 19 (zuy (m+1)):=fnK1 zq (M:=(z1e5 m)) rfl ⟨z1e4,hG,trivial⟩ trivial trivial trivial trivial Tryz.func19 fun r=>GiF.r fun w o=>z1re m r (wfA_ w 0) (obA_ o 0)
theorem zww : ∀ m,z1e6 m
 | 0=>fnZ1
 | m+1=>z1xg m (zww m)
def zer : FnC Un:=fnF1 (dS .rel) fun r=>([],z2f (z2i r))
theorem zft : FnOK 19 zer:=fnA1 fun m=>(zww m)
end
end B
namespace B
open Go Go.RowKit
set_option maxRecDepth 100000
noncomputable section
attribute [local irreducible] awp ctxK zu z1d retQ z1p awf ctxF z1o
theorem zu5 {β:Type} (a b:Bool) (x y:Option β) : cndO a x (cndO b x y)=cndO (a || b) x y:=by cases a<;>rfl
theorem z32 {α β:Type} {L:S Un→Option (EX Un)} {st:Int→S Un} {C:Exit→S Un→Option β} (R:Bool→Option β) {l:List α} {d:α} {e:Exit} (q:α→Bool) (hl:l.length≤9223372036854775807)
  (step:∀ (i:Nat) (x:α),(i:Int)<(l.length:Int)→l.getD i d=x→x∈l→L (st i)=if q x=true then L (st (IntKind.i64.wrap ((i:Int)+1))) else some (.ret,st i))
  (stop:L (st (l.length:Int))=some (e,st (l.length:Int))) (r1:∀ i : Int,C .ret (st i)=R false) (r2:∀ i : Int,C e (st i)=R true) : (L (st 0)).bind (zd C)=R (l.all q):=by
 have key:∀ (r:List α) (i:Nat),l.drop i=r→i≤l.length→(L (st i)).bind (zd C)=R (r.all q):=by
  intro r
  induction r with
  | nil =>
   intro i hr hi;have : l.length≤i:=y1n.1 hr;have e:i=l.length:=by omega
   rw[e,stop];exact r2 _
  | cons x r ih =>
   intro i hr hi;have hlt:i<l.length:=by
    grind
   have hx:l.getD i d=x:=by
    have:=y25 (xs:=l) (i:=i) (j:=0);grind
   have hm:x∈l:=by grind
   have hr2:l.drop (i+1)=r:=by grind [List.tail_drop]
   rw[step i x (by omega) hx hm,y1g];cases hq : q x
   ·exact r1 _
   ·rw[if_pos rfl,z1j (by omega),y18];grind
 grind
def z2l (env:List Int) (n:Nat) : Prop:=env.length+n≤8000000
def z7p (r:Int×Int×Bool) : RF Un:=([.c (.s (.int .i64 r.1)),.c (.s (.int .i64 r.2.1)),.c (.s (.bool r.2.2))],[])
def z269 : Nat→NS:=nsF_ [] true
def z17h (name:ByteArray) : Option (RF Un):=fnF_ z1du z269 Tryz.f104 0 [.d,.d,.d] [.d (.v (cs name))]
theorem z21h (name:ByteArray) : z17h name=cndO (name.toList == (ByteArray.mk #[108,101,110,103,116,104]).toList) (some (z7p ((1:Int),(1:Int),true))) (cndO (name.toList == (ByteArray.mk #[108,111,119,101,114]).toList) (some (z7p ((1:Int),(1:Int),true))) (cndO (name.toList == (ByteArray.mk #[117,112,112,101,114]).toList) (some (z7p ((1:Int),(1:Int),true))) (cndO (name.toList == (ByteArray.mk #[97,98,115]).toList) (some (z7p ((1:Int),(1:Int),true))) (cndO (name.toList == (ByteArray.mk #[110,117,108,108,105,102]).toList) (some (z7p ((2:Int),(2:Int),true))) (cndO (name.toList == (ByteArray.mk #[99,111,97,108,101,115,99,101]).toList) (some (z7p ((1:Int),(1099511627776:Int),true))) (some (z7p ((0:Int),(0:Int),false)))))))):=by kernel_rfl
def zfu (name:ByteArray) : Int×Int×Bool :=
  if (name.toList == (ByteArray.mk #[(108:UInt8),(101:UInt8),(110:UInt8),(103:UInt8),(116:UInt8),(104:UInt8)]).toList)=true then
   ((1:Int),(1:Int),true)
  else
   if (name.toList == (ByteArray.mk #[(108:UInt8),(111:UInt8),(119:UInt8),(101:UInt8),(114:UInt8)]).toList)=true then
    ((1:Int),(1:Int),true)
   else
    if (name.toList == (ByteArray.mk #[(117:UInt8),(112:UInt8),(112:UInt8),(101:UInt8),(114:UInt8)]).toList)=true then
     ((1:Int),(1:Int),true)
    else
     if (name.toList == (ByteArray.mk #[(97:UInt8),(98:UInt8),(115:UInt8)]).toList)=true then
      ((1:Int),(1:Int),true)
     else
      if (name.toList == (ByteArray.mk #[(110:UInt8),(117:UInt8),(108:UInt8),(108:UInt8),(105:UInt8),(102:UInt8)]).toList)=true then
       ((2:Int),(2:Int),true)
      else
       if (name.toList == (ByteArray.mk #[(99:UInt8),(111:UInt8),(97:UInt8),(108:UInt8),(101:UInt8),(115:UInt8),(99:UInt8),(101:UInt8)]).toList)=true then
        ((1:Int),(1099511627776:Int),true)
       else
        ((0:Int),(0:Int),false)
theorem z21i (name:ByteArray) : z17h name=some (z7p (zfu name)):=by grind [z21h,zfu,z8]
def z1e8 : FnC Un:=fnF1 dStr fun name=>([],z7p (zfu name))
theorem z21j : FnOK 104 z1e8:=fnK1 z43 (M:=z1du) rfl trivial trivial trivial trivial trivial Tryz.func104 fun name=>GiF.r fun _ _=>z21i name
def z21k : Mc Un:=mcF_ [(104,z1e8)] [] [] [] []
def z1v9 (t:Term) : Option (RF Un):=fnF_ z21k z269 Tryz.f56 0 [.d,.d,.d] [.d (.agg (enc Ty.term t))]
theorem z2ee (t:Term) : z1v9 t=cndO (t.op == 1) (some (z7p ((0:Int),(0:Int),true))) (cndO (t.op == 2) (some (z7p ((0:Int),(0:Int),true))) (cndO (t.op == 26) (some (z7p ((0:Int),(0:Int),true))) (cndO (t.op == 27) (some (z7p ((0:Int),(0:Int),true))) (cndO (t.op == 3) (some (z7p ((1:Int),(1:Int),true))) (cndO (t.op == 4) (some (z7p ((1:Int),(1:Int),true))) (cndO (t.op == 19) (some (z7p ((1:Int),(1:Int),true))) (cndO (t.op == 28) (some (z7p ((1:Int),(1:Int),true))) (cndO (t.op == 5) (some (z7p ((2:Int),(2:Int),true))) (cndO (t.op == 6) (some (z7p ((2:Int),(2:Int),true))) (cndO (t.op == 7) (some (z7p ((2:Int),(2:Int),true))) (cndO (t.op == 8) (some (z7p ((2:Int),(2:Int),true))) (cndO (t.op == 9) (some (z7p ((2:Int),(2:Int),true))) (cndO (t.op == 10) (some (z7p ((2:Int),(2:Int),true))) (cndO (t.op == 11) (some (z7p ((2:Int),(2:Int),true))) (cndO (t.op == 12) (some (z7p ((2:Int),(2:Int),true))) (cndO (t.op == 13) (some (z7p ((2:Int),(2:Int),true))) (cndO (t.op == 14) (some (z7p ((2:Int),(2:Int),true))) (cndO (t.op == 15) (some (z7p ((2:Int),(2:Int),true))) (cndO (t.op == 16) (some (z7p ((2:Int),(2:Int),true))) (cndO (t.op == 17) (some (z7p ((2:Int),(2:Int),true))) (cndO (t.op == 18) (some (z7p ((2:Int),(2:Int),true))) (cndO (t.op == 20) (some (z7p ((2:Int),(2:Int),true))) (cndO (t.op == 22) (some (z7p ((3:Int),(3:Int),true))) (cndO (t.op == 21) (some (z7p ((2:Int),(1099511627776:Int),true))) (cndO (t.op == 23) (some (z7p ((2:Int),(1099511627776:Int),true))) (cndO (t.op == 24) (some (z7p ((zfu t.name).fst,(zfu t.name).snd.fst,(zfu t.name).snd.snd))) (some (z7p ((0:Int),(0:Int),false))))))))))))))))))))))))))))):=by kernel_rfl
def zi7 (t:Term) : Int×Int×Bool :=
 if t.op=1∨t.op=2∨t.op=26∨t.op=27 then (0,0,true)
 else if t.op=3∨t.op=4∨t.op=19∨t.op=28 then (1,1,true)
 else if t.op=5∨t.op=6∨t.op=7∨t.op=8∨t.op=9∨t.op=10∨t.op=11∨t.op=12∨t.op=13∨t.op=14∨t.op=15∨t.op=16∨t.op=17∨t.op=18∨t.op=20 then (2,2,true)
 else if t.op=22 then (3,3,true)
 else if t.op=21∨t.op=23 then (2,1099511627776,true)
 else if t.op=24 then zfu t.name
 else (0,0,false)
theorem z26a (t:Term) (_ht:WS .term t) : z1v9 t=some (z7p (zi7 t)):=by
 rw[z2ee];unfold zi7;simp only[zu5];simp only[z8,y1i,beq_iff_eq];grind
def z21l : FnC Un:=fnF1 (dS .term) fun t=>([],z7p (zi7 t))
theorem z2ef : FnOK 56 z21l:=fnK1 zq (M:=z21k) rfl ⟨z21j,trivial⟩ trivial trivial trivial trivial Tryz.func56 fun t=>GiF.r fun w _=>z26a t (wfA_ w 0)
def z1e9 (t:Term) : Option (RF Un):=fnF_ z1du z269 Tryz.f57 0 [.d] [.d (.agg (enc Ty.term t))]
theorem z26b (t:Term) : z1e9 t=cndO (t.op == 26) (some (z2f ((1:Int)))) (cndO (t.op == 27) (some (z2f ((1:Int)))) (cndO (t.op == 28) (some (z2f ((1:Int)))) (some (z2f ((0:Int)))))):=by kernel_rfl
def zkc (t:Term) : Int:=if t.op=26∨t.op=27∨t.op=28 then 1 else 0
theorem z1xh (t:Term) (_ht:WS .term t) : z1e9 t=some (z2f (zkc t)):=by
 rw[z26b];unfold zkc;simp only[z8,y1i,beq_iff_eq];grind
def z1lh : FnC Un:=fnF1 (dS .term) fun t=>([],z2f (zkc t))
theorem z26c : FnOK 57 z1lh:=fnK1 zq (M:=z1du) rfl trivial trivial trivial trivial trivial Tryz.func57 fun t=>GiF.r fun w _=>z1xh t (wfA_ w 0)
def z1va : Mc Un:=mcF_ [(38,z14i)] [] [] [] []
def z9f (r:Bool) : RF Un:=([.c (.s (.bool r))],[])
def z1li (t:Term) (env:List Int) : Option (RF Un):=fnF_ z1va z269 Tryz.f58 0 [.d] [.d (.agg (enc Ty.term t)),.d (.v (.dat (U:=Un) Ty.int env))]
theorem z2ao (t:Term) (env:List Int) : z1li t env=cndO (decide (t.type<0)) (some (z9f (false))) (cndO (decide (t.type > 3)) (some (z9f (false))) (cndO (t.op == 1) (some (z9f (zc8 t.v))) (cndO (t.op == 2) (cndO (decide (t.depth≥0)) (cndO (decide (t.depth<(↑env.length:Int))) (cndO (decide (t.at_≥0)) (obO (0≤t.depth∧t.depth<(↑env.length:Int)) (some (z9f (decide (t.at_<env.getD t.depth.toNat (0:Int)))))) (some (z9f (false)))) (some (z9f (false)))) (some (z9f (false)))) (some (z9f (true)))))):=by kernel_rfl
def zu6 (t:Term) (env:List Int) : Bool:=decide (0≤t.type∧t.type≤3) && (if t.op=1 then z80 t.v else if t.op=2 then decide (0≤t.depth∧t.depth<(env.length:Int)∧0≤t.at_∧t.at_<env.getD t.depth.toNat 0) else true)
theorem z21m (t:Term) (env:List Int) (_ht:WS .term t) (_he:WL .int env) : z1li t env=some (z9f (zu6 t env)):=by
 rw[z2ao];unfold zu6;simp only[z8,beq_iff_eq,decide_eq_true_eq,z1r5];by_cases h0 : t.type<0
 ·grind
 by_cases h3 : t.type > 3
 ·grind
 by_cases h1 : t.op=1
 ·grind
 by_cases h2 : t.op=2
 ·by_cases d1 : t.depth≥0
  ·by_cases d2 : t.depth<(env.length:Int)
   ·by_cases d3 : t.at_≥0
    all_goals simp_all [if_pos,z6,decide_eq_true,decide_eq_false,if_neg]
   grind
  grind
 grind
def z1vb : FnC Un:=fnF2 (dS .term) (dL .int) fun t env=>([],z9f (zu6 t env))
theorem z2ap : FnOK 58 z1vb:=fnK2 zq z10 (M:=z1va) rfl ⟨z17d,trivial⟩ trivial trivial trivial trivial Tryz.func58 fun t env=>GiF.r fun w _=>z21m t env (wfA_ w 0) (wfA_ w 1)
def z21n : Mc Un:=mcF_ [(19,zer)] [] [] [] []
def zo9 (r:List Int) : RF Un:=([.c (.sl (U:=Un) Ty.int r false)],[])
def z1vc (r:Rel) (env:List Int) : Option (RF Un):=fnF_ z21n z269 Tryz.f112 0 [.d] [.d (.agg (enc Ty.rel r)),.d (.v (.dat (U:=Un) Ty.int env))]
def zwx (r:Rel) (env:List Int) : Option (RF Un):=obO (([z2i (Rel.ids (r.kids.getD 0 za))].length+env.length)*(8:Nat)≤zi) (some (zo9 (z2i (Rel.ids (r.kids.getD 0 za))::env)))
def z17i (r:Rel) (env:List Int) : Option (RF Un):=cndO (decide ((↑r.kids.length:Int) > (1:Int))) (obO ((0:Int)≤(1:Int)∧(1:Int)<(↑r.kids.length:Int)) (obO (([IntKind.i64.wrap (z2i (Rel.ids (r.kids.getD 0 za))+z2i (Rel.ids (r.kids.getD 1 za)))].length+env.length)*(8:Nat)≤zi) (some (zo9 (IntKind.i64.wrap (z2i (Rel.ids (r.kids.getD 0 za))+z2i (Rel.ids (r.kids.getD 1 za)))::env))))) (zwx r env)
def zwy (env:List Int) : Option (RF Un):=obO (([(0:Int)].length+env.length)*(8:Nat)≤zi) (some (zo9 ((0:Int)::env)))
def z17j (r:Rel) (env:List Int) : Option (RF Un):=cndO (decide ((↑r.kids.length:Int) > (1:Int))) (obO ((0:Int)≤(1:Int)∧(1:Int)<(↑r.kids.length:Int)) (obO (([IntKind.i64.wrap ((0:Int)+z2i (Rel.ids (r.kids.getD 1 za)))].length+env.length)*(8:Nat)≤zi) (some (zo9 (IntKind.i64.wrap ((0:Int)+z2i (Rel.ids (r.kids.getD 1 za)))::env))))) (zwy env)
theorem z2eh (r:Rel) (env:List Int) : z1vc r env=cndO (decide ((↑r.kids.length:Int) > (0:Int))) (obO ((0:Int)≤(0:Int)∧(0:Int)<(↑r.kids.length:Int)) (cndO (r.op == 5) (z17i r env) (cndO (r.op == 6) (z17i r env) (zwx r env)))) (cndO (r.op == 5) (z17j r env) (cndO (r.op == 6) (z17j r env) (zwy env))):=by kernel_rfl
def z2aq (r:Rel) : Int:=if r.kids.length > 0 then z1y (r.kids.getD 0 za) else 0
def z97 (r:Rel) : Int:=if (r.op=5∨r.op=6)∧r.kids.length > 1 then IntKind.i64.wrap (z2aq r+z1y (r.kids.getD 1 za)) else z2aq r
def zbl (r:Rel) (env:List Int) : List Int:=z97 r::env
theorem z26d (r:Rel) (env:List Int) (_hr:WS .rel r) (_he:WL .int env) (h:z2l env 1) : z1vc r env=some (zo9 (zbl r env)):=by
 unfold z2l at h;rw[z2eh];unfold zwx z17i zwy z17j zwy zwx;simp only[zu5,Rel.ids_eq,zah];simp only[z8,y1i,beq_iff_eq,decide_eq_true_eq];unfold zbl z97 z2aq;by_cases h0 : r.kids.length > 0
 ·rw[if_pos (by omega),if_pos h0,z6 (by omega)];by_cases h5 : r.op=5∨r.op=6
  ·rw[if_pos h5];by_cases h1 : r.kids.length > 1
   ·rw[if_pos (by omega),if_pos ⟨h5,h1⟩,z6 (by omega),z6 (by grind [zi,List.length_singleton])]
   ·rw[if_neg (by omega),if_neg (fun e=>h1 e.2),z6 (by grind [zi,List.length_singleton])]
  ·rw[if_neg h5,if_neg (fun e=>h5 e.1),z6 (by grind [zi,List.length_singleton])]
 ·rw[if_neg (by omega),if_neg h0,if_neg (show ¬ ((r.op=5∨r.op=6)∧r.kids.length > 1) from fun e=>by omega)];split
  ·rw[if_neg (by omega),z6 (by grind [zi,List.length_singleton])]
  grind [z6,zi,List.length_singleton]
def z21o : FnC Un:=fnF2 (dS .rel) (dL .int) fun r env=>([z2l env 1],zo9 (zbl r env))
theorem z2ei : FnOK 112 z21o:=fnK2 zq z10 (M:=z21n) rfl ⟨zft,trivial⟩ trivial trivial trivial trivial Tryz.func112 fun r env=>GiF.r fun w o=>z26d r env (wfA_ w 0) (wfA_ w 1) (obA_ o 0)
def zv2 : Nat→NS:=nsF_ [(2,{ ts:=bl 16 13,bs:=bl 16 0,nm:=[],cs:=true })] true
def z76 (r:List Val) (v0:Int) : S Un:=(st 16 16 64 0 [(0,al .val r),(2,ab false),(3,ai v0)] [] [])
def zj3 : S Un→Option (EX Un):=lpF_ z1va zv2 Tryz.f35 [1,0,1,2,2] 2
def zrw : Exit→S Un→Option (RF Un):=cxF_ z1va zv2 Tryz.f35 [1,0,1,2] [.d]
def z14k (r:List Val) : Option (RF Un):=fnF_ z1va zv2 Tryz.f35 0 [.d] [.d (.v (.dat (U:=Un) Ty.val r))]
theorem z1xi (r:List Val) : z14k r=(zj3 (z76 r (0:Int))).bind (zd zrw):=by kernel_rfl
theorem z14l (r:List Val) (v0:Int) : zj3 (z76 r v0)=cndO (decide (v0<(↑r.length:Int))) (obO (0≤v0∧v0<(↑r.length:Int)) (cndO (!zc8 (r.getD v0.toNat z7)) (some (.ret,(z76 r v0))) (zj3 (z76 r (IntKind.i64.wrap (v0+1)))))) (some (.exit 0,(z76 r v0))):=lpQ_ (by kernel_rfl)
theorem z1cm (r:List Val) (v0:Int) : zrw .ret (z76 r v0)=some (z9f (false)):=by kernel_rfl
theorem z1hr (r:List Val) (v0:Int) : zrw (.exit 0) (z76 r v0)=some (z9f (true)):=by kernel_rfl
def zdy (r:List Val) : Bool:=r.all z80
theorem z1lj (r:List Val) (hr:WL .val r) : z14k r=some (z9f (zdy r)):=by
 rw[z1xi]
 exact z32 (L:=zj3) (st:=fun i=>z76 r i) (fun b=>some (z9f b)) (d:=z7) z80 hr.len
  (fun i x hi hx _=>by
   rw[z14l];simp only[z8,hi,decide_true,if_true,and_true,y5,hx,z1r5]
   grind [z6,z80])
  (by rw[z14l];simp [z8]) (fun i=>z1cm _ _) (fun i=>z1hr _ _)
def zv3 : FnC Un:=fnF1 (dL .val) fun r=>([],z9f (zdy r))
theorem z14m : FnOK 35 zv3:=fnK1 z10 (M:=z1va) rfl ⟨z17d,trivial⟩ trivial trivial trivial trivial Tryz.func35 fun r=>GiF.r fun w _=>z1lj r (wfA_ w 0)
def zt3 : Mc Un:=mcF_ [(35,zv3)] [] [] [] []
def z136 : Nat→NS:=nsF_ [(2,{ ts:=bl 27 51,bs:=bl 27 0,nm:=[],cs:=true })] true
def z7q (l:List (List Val)) (n:Int) (v0:Int) : S Un:=(st 27 27 108 0 [(0,al .row l),(1,ai n),(4,ab false),(5,ai v0)] [] [])
def zp7 : S Un→Option (EX Un):=lpF_ zt3 z136 Tryz.f113 [1,0,1,2,2] 2
def zyz : Exit→S Un→Option (RF Un):=cxF_ zt3 z136 Tryz.f113 [1,0,1,2] [.d]
def z1ea (l:List (List Val)) (n:Int) : Option (RF Un):=fnF_ zt3 z136 Tryz.f113 0 [.d] [.d (.v (.dat (U:=Un) Ty.row l)),.d (.v (.s (.int .i64 n)))]
theorem z26e (l:List (List Val)) (n:Int) : z1ea l n=(zp7 (z7q l n (0:Int))).bind (zd zyz):=by kernel_rfl
theorem z1eb (l:List (List Val)) (n:Int) (v0:Int) : zp7 (z7q l n v0)=cndO (decide (v0<(↑l.length:Int))) (obO (0≤v0∧v0<(↑l.length:Int)) (cndO ((↑(List.length (l.getD v0.toNat [])):Int) != n) (some (.ret,(z7q l n v0))) (obO (0≤v0∧v0<(↑l.length:Int)) (cndO (!zdy (l.getD v0.toNat [])) (some (.ret,(z7q l n v0))) (zp7 (z7q l n (IntKind.i64.wrap (v0+1)))))))) (some (.exit 0,(z7q l n v0))):=lpQ_ (by kernel_rfl)
theorem z1lk (l:List (List Val)) (n:Int) (v0:Int) : zyz .ret (z7q l n v0)=some (z9f (false)):=by kernel_rfl
theorem z1rf (l:List (List Val)) (n:Int) (v0:Int) : zyz (.exit 0) (z7q l n v0)=some (z9f (true)):=by kernel_rfl
def zoa (l:List (List Val)) (n:Int) : Bool:=l.all fun x=>decide ((x.length:Int)=n) && zdy x
theorem z1xj (l:List (List Val)) (n:Int) (hl:WL .row l) (_hn:WI n) : z1ea l n=some (z9f (zoa l n)):=by
 rw[z26e]
 exact z32 (L:=zp7) (st:=fun i=>z7q l n i) (fun b=>some (z9f b)) (d:=[]) (fun x=>decide ((x.length:Int)=n) && zdy x) hl.len
  (fun i x hi hx _=>by
   rw[z1eb];simp only[z8,hi,decide_true,if_true,and_true,y5,hx];rw[z6 (by omega),z6 (by omega)]
   grind)
  (by rw[z1eb];simp [z8]) (fun i=>z1lk _ _ _) (fun i=>z1rf _ _ _)
def z1ll : FnC Un:=fnF2 (dL .row) (dI .i64) fun l n=>([],z9f (zoa l n))
theorem z26f : FnOK 113 z1ll:=fnK2 z10 z1c (M:=zt3) rfl ⟨z14m,trivial⟩ trivial trivial trivial trivial Tryz.func113 fun l n=>GiF.r fun w _=>z1xj l n (wfA_ w 0) (wfA_ w 1)
def z7r (l:List By) (n:Int) (v0:Int) : S Un:=(st 27 27 108 0 [(0,al .by_ l),(1,ai n),(4,ab false),(5,ai v0)] [] [])
def zp8 : S Un→Option (EX Un):=lpF_ z1du z136 Tryz.f116 [1,0,1,2,2] 2
def zz0 : Exit→S Un→Option (RF Un):=cxF_ z1du z136 Tryz.f116 [1,0,1,2] [.d]
def z1ec (l:List By) (n:Int) : Option (RF Un):=fnF_ z1du z136 Tryz.f116 0 [.d] [.d (.v (.dat (U:=Un) Ty.by_ l)),.d (.v (.s (.int .i64 n)))]
theorem z26g (l:List By) (n:Int) : z1ec l n=(zp8 (z7r l n (0:Int))).bind (zd zz0):=by kernel_rfl
theorem z1ed (l:List By) (n:Int) (v0:Int) : zp8 (z7r l n v0)=cndO (decide (v0<(↑l.length:Int))) (obO (0≤v0∧v0<(↑l.length:Int)) (cndO (decide ((l.getD v0.toNat zad).at_<0)) (some (.ret,(z7r l n v0))) (obO (0≤v0∧v0<(↑l.length:Int)) (cndO (decide ((l.getD v0.toNat zad).at_≥n)) (some (.ret,(z7r l n v0))) (zp8 (z7r l n (IntKind.i64.wrap (v0+1)))))))) (some (.exit 0,(z7r l n v0))):=lpQ_ (by kernel_rfl)
theorem z1lm (l:List By) (n:Int) (v0:Int) : zz0 .ret (z7r l n v0)=some (z9f (false)):=by kernel_rfl
theorem z1rg (l:List By) (n:Int) (v0:Int) : zz0 (.exit 0) (z7r l n v0)=some (z9f (true)):=by kernel_rfl
def zv4 (l:List By) (n:Int) : Bool:=l.all fun k=>decide (0≤k.at_∧k.at_<n)
theorem z1xk (l:List By) (n:Int) (hl:WL .by_ l) (_hn:WI n) : z1ec l n=some (z9f (zv4 l n)):=by
 rw[z26g]
 exact z32 (L:=zp8) (st:=fun i=>z7r l n i) (fun b=>some (z9f b)) (d:=zad) (fun k=>decide (0≤k.at_∧k.at_<n)) hl.len
  (fun i x hi hx _=>by
   rw[z1ed];simp only[z8,hi,decide_true,if_true,and_true,y5,hx,decide_eq_true_eq];rw[z6 (by omega),z6 (by omega)]
   grind)
  (by rw[z1ed];simp [z8]) (fun i=>z1lm _ _ _) (fun i=>z1rg _ _ _)
def z1ln : FnC Un:=fnF2 (dL .by_) (dI .i64) fun l n=>([],z9f (zv4 l n))
theorem z26h : FnOK 116 z1ln:=fnK2 z10 z1c (M:=z1du) rfl trivial trivial trivial trivial trivial Tryz.func116 fun l n=>GiF.r fun w _=>z1xk l n (wfA_ w 0) (wfA_ w 1)
end
end B
end Go.Proofs.YtjfpbchdcbhfgaaGreat
