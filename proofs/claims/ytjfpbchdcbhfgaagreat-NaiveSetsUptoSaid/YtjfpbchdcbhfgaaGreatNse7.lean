/- Part 7 of the proof: Sref03 Sr15w Sref15v. -/
import Derived.Test.YtjfpbchdcbhfgaaGreatNse6
set_option linter.unusedVariables false
set_option linter.unusedSimpArgs false
namespace Go.Proofs.YtjfpbchdcbhfgaaGreat
namespace B
open Go Go.RowKit
set_option maxRecDepth 100000
noncomputable section
attribute [local irreducible] awp ctxK zu z1a retQ z1m
theorem z2ei(n:Int)(K:List (A Un)→List (Ob Un)→Prop):
  awp z1dq z266 (ze Tryz.f73) (z2f Tryz.f73.ntmps 0 [.d (.v (.s (.int .i64 n)))]) (retQ z1dq Tryz.f73.results.toList [.d] K)=
(cnd (decide (n≥(-1000000000000000:Int)))
 (K (zuc (decide (n≤(1000000000000000:Int)))) (zud (decide (n≤(1000000000000000:Int)))))
 (K (zuc (false)) (zud (false)))):=by kernel_rfl
theorem z2ap{n:Int}{r:Bool}(h:z17a n=some r):Runs (awp z1dq z266 (ze Tryz.f73) (z2f Tryz.f73.ntmps 0 [.d (.v (.s (.int .i64 n)))]) (retQ z1dq Tryz.f73.results.toList [.d] fun rs os=>rs=zuc r∧os=zud r)):=by
 constructor;rw[z2ei n (fun rs os=>rs=zuc r∧os=zud r)];rcases z14 h with⟨c1,h2⟩|⟨c1,h2⟩
 ·cases h2;exact(z1f c1 ⟨rfl,rfl⟩)
 ·cases h2;exact(zw (zl c1) ⟨rfl,rfl⟩)
theorem z2ek:FnOK 73 zbm:=fnK1 z1c (M:=z1dq) rfl trivial trivial trivial trivial trivial Tryz.func73 fun n=>fun _ _=>z2ap (z2ee n)
theorem z269(a:Int)(b:Int)(K:List (A Un)→List (Ob Un)→Prop):
  awp z1dq z266 (ze Tryz.f83) (z2f Tryz.f83.ntmps 0 [.d (.v (.s (.int .i64 a))),.d (.v (.s (.int .i64 b)))]) (retQ z1dq Tryz.f83.results.toList [.d] K)=
(cnd (decide (a<b))
 (K (zag ((-1:Int))) (zah ((-1:Int))))
 (cnd (decide (a>b))
  (K (zag ((1:Int))) (zah ((1:Int))))
  (K (zag ((0:Int))) (zah ((0:Int)))))):=by kernel_rfl
def zyl(a:Int)(b:Int):Option (Int):=
  if(decide (a<b))=true then
   some ((-1:Int))
  else
   if(decide (a>b))=true then
    some ((1:Int))
   else
    some ((0:Int))
theorem z21e{a:Int}{b:Int}{r:Int}(h:zyl a b=some r):Runs (awp z1dq z266 (ze Tryz.f83) (z2f Tryz.f83.ntmps 0 [.d (.v (.s (.int .i64 a))),.d (.v (.s (.int .i64 b)))]) (retQ z1dq Tryz.f83.results.toList [.d] fun rs os=>rs=zag r∧os=zah r)):=by
 constructor;rw[z269 a b (fun rs os=>rs=zag r∧os=zah r)];rcases z14 h with⟨c1,h2⟩|⟨c1,h2⟩
 ·cases h2;exact(z1f c1 ⟨rfl,rfl⟩)
 ·rcases z14 h2 with⟨c3,h4⟩|⟨c3,h4⟩
  ·cases h4;exact(zw (zl c1) (z1f c3 ⟨rfl,rfl⟩))
  ·cases h4;exact(zw (zl c1) (zw (zl c3) ⟨rfl,rfl⟩))
def z3j(a:Int)(b:Int):Int:=
  if(decide (a<b))=true then
   ((-1:Int))
  else
   if(decide (a>b))=true then
    ((1:Int))
   else
    ((0:Int))
theorem z26a(a:Int)(b:Int):zyl a b=some (z3j a b):=by grind[zyl,z3j]
def zso:FnC Un:=fnF2 (dI .i64) (dI .i64) fun a b=>([],zag (z3j a b),zah (z3j a b))
theorem zym:FnOK 83 zso:=fnK2 z1c z1c (M:=z1dq) rfl trivial trivial trivial trivial trivial Tryz.func83 fun a b=>fun _ _=>z21e (z26a a b)
@[simp] theorem z1xh(a b:Int):z3j a b=cmpI a b:=by
 unfold z3j cmpI;simp
def z2x:Mc Un:=mcF_ [(83,zso)] [] [] [] []
def z39:Nat→NS:=nsF_ [(2,{ts:=[true,true,false,false,true,true,false,false,false,false,false,false,false,false,false,false,false,false,false,false,false,false,false,false,false,false,false,false,false,false,false,false,false,false,false,false,false,false,false],bs:=[false,false,false,false,false,false,false,false,false,false,false,false,false,false,false,false,false,false,false,false,false,false,false,false,false,false,false,false,false,false,false,false,false,false,false,false,false,false,false],nm:=[],gb:=[],gs:=[]})] false
def z5b(a:ByteArray)(b:ByteArray)(v0:Int):S Un:=(st 39 39 156 0 [(0,AV.one (A.c (C.s (Value.string a)))),(1,AV.one (A.c (C.s (Value.string b)))),(4,AV.one (A.c (C.s (Value.int IntKind.i64 (0:Int))))),(5,AV.one (A.c (C.s (Value.int IntKind.i64 v0))))] [] [])
def zdb(a:ByteArray)(b:ByteArray)(v0:Int)(v1:Int):S Un:=(st 39 39 156 0 [(0,AV.one (A.c (C.s (Value.string a)))),(1,AV.one (A.c (C.s (Value.string b)))),(4,AV.one (A.c (C.s (Value.int IntKind.i64 v1)))),(5,AV.one (A.c (C.s (Value.int IntKind.i64 v0))))] [] [])
theorem z21f(a:ByteArray)(b:ByteArray)(K:List (A Un)→List (Ob Un)→Prop):
  awp z2x z39 (ze Tryz.f135) (z2f Tryz.f135.ntmps 0 [.d (.v (cs a)),.d (.v (cs b))]) (retQ z2x Tryz.f135.results.toList [.d] K)=
(zu (z39 2) (awp z2x z39 (sub (ze Tryz.f135) [1,0,1,2,2])) (ctxK z2x z39 (ze Tryz.f135) [1,0,1,2] (retQ z2x Tryz.f135.results.toList [.d] K)) (z5b a b (0:Int))):=by kernel_rfl
theorem zky(a:ByteArray)(b:ByteArray)(v0:Int)(k:Nat)(Q:Exit→S Un→Prop):
  z1a (z39 2) (awp z2x z39 (sub (ze Tryz.f135) [1,0,1,2,2])) Q (k+1) (z5b a b v0)=
(cnd (decide (v0<(↑a.size:Int)))
 (cnd (decide (v0<(↑b.size:Int)))
  (((0:Int)≤v0∧v0<(↑a.size:Int))∧
  (((0:Int)≤v0∧v0<(↑b.size:Int))∧
  (cnd ((↑(a.toList.getD v0.toNat (0:UInt8)).toNat:Int) !=(↑(b.toList.getD v0.toNat (0:UInt8)).toNat:Int))
   (((0:Int)≤v0∧v0<(↑a.size:Int))∧
   (((0:Int)≤v0∧v0<(↑b.size:Int))∧
   (Q .ret (zdb a b v0 (z3j (IntKind.i64.wrap (↑(a.toList.getD v0.toNat (0:UInt8)).toNat:Int)) (IntKind.i64.wrap (↑(b.toList.getD v0.toNat (0:UInt8)).toNat:Int)))))))
   (z1a (z39 2) (awp z2x z39 (sub (ze Tryz.f135) [1,0,1,2,2])) Q k (z5b a b (IntKind.i64.wrap (v0+(1:Int))))))))
  (Q (.exit 0) (z5b a b v0)))
 (Q (.exit 0) (z5b a b v0))):=by kernel_rfl
theorem z1hg(a:ByteArray)(b:ByteArray)(v0:Int)(v1:Int)(K:List (A Un)→List (Ob Un)→Prop):
  ctxK z2x z39 (ze Tryz.f135) [1,0,1,2] (retQ z2x Tryz.f135.results.toList [.d] K) .ret (zdb a b v0 v1)=
(K (zag (v1)) (zah (v1))):=by kernel_rfl
theorem z1l7(a:ByteArray)(b:ByteArray)(v0:Int)(K:List (A Un)→List (Ob Un)→Prop):
  ctxK z2x z39 (ze Tryz.f135) [1,0,1,2] (retQ z2x Tryz.f135.results.toList [.d] K) (.exit 0) (z5b a b v0)=
(K (zag (z3j (↑a.size:Int) (↑b.size:Int))) (zah (z3j (↑a.size:Int) (↑b.size:Int)))):=by kernel_rfl
def zc5(a:ByteArray)(b:ByteArray)(v:Int):Option ((Int) ⊕((Int×Int) ⊕(Int))):=
  if(decide (v<(↑a.size:Int)))=true then
   if(decide (v<(↑b.size:Int)))=true then
    if(0:Int)≤v∧v<(↑a.size:Int)then
     if(0:Int)≤v∧v<(↑b.size:Int)then
      if((↑(a.toList.getD v.toNat (0:UInt8)).toNat:Int) !=(↑(b.toList.getD v.toNat (0:UInt8)).toNat:Int))=true then
       if(0:Int)≤v∧v<(↑a.size:Int)then
        if(0:Int)≤v∧v<(↑b.size:Int)then
         some (.inr (.inl (v,(z3j (IntKind.i64.wrap (↑(a.toList.getD v.toNat (0:UInt8)).toNat:Int)) (IntKind.i64.wrap (↑(b.toList.getD v.toNat (0:UInt8)).toNat:Int))))))
        else none
       else none
      else
       some (.inl (IntKind.i64.wrap (v+(1:Int))))
     else none
    else none
   else
    some (.inr (.inr v))
  else
   some (.inr (.inr v))
def zfc(a:ByteArray)(b:ByteArray)(v:Int):Option ((Int×Int) ⊕(Int)):=zda (zc5 a b) v
theorem zkz(a:ByteArray)(b:ByteArray)(v:Int):zfc a b v=zol (zfc a b) (zc5 a b v):=zu9 _ _
def zl0(a:ByteArray)(b:ByteArray)(r:(Int×Int) ⊕(Int))(Q:Exit→S Un→Prop):Prop:=match r with| .inl x=>Q .ret (zdb a b x.1 x.2)| .inr x=>Q (.exit 0) (z5b a b x)
theorem z1hh{a:ByteArray}{b:ByteArray}{x:Int×Int}{Q:Exit→S Un→Prop}(h:Q .ret (zdb a b x.1 x.2)):zl0 a b (.inl x) Q:=h
theorem z1l8{a:ByteArray}{b:ByteArray}{x:Int}{Q:Exit→S Un→Prop}(h:Q (.exit 0) (z5b a b x)):zl0 a b (.inr x) Q:=h
theorem zuh{a:ByteArray}{b:ByteArray}{v:Int}{r:(Int×Int) ⊕(Int)}(h:zfc a b v=some r)(Q:Exit→S Un→Prop)(hQ:zl0 a b r Q):zu (z39 2) (awp z2x z39 (sub (ze Tryz.f135) [1,0,1,2,2])) Q (z5b a b v):=by
 refine@zua _ _ (zc5 a b) (fun v=>zu (z39 2) (awp z2x z39 (sub (ze Tryz.f135) [1,0,1,2,2])) Q (z5b a b v)) (fun r=>zl0 a b r Q) ?_ v r h hQ;intro v o h hI;rcases z14 h with⟨c1,h2⟩|⟨c1,h2⟩
 ·rcases z14 h2 with⟨c3,h4⟩|⟨c3,h4⟩
  ·obtain⟨c5,h6⟩:=z9j h4;obtain⟨c7,h8⟩:=z9j h6;rcases z14 h8 with⟨c9,h10⟩|⟨c9,h10⟩
   ·obtain⟨c11,h12⟩:=z9j h10;obtain⟨c13,h14⟩:=z9j h12;cases h14;exact z4q 1 (mpr (zky a b v 0 Q) (z1f c1 (z1f c3 (And.intro c5 (And.intro c7 (z1f c9 (And.intro c11 (And.intro c13 hI))))))))
   ·cases h10;obtain⟨k15,hk16⟩:=zsm hI;exact z4q (k15+1) (mpr (zky a b v k15 Q) (z1f c1 (z1f c3 (And.intro c5 (And.intro c7 (zw (zl c9) hk16))))))
  ·cases h4;exact z4q 1 (mpr (zky a b v 0 Q) (z1f c1 (zw (zl c3) hI)))
 ·cases h2;exact z4q 1 (mpr (zky a b v 0 Q) (zw (zl c1) hI))
def zui(a:ByteArray)(b:ByteArray):Option (Int):=
  (zfc a b (0:Int))>>=fun o17=>match o17 with
   | .inl o18=>
     some (o18.2)
   | .inr o19=>
     some (z3j (↑a.size:Int) (↑b.size:Int))
theorem z1xi{a:ByteArray}{b:ByteArray}{r:Int}(h:zui a b=some r):Runs (awp z2x z39 (ze Tryz.f135) (z2f Tryz.f135.ntmps 0 [.d (.v (cs a)),.d (.v (cs b))]) (retQ z2x Tryz.f135.results.toList [.d] fun rs os=>rs=zag r∧os=zah r)):=by
 constructor;rw[z21f a b (fun rs os=>rs=zag r∧os=zah r)];obtain⟨o20,ho21,h22⟩:=bind_some h;rcases o20 with o23|o24
 ·cases h22;exact(zuh ho21 _ (z1hh (mpr (z1hg a b o23.1 o23.2 _) ⟨rfl,rfl⟩)))
 ·cases h22;exact(zuh ho21 _ (z1l8 (mpr (z1l7 a b o24 _) ⟨rfl,rfl⟩)))
def zd2(a b:ByteArray):Int:=cmpS a b
@[simp] theorem z2me(a b:ByteArray):zd2 a b=cmpS a b:=by rfl
theorem z1rc(a b:ByteArray)(ha:WStr a)(hb:WStr b):∀(ra rb:List UInt8)(i:Nat),a.toList.drop i=ra→b.toList.drop i=rb→i≤a.size→i≤b.size→
  ∃o,zfc a b i=some o∧(match o with| .inl o=>o.2| .inr _=>cmpI a.size b.size)=cmpL ra rb:=by
 intro ra
 induction ra with
 |nil=>
  intro rb i h1 h2 h3 h4;have e1:=zjr h1;have e2:=zjr h2;rw[z38]at e1 e2;simp at e1;have hn:¬((i:Int)<a.size):=by omega
  refine⟨.inr i,by rw[zkz,zc5];simp[hn],?_⟩;simp;cases rb with
  |nil=>simp at e2;unfold cmpI cmpL;omega
  |cons y rb=>simp at e2;unfold cmpI cmpL;omega
 |cons x ra ih=>
  intro rb i h1 h2 h3 h4;obtain⟨a1,a2,a3,_⟩:=z32 h1;rw[z38]at a1;have hp:(i:Int)<a.size:=by omega
  cases rb with
  |nil=>
   have e2:=zjr h2;rw[z38]at e2;simp at e2;have hn:¬((i:Int)<b.size):=by omega
   refine⟨.inr i,by rw[zkz,zc5];simp[*],?_⟩;simp;unfold cmpI cmpL;omega
  |cons y rb=>
   obtain⟨b1,b2,b3,_⟩:=z32 h2;rw[z38]at b1;have hq:(i:Int)<b.size:=by omega
   have hi:(0:Int)≤i:=by omega
   rw[zkz,zc5];simp only[hp,hq,hi,decide_true,if_true,true_and,and_self,y5,a2,b2];by_cases hxy:x=y
   ·subst hxy;simp;rw[zwj a1 ha];simpa only[cmpL,if_true,zqj]using ih rb (i+1) a3 b3 (by omega) (by omega)
   ·have hne:((x.toNat:Int) !=(y.toNat:Int))=true:=by
     grind[UInt8.toNat_inj]
    have hx:=x.toNat_lt;have hy:=y.toNat_lt;refine⟨_,by rw[if_pos hne,zwk],?_⟩;simp only[cmpL,hxy,if_false,z1xh];grind[z1p]
theorem z1rd(a b:ByteArray)(ha:WStr a)(hb:WStr b):zui a b=some (zd2 a b):=by
 obtain⟨o,ho,e⟩:=z1rc a b ha hb _ _ 0 rfl rfl (by omega) (by omega);unfold zui zd2 cmpS;rw[show(0:Int)=((0:Nat):Int)from rfl,ho];simp at e;rw[←e];cases o<;>simp
def z1dt:FnC Un:=fnF2 dStr dStr fun a b=>([],zag (zd2 a b),zah (zd2 a b))
theorem z21g:FnOK 135 z1dt:=fnK2 z3y z3y (M:=z2x) rfl ⟨zym,trivial⟩ trivial trivial trivial trivial Tryz.func135 fun a b=>fun w _=>z1xi (z1rd a b (wfA_ w 0) (wfA_ w 1))
def z3a:Nat→NS:=nsF_ [(2,{ts:=[true,false,true,true,false,false,false,false,false,false,false,false,false,false,false,false,false,false,false,false,false,false,false],bs:=[false,false,false,false,false,false,false,false,false,false,false,false,false,false,false,false,false,false,false,false,false,false,false],nm:=[],gb:=[],gs:=[]})] false
def z33(s:ByteArray)(v0:Int):S Un:=(st 23 23 92 0 [(0,AV.one (A.c (C.s (Value.string s)))),(2,AV.one (A.c (C.s (Value.bool false)))),(3,AV.one (A.c (C.s (Value.int IntKind.i64 v0))))] [] [])
theorem z21h(s:ByteArray)(K:List (A Un)→List (Ob Un)→Prop):
  awp z1dq z3a (ze Tryz.f74) (z2f Tryz.f74.ntmps 0 [.d (.v (cs s))]) (retQ z1dq Tryz.f74.results.toList [.d] K)=
(zu (z3a 2) (awp z1dq z3a (sub (ze Tryz.f74) [1,0,1,2,2])) (ctxK z1dq z3a (ze Tryz.f74) [1,0,1,2] (retQ z1dq Tryz.f74.results.toList [.d] K)) (z33 s (0:Int))):=by kernel_rfl
theorem zl1(s:ByteArray)(v0:Int)(k:Nat)(Q:Exit→S Un→Prop):
  z1a (z3a 2) (awp z1dq z3a (sub (ze Tryz.f74) [1,0,1,2,2])) Q (k+1) (z33 s v0)=
(cnd (decide (v0<(↑s.size:Int)))
 (((0:Int)≤v0∧v0<(↑s.size:Int))∧
 (cnd (decide ((↑(s.toList.getD v0.toNat (0:UInt8)).toNat:Int)<(32:Int)))
  (Q .ret (z33 s v0))
  (((0:Int)≤v0∧v0<(↑s.size:Int))∧
  (cnd (decide ((↑(s.toList.getD v0.toNat (0:UInt8)).toNat:Int)>(126:Int)))
   (Q .ret (z33 s v0))
   (z1a (z3a 2) (awp z1dq z3a (sub (ze Tryz.f74) [1,0,1,2,2])) Q k (z33 s (IntKind.i64.wrap (v0+(1:Int)))))))))
 (Q (.exit 0) (z33 s v0))):=by kernel_rfl
theorem z1hi(s:ByteArray)(v0:Int)(K:List (A Un)→List (Ob Un)→Prop):
  ctxK z1dq z3a (ze Tryz.f74) [1,0,1,2] (retQ z1dq Tryz.f74.results.toList [.d] K) .ret (z33 s v0)=
(K (zuc (false)) (zud (false))):=by kernel_rfl
theorem z1l9(s:ByteArray)(v0:Int)(K:List (A Un)→List (Ob Un)→Prop):
  ctxK z1dq z3a (ze Tryz.f74) [1,0,1,2] (retQ z1dq Tryz.f74.results.toList [.d] K) (.exit 0) (z33 s v0)=
(K (zuc (decide ((↑s.size:Int)≤(100:Int)))) (zud (decide ((↑s.size:Int)≤(100:Int))))):=by kernel_rfl
def zfd(s:ByteArray)(v:Int):Option ((Int) ⊕((Int) ⊕(Int))):=
  if(decide (v<(↑s.size:Int)))=true then
   if(0:Int)≤v∧v<(↑s.size:Int)then
    if(decide ((↑(s.toList.getD v.toNat (0:UInt8)).toNat:Int)<(32:Int)))=true then
     some (.inr (.inl v))
    else
     if(0:Int)≤v∧v<(↑s.size:Int)then
      if(decide ((↑(s.toList.getD v.toNat (0:UInt8)).toNat:Int)>(126:Int)))=true then
       some (.inr (.inl v))
      else
       some (.inl (IntKind.i64.wrap (v+(1:Int))))
     else none
   else none
  else
   some (.inr (.inr v))
def zfe(s:ByteArray)(v:Int):Option ((Int) ⊕(Int)):=zda (zfd s) v
theorem zwl(s:ByteArray)(v:Int):zfe s v=zol (zfe s) (zfd s v):=zu9 _ _
def zl2(s:ByteArray)(r:(Int) ⊕(Int))(Q:Exit→S Un→Prop):Prop:=match r with| .inl x=>Q .ret (z33 s x)| .inr x=>Q (.exit 0) (z33 s x)
theorem z1hj{s:ByteArray}{x:Int}{Q:Exit→S Un→Prop}(h:Q .ret (z33 s x)):zl2 s (.inl x) Q:=h
theorem z1la{s:ByteArray}{x:Int}{Q:Exit→S Un→Prop}(h:Q (.exit 0) (z33 s x)):zl2 s (.inr x) Q:=h
theorem zuj{s:ByteArray}{v:Int}{r:(Int) ⊕(Int)}(h:zfe s v=some r)(Q:Exit→S Un→Prop)(hQ:zl2 s r Q):zu (z3a 2) (awp z1dq z3a (sub (ze Tryz.f74) [1,0,1,2,2])) Q (z33 s v):=by
 refine@zua _ _ (zfd s) (fun v=>zu (z3a 2) (awp z1dq z3a (sub (ze Tryz.f74) [1,0,1,2,2])) Q (z33 s v)) (fun r=>zl2 s r Q) ?_ v r h hQ;intro v o h hI;rcases z14 h with⟨c1,h2⟩|⟨c1,h2⟩
 ·obtain⟨c3,h4⟩:=z9j h2;rcases z14 h4 with⟨c5,h6⟩|⟨c5,h6⟩
  ·cases h6;exact z4q 1 (mpr (zl1 s v 0 Q) (z1f c1 (And.intro c3 (z1f c5 hI))))
  ·obtain⟨c7,h8⟩:=z9j h6;rcases z14 h8 with⟨c9,h10⟩|⟨c9,h10⟩
   ·cases h10;exact z4q 1 (mpr (zl1 s v 0 Q) (z1f c1 (And.intro c3 (zw (zl c5) (And.intro c7 (z1f c9 hI))))))
   ·cases h10;obtain⟨k11,hk12⟩:=zsm hI;exact z4q (k11+1) (mpr (zl1 s v k11 Q) (z1f c1 (And.intro c3 (zw (zl c5) (And.intro c7 (zw (zl c9) hk12))))))
 ·cases h2;exact z4q 1 (mpr (zl1 s v 0 Q) (zw (zl c1) hI))
def zuk(s:ByteArray):Option (Bool):=
  (zfe s (0:Int))>>=fun o13=>match o13 with
   | .inl o14=>
     some (false)
   | .inr o15=>
     some (decide ((↑s.size:Int)≤(100:Int)))
theorem z1xj{s:ByteArray}{r:Bool}(h:zuk s=some r):Runs (awp z1dq z3a (ze Tryz.f74) (z2f Tryz.f74.ntmps 0 [.d (.v (cs s))]) (retQ z1dq Tryz.f74.results.toList [.d] fun rs os=>rs=zuc r∧os=zud r)):=by
 constructor;rw[z21h s (fun rs os=>rs=zuc r∧os=zud r)];obtain⟨o16,ho17,h18⟩:=bind_some h;rcases o16 with o19|o20
 ·cases h18;exact(zuj ho17 _ (z1hj (mpr (z1hi s o19 _) ⟨rfl,rfl⟩)))
 ·cases h18;exact(zuj ho17 _ (z1la (mpr (z1l9 s o20 _) ⟨rfl,rfl⟩)))
def zd3(s:ByteArray):Bool:=z10a s
@[simp] theorem z21i(s:ByteArray):zd3 s=z10a s:=by rfl
theorem z1re(s:ByteArray)(hs:WStr s):∀(r:List UInt8)(i:Nat),s.toList.drop i=r→
  ∃o,zfe s i=some o∧(match o with| .inl _=>false| .inr _=>true)=r.all (fun b=>decide (32≤b.toNat∧b.toNat≤126)):=by
 intro r
 induction r with
 |nil=>
  intro i h1;have e1:=zjr h1;rw[z38]at e1;simp at e1;have hn:¬((i:Int)<s.size):=by omega
  exact⟨.inr i,by rw[zwl,zfd];simp[hn],rfl⟩
 |cons x r ih=>
  intro i h1;obtain⟨a1,a2,a3,_⟩:=z32 h1;rw[z38]at a1;have hp:(i:Int)<s.size:=by omega
  have hi:(0:Int)≤i:=by omega
  rw[zwl,zfd];simp only[hp,hi,decide_true,if_true,and_self,y5,a2,decide_eq_true_eq,y1g];by_cases c1:(x.toNat:Int)<32
  ·exact⟨_,by rw[if_pos c1,zwk],by grind⟩
  ·rw[if_neg c1];by_cases c2:(x.toNat:Int)>126
   ·exact⟨_,by rw[if_pos c2,zwk],by grind⟩
   ·rw[if_neg c2,zwj a1 hs,zqj];grind
theorem z1rf(s:ByteArray)(hs:WStr s):zuk s=some (zd3 s):=by
 obtain⟨o,ho,e⟩:=z1re s hs _ 0 rfl;unfold zuk zd3 z10a;rw[show(0:Int)=((0:Nat):Int)from rfl,ho];simp only[y44]at e;rw[←e];cases o with
 |inl o=>simp
 |inr o=>simp;omega
def z1du:FnC Un:=fnF1 dStr fun s=>([],zuc (zd3 s),zud (zd3 s))
theorem z21j:FnOK 74 z1du:=fnK1 z3y (M:=z1dq) rfl trivial trivial trivial trivial trivial Tryz.func74 fun s=>fun w _=>z1xj (z1rf s (wfA_ w 0))
def zhp:Mc Un:=mcF_ [(73,zbm),(74,z1du)] [] [] [] []
theorem z21k(v:Val)(K:List (A Un)→List (Ob Un)→Prop):
  awp zhp z266 (ze Tryz.f38) (z2f Tryz.f38.ntmps 0 [.d (.agg (enc Ty.val v))]) (retQ zhp Tryz.f38.results.toList [.d] K)=
(cnd (v.kind==(0:Int))
 (cnd (v.n==(0:Int))
  (K (zuc (v.s.toList==(ByteArray.mk #[]).toList)) (zud (v.s.toList==(ByteArray.mk #[]).toList)))
  (K (zuc (false)) (zud (false))))
 (cnd (v.kind==(1:Int))
  (cnd (v.n==(0:Int))
   (K (zuc (v.s.toList==(ByteArray.mk #[]).toList)) (zud (v.s.toList==(ByteArray.mk #[]).toList)))
   (cnd (v.n==(1:Int))
    (K (zuc (v.s.toList==(ByteArray.mk #[]).toList)) (zud (v.s.toList==(ByteArray.mk #[]).toList)))
    (K (zuc (false)) (zud (false)))))
  (cnd (v.kind==(2:Int))
   (cnd (z1q v.n)
    (K (zuc (v.s.toList==(ByteArray.mk #[]).toList)) (zud (v.s.toList==(ByteArray.mk #[]).toList)))
    (K (zuc (false)) (zud (false))))
   (cnd (v.kind==(3:Int))
    (cnd (v.n==(0:Int))
     (K (zuc (zd3 v.s)) (zud (zd3 v.s)))
     (K (zuc (false)) (zud (false))))
    (K (zuc (false)) (zud (false))))))):=by kernel_rfl
def zul(v:Val):Option (Bool):=
  if(v.kind==(0:Int))=true then
   if(v.n==(0:Int))=true then
    some (v.s.toList==(ByteArray.mk #[]).toList)
   else
    some (false)
  else
   if(v.kind==(1:Int))=true then
    if(v.n==(0:Int))=true then
     some (v.s.toList==(ByteArray.mk #[]).toList)
    else
     if(v.n==(1:Int))=true then
      some (v.s.toList==(ByteArray.mk #[]).toList)
     else
      some (false)
   else
    if(v.kind==(2:Int))=true then
     if(z1q v.n)=true then
      some (v.s.toList==(ByteArray.mk #[]).toList)
     else
      some (false)
    else
     if(v.kind==(3:Int))=true then
      if(v.n==(0:Int))=true then
       some (zd3 v.s)
      else
       some (false)
     else
      some (false)
theorem z1xk{v:Val}{r:Bool}(h:zul v=some r):Runs (awp zhp z266 (ze Tryz.f38) (z2f Tryz.f38.ntmps 0 [.d (.agg (enc Ty.val v))]) (retQ zhp Tryz.f38.results.toList [.d] fun rs os=>rs=zuc r∧os=zud r)):=by
 constructor;rw[z21k v (fun rs os=>rs=zuc r∧os=zud r)];rcases z14 h with⟨c1,h2⟩|⟨c1,h2⟩
 ·rcases z14 h2 with⟨c3,h4⟩|⟨c3,h4⟩
  ·cases h4;exact(z1f c1 (z1f c3 ⟨rfl,rfl⟩))
  ·cases h4;exact(z1f c1 (zw (zl c3) ⟨rfl,rfl⟩))
 ·rcases z14 h2 with⟨c5,h6⟩|⟨c5,h6⟩
  ·rcases z14 h6 with⟨c7,h8⟩|⟨c7,h8⟩
   ·cases h8;exact(zw (zl c1) (z1f c5 (z1f c7 ⟨rfl,rfl⟩)))
   ·rcases z14 h8 with⟨c9,h10⟩|⟨c9,h10⟩
    ·cases h10;exact(zw (zl c1) (z1f c5 (zw (zl c7) (z1f c9 ⟨rfl,rfl⟩))))
    ·cases h10;exact(zw (zl c1) (z1f c5 (zw (zl c7) (zw (zl c9) ⟨rfl,rfl⟩))))
  ·rcases z14 h6 with⟨c11,h12⟩|⟨c11,h12⟩
   ·rcases z14 h12 with⟨c13,h14⟩|⟨c13,h14⟩
    ·cases h14;exact(zw (zl c1) (zw (zl c5) (z1f c11 (z1f c13 ⟨rfl,rfl⟩))))
    ·cases h14;exact(zw (zl c1) (zw (zl c5) (z1f c11 (zw (zl c13) ⟨rfl,rfl⟩))))
   ·rcases z14 h12 with⟨c15,h16⟩|⟨c15,h16⟩
    ·rcases z14 h16 with⟨c17,h18⟩|⟨c17,h18⟩
     ·cases h18;exact(zw (zl c1) (zw (zl c5) (zw (zl c11) (z1f c15 (z1f c17 ⟨rfl,rfl⟩)))))
     ·cases h18;exact(zw (zl c1) (zw (zl c5) (zw (zl c11) (z1f c15 (zw (zl c17) ⟨rfl,rfl⟩)))))
    ·cases h16;exact(zw (zl c1) (zw (zl c5) (zw (zl c11) (zw (zl c15) ⟨rfl,rfl⟩))))
@[simp] theorem z17d(v:Val):zbn v=z7s v:=by rfl
theorem z1rg(v:Val)(_hv:WS .val v):zul v=some (zbn v):=by
 unfold zul zbn z7s;simp only[beq_iff_eq,z215,zyi,z21i];grind
theorem z17e:FnOK 38 z14f:=fnK1 zr (M:=zhp) rfl ⟨z2ek,z21j,trivial⟩ trivial trivial trivial trivial Tryz.func38 fun v=>fun w _=>z1xk (z1rg v (wfA_ w 0))
def zhq:Mc Un:=mcF_ [(83,zso),(135,z1dt)] [] [] [] []
theorem z21l(a:Val)(b:Val)(K:List (A Un)→List (Ob Un)→Prop):
  awp zhq z266 (ze Tryz.f82) (z2f Tryz.f82.ntmps 0 [.d (.agg (enc Ty.val a)),.d (.agg (enc Ty.val b))]) (retQ zhq Tryz.f82.results.toList [.d] K)=
(cnd (a.kind !=b.kind)
 (K (zag (z3j a.kind b.kind)) (zah (z3j a.kind b.kind)))
 (cnd (a.n !=b.n)
  (K (zag (z3j a.n b.n)) (zah (z3j a.n b.n)))
  (K (zag (zd2 a.s b.s)) (zah (zd2 a.s b.s))))):=by kernel_rfl
def zum(a:Val)(b:Val):Option (Int):=
  if(a.kind !=b.kind)=true then
   some (z3j a.kind b.kind)
  else
   if(a.n !=b.n)=true then
    some (z3j a.n b.n)
   else
    some (zd2 a.s b.s)
theorem z1xl{a:Val}{b:Val}{r:Int}(h:zum a b=some r):Runs (awp zhq z266 (ze Tryz.f82) (z2f Tryz.f82.ntmps 0 [.d (.agg (enc Ty.val a)),.d (.agg (enc Ty.val b))]) (retQ zhq Tryz.f82.results.toList [.d] fun rs os=>rs=zag r∧os=zah r)):=by
 constructor;rw[z21l a b (fun rs os=>rs=zag r∧os=zah r)];rcases z14 h with⟨c1,h2⟩|⟨c1,h2⟩
 ·cases h2;exact(z1f c1 ⟨rfl,rfl⟩)
 ·rcases z14 h2 with⟨c3,h4⟩|⟨c3,h4⟩
  ·cases h4;exact(zw (zl c1) (z1f c3 ⟨rfl,rfl⟩))
  ·cases h4;exact(zw (zl c1) (zw (zl c3) ⟨rfl,rfl⟩))
def zb4(a b:Val):Int:=ordV a b
@[simp] theorem z21m(a b:Val):zb4 a b=ordV a b:=by rfl
theorem z1rh(a b:Val)(_ha:WS .val a)(_hb:WS .val b):zum a b=some (zb4 a b):=by
 unfold zum zb4 ordV;simp;grind
def z1dx:FnC Un:=fnF2 (dS .val) (dS .val) fun a b=>([],zag (zb4 a b),zah (zb4 a b))
theorem z21n:FnOK 82 z1dx:=fnK2 zr zr (M:=zhq) rfl ⟨zym,z21g,trivial⟩ trivial trivial trivial trivial Tryz.func82 fun a b=>fun w _=>z1xl (z1rh a b (wfA_ w 0) (wfA_ w 1))
def z2l:Mc Un:=mcF_ [(82,z1dx),(83,zso)] [] [] [] []
def z2s:Nat→NS:=nsF_ [(2,{ts:=[true,true,false,false,true,true,false,false,false,false,false,false,false,false,false,false,false,false,false,false,false,false,false,false,false,false,false,false,false,false,false,false,false,false,false,false,false,false,false,false,false,false],bs:=[false,false,false,false,false,false,false,false,false,false,false,false,false,false,false,false,false,false,false,false,false,false,false,false,false,false,false,false,false,false,false,false,false,false,false,false,false,false,false,false,false,false],nm:=[],gb:=[],gs:=[]})] false
def z4y(a:List Val)(b:List Val)(v0:Int):S Un:=(st 42 42 168 0 [(0,AV.one (A.c (C.sl Ty.val a false))),(1,AV.one (A.c (C.sl Ty.val b false))),(4,AV.one (A.c (C.s (Value.int IntKind.i64 (0:Int))))),(5,AV.one (A.c (C.s (Value.int IntKind.i64 v0))))] [] [])
def zbz(a:List Val)(b:List Val)(v0:Int)(v1:Int):S Un:=(st 42 42 168 0 [(0,AV.one (A.c (C.sl Ty.val a false))),(1,AV.one (A.c (C.sl Ty.val b false))),(4,AV.one (A.c (C.s (Value.int IntKind.i64 v1)))),(5,AV.one (A.c (C.s (Value.int IntKind.i64 v0))))] [] [])
theorem z1xm(a:List Val)(b:List Val)(K:List (A Un)→List (Ob Un)→Prop):
  awp z2l z2s (ze Tryz.f43) (z2f Tryz.f43.ntmps 0 [.d (.v (.dat (U:=Un) Ty.val a)),.d (.v (.dat (U:=Un) Ty.val b))]) (retQ z2l Tryz.f43.results.toList [.d] K)=
(zu (z2s 2) (awp z2l z2s (sub (ze Tryz.f43) [1,0,1,2,2])) (ctxK z2l z2s (ze Tryz.f43) [1,0,1,2] (retQ z2l Tryz.f43.results.toList [.d] K)) (z4y a b (0:Int))):=by kernel_rfl
theorem zik(a:List Val)(b:List Val)(v0:Int)(k:Nat)(Q:Exit→S Un→Prop):
  z1a (z2s 2) (awp z2l z2s (sub (ze Tryz.f43) [1,0,1,2,2])) Q (k+1) (z4y a b v0)=
(cnd (decide (v0<(↑a.length:Int)))
 (cnd (decide (v0<(↑b.length:Int)))
  (((0:Int)≤v0∧v0<(↑a.length:Int))∧
  (((0:Int)≤v0∧v0<(↑b.length:Int))∧
  (cnd (zb4 (a.getD v0.toNat z7) (b.getD v0.toNat z7) !=(0:Int))
   (((0:Int)≤v0∧v0<(↑a.length:Int))∧
   (((0:Int)≤v0∧v0<(↑b.length:Int))∧
   (Q .ret (zbz a b v0 (zb4 (a.getD v0.toNat z7) (b.getD v0.toNat z7))))))
   (z1a (z2s 2) (awp z2l z2s (sub (ze Tryz.f43) [1,0,1,2,2])) Q k (z4y a b (IntKind.i64.wrap (v0+(1:Int))))))))
  (Q (.exit 0) (z4y a b v0)))
 (Q (.exit 0) (z4y a b v0))):=by kernel_rfl
theorem z1ch(a:List Val)(b:List Val)(v0:Int)(v1:Int)(K:List (A Un)→List (Ob Un)→Prop):
  ctxK z2l z2s (ze Tryz.f43) [1,0,1,2] (retQ z2l Tryz.f43.results.toList [.d] K) .ret (zbz a b v0 v1)=
(K (zag (v1)) (zah (v1))):=by kernel_rfl
theorem z1hk(a:List Val)(b:List Val)(v0:Int)(K:List (A Un)→List (Ob Un)→Prop):
  ctxK z2l z2s (ze Tryz.f43) [1,0,1,2] (retQ z2l Tryz.f43.results.toList [.d] K) (.exit 0) (z4y a b v0)=
(K (zag (z3j (↑a.length:Int) (↑b.length:Int))) (zah (z3j (↑a.length:Int) (↑b.length:Int)))):=by kernel_rfl
def zaj(a:List Val)(b:List Val)(v:Int):Option ((Int) ⊕((Int×Int) ⊕(Int))):=
  if(decide (v<(↑a.length:Int)))=true then
   if(decide (v<(↑b.length:Int)))=true then
    if(0:Int)≤v∧v<(↑a.length:Int)then
     if(0:Int)≤v∧v<(↑b.length:Int)then
      if(zb4 (a.getD v.toNat z7) (b.getD v.toNat z7) !=(0:Int))=true then
       if(0:Int)≤v∧v<(↑a.length:Int)then
        if(0:Int)≤v∧v<(↑b.length:Int)then
         some (.inr (.inl (v,(zb4 (a.getD v.toNat z7) (b.getD v.toNat z7)))))
        else none
       else none
      else
       some (.inl (IntKind.i64.wrap (v+(1:Int))))
     else none
    else none
   else
    some (.inr (.inr v))
  else
   some (.inr (.inr v))
def zdu(a:List Val)(b:List Val)(v:Int):Option ((Int×Int) ⊕(Int)):=zda (zaj a b) v
theorem zjt(a:List Val)(b:List Val)(v:Int):zdu a b v=zol (zdu a b) (zaj a b v):=zu9 _ _
def zil(a:List Val)(b:List Val)(r:(Int×Int) ⊕(Int))(Q:Exit→S Un→Prop):Prop:=match r with| .inl x=>Q .ret (zbz a b x.1 x.2)| .inr x=>Q (.exit 0) (z4y a b x)
theorem z1ci{a:List Val}{b:List Val}{x:Int×Int}{Q:Exit→S Un→Prop}(h:Q .ret (zbz a b x.1 x.2)):zil a b (.inl x) Q:=h
theorem z1hl{a:List Val}{b:List Val}{x:Int}{Q:Exit→S Un→Prop}(h:Q (.exit 0) (z4y a b x)):zil a b (.inr x) Q:=h
theorem zsf{a:List Val}{b:List Val}{v:Int}{r:(Int×Int) ⊕(Int)}(h:zdu a b v=some r)(Q:Exit→S Un→Prop)(hQ:zil a b r Q):zu (z2s 2) (awp z2l z2s (sub (ze Tryz.f43) [1,0,1,2,2])) Q (z4y a b v):=by
 refine@zua _ _ (zaj a b) (fun v=>zu (z2s 2) (awp z2l z2s (sub (ze Tryz.f43) [1,0,1,2,2])) Q (z4y a b v)) (fun r=>zil a b r Q) ?_ v r h hQ;intro v o h hI;rcases z14 h with⟨c1,h2⟩|⟨c1,h2⟩
 ·rcases z14 h2 with⟨c3,h4⟩|⟨c3,h4⟩
  ·obtain⟨c5,h6⟩:=z9j h4;obtain⟨c7,h8⟩:=z9j h6;rcases z14 h8 with⟨c9,h10⟩|⟨c9,h10⟩
   ·obtain⟨c11,h12⟩:=z9j h10;obtain⟨c13,h14⟩:=z9j h12;cases h14;exact z4q 1 (mpr (zik a b v 0 Q) (z1f c1 (z1f c3 (And.intro c5 (And.intro c7 (z1f c9 (And.intro c11 (And.intro c13 hI))))))))
   ·cases h10;obtain⟨k15,hk16⟩:=zsm hI;exact z4q (k15+1) (mpr (zik a b v k15 Q) (z1f c1 (z1f c3 (And.intro c5 (And.intro c7 (zw (zl c9) hk16))))))
  ·cases h4;exact z4q 1 (mpr (zik a b v 0 Q) (z1f c1 (zw (zl c3) hI)))
 ·cases h2;exact z4q 1 (mpr (zik a b v 0 Q) (zw (zl c1) hI))
def zri(a:List Val)(b:List Val):Option (Int):=
  (zdu a b (0:Int))>>=fun o17=>match o17 with
   | .inl o18=>
     some (o18.2)
   | .inr o19=>
     some (z3j (↑a.length:Int) (↑b.length:Int))
theorem z1ri{a:List Val}{b:List Val}{r:Int}(h:zri a b=some r):Runs (awp z2l z2s (ze Tryz.f43) (z2f Tryz.f43.ntmps 0 [.d (.v (.dat (U:=Un) Ty.val a)),.d (.v (.dat (U:=Un) Ty.val b))]) (retQ z2l Tryz.f43.results.toList [.d] fun rs os=>rs=zag r∧os=zah r)):=by
 constructor;rw[z1xm a b (fun rs os=>rs=zag r∧os=zah r)];obtain⟨o20,ho21,h22⟩:=bind_some h;rcases o20 with o23|o24
 ·cases h22;exact(zsf ho21 _ (z1ci (mpr (z1ch a b o23.1 o23.2 _) ⟨rfl,rfl⟩)))
 ·cases h22;exact(zsf ho21 _ (z1hl (mpr (z1hk a b o24 _) ⟨rfl,rfl⟩)))
def z7f(a b:List Val):Int:=ordR a b
@[simp] theorem z1xn(a b:List Val):z7f a b=ordR a b:=by rfl
theorem z1lb(a b:List Val)(ha:WL .val a)(hb:WL .val b):∀(ra rb:List Val)(i:Nat),a.drop i=ra→b.drop i=rb→i≤a.length→i≤b.length→
  ∃o,zdu a b i=some o∧(match o with| .inl o=>o.2| .inr _=>cmpI a.length b.length)=ordR ra rb:=by
 intro ra
 induction ra with
 |nil=>
  intro rb i h1 h2 h3 h4;have e1:=zjr h1;have e2:=zjr h2;simp at e1;have hn:¬((i:Int)<a.length):=by omega
  refine⟨.inr i,by rw[zjt,zaj];simp[hn],?_⟩;simp;cases rb with
  |nil=>simp at e2;unfold cmpI ordR;omega
  |cons y rb=>simp at e2;unfold cmpI ordR;omega
 |cons x ra ih=>
  intro rb i h1 h2 h3 h4;obtain⟨a1,a2,a3,_⟩:=z32 h1;have hp:(i:Int)<a.length:=by omega
  cases rb with
  |nil=>
   have e2:=zjr h2;simp at e2;have hn:¬((i:Int)<b.length):=by omega
   refine⟨.inr i,by rw[zjt,zaj];simp[*],?_⟩;simp;unfold cmpI ordR;omega
  |cons y rb=>
   obtain⟨b1,b2,b3,_⟩:=z32 h2;have hq:(i:Int)<b.length:=by omega
   have hi:(0:Int)≤i:=by omega
   rw[zjt,zaj];simp only[hp,hq,hi,decide_true,if_true,true_and,and_self,y5,a2,b2,bne_iff_ne,ne_eq,ite_not,z21m];by_cases hxy:ordV x y=0
   ·rw[if_pos hxy,zwj a1 ha.len];simpa only[ordR,hxy,if_true,zqj]using ih rb (i+1) a3 b3 (by omega) (by omega)
   simp_all[if_neg,zwk,ordR,if_false]
theorem z1lc(a b:List Val)(ha:WL .val a)(hb:WL .val b):zri a b=some (z7f a b):=by
 obtain⟨o,ho,e⟩:=z1lb a b ha hb _ _ 0 rfl rfl (by omega) (by omega);unfold zri z7f;rw[show(0:Int)=((0:Nat):Int)from rfl,ho];simp at e;rw[←e];cases o<;>simp
def zun:FnC Un:=fnF2 (dL .val) (dL .val) fun a b=>([],zag (z7f a b),zah (z7f a b))
theorem z14g:FnOK 43 zun:=fnK2 zx zx (M:=z2l) rfl ⟨z21n,zym,trivial⟩ trivial trivial trivial trivial Tryz.func43 fun a b=>fun w _=>z1ri (z1lc a b (wfA_ w 0) (wfA_ w 1))
end
end B
namespace B
open Go Go.RowKit
set_option maxRecDepth 100000
noncomputable section
attribute [local irreducible] awp ctxK zu z1a retQ z1m awf ctxF z1k
def z2b(r:Int):RF Un:=([.c (.s (.int .i64 r))],[])
def z1dy(op:Int):Option (RF Un):=fnF_ z1dq z266 Tryz.f59 0 [.d] [.d (.v (.s (.int .i64 op)))]
def zbp(op:Int):Option (RF Un):=cndO (op==5) (cndO (op==5) (some (z2b ((2:Int)))) (some (z2b ((-1:Int))))) (cndO (op==6) (cndO (op==6) (some (z2b ((2:Int)))) (some (z2b ((-1:Int))))) (cndO (op==9) (cndO (op==9) (some (z2b ((2:Int)))) (some (z2b ((-1:Int))))) (cndO (op==10) (cndO (op==10) (some (z2b ((2:Int)))) (some (z2b ((-1:Int))))) (cndO (op==11) (some (z2b ((2:Int)))) (some (z2b ((-1:Int))))))))
def zyo(op:Int):Option (RF Un):=cndO (op==3) (cndO (op==3) (some (z2b ((1:Int)))) (zbp op)) (cndO (op==4) (cndO (op==4) (some (z2b ((1:Int)))) (zbp op)) (cndO (op==7) (cndO (op==7) (some (z2b ((1:Int)))) (zbp op)) (cndO (op==8) (cndO (op==8) (some (z2b ((1:Int)))) (zbp op)) (cndO (op==12) (cndO (op==12) (some (z2b ((1:Int)))) (zbp op)) (cndO (op==13) (some (z2b ((1:Int)))) (zbp op))))))
theorem z26b(op:Int):z1dy op=cndO (op==1) (cndO (op==1) (some (z2b ((0:Int)))) (zyo op)) (cndO (op==2) (some (z2b ((0:Int)))) (zyo op)):=by kernel_rfl
def zfi(op:Int):Int:=z3q op
def z2w(r:Rel):Int:=z27 r
theorem z1dz(op:Int):zfi op=z3q op:=by rfl
theorem za2(r:Rel):z2w r=z27 r:=by rfl
theorem z1hm{β:Type}(a b:Bool)(x y:Option β):cndO a (cndO a x y) (cndO b x y)=cndO (a||b) x y:=by cases a<;>cases b<;>rfl
theorem z1xo(op:Int)(_h:WI op):z1dy op=some (z2b (zfi op)):=by
 have e:∀x:Option (RF Un),(cndO (op==11) (cndO (op==11) (some (z2b ((2:Int)))) x) x)=cndO (op==11) (some (z2b ((2:Int)))) x:=fun x=>by cases op==11<;>rfl
 rw[z26b];unfold zfi zyo zbp z3q;simp only[e,z1hm];simp only[z8,y1h,beq_iff_eq];grind
def z12y:FnC Un:=fnF1 (dI .i64) fun op=>([],z2b (zfi op))
theorem z1e0:FnOK 59 z12y:=fnK1 z1c (M:=z1dq) rfl trivial trivial trivial trivial trivial Tryz.func59 fun op=>GiF.r fun w _=>z1xo op (wfA_ w 0)
def zuo(m:Nat):FnC Un:=fnF1 (dS .rel) fun r=>z2k (r.ht) m ([],z2b (z2w r))
def z1e1(m:Nat):Mc Un:=mcF_ [(59,z12y),(19,zuo m)] [] [] [] []
def z17f(r:Rel):=z2w (Rel.mk (Rel.op (r.kids.getD 0 za)) (Rel.table (r.kids.getD 0 za)) (Rel.cols (r.kids.getD 0 za)) (Rel.kids (r.kids.getD 0 za)) (Rel.terms (r.kids.getD 0 za)) (Rel.aggs (r.kids.getD 0 za)) (Rel.keys (r.kids.getD 0 za)) (Rel.limit (r.kids.getD 0 za)) (Rel.skip (r.kids.getD 0 za)) (Rel.all (r.kids.getD 0 za)) (Rel.rows (r.kids.getD 0 za)))
def z17g(m:Nat)(r:Rel):Option (RF Un):=fnF_ (z1e1 m) z266 Tryz.f19 0 [.d] [.d (.agg (enc Ty.rel r))]
def zup(m:Nat)(r:Rel):Option (RF Un):=obO ((0:Int)≤(0:Int)∧(0:Int)<(↑r.kids.length:Int)) (obO ((Rel.ids (r.kids.getD 0 za)).ht<m) (obO ((0:Int)≤(1:Int)∧(1:Int)<(↑r.kids.length:Int)) (obO ((Rel.ids (r.kids.getD 1 za)).ht<m) (some (z2b (IntKind.i64.wrap (z2w (Rel.ids (r.kids.getD 0 za))+z2w (Rel.ids (r.kids.getD 1 za)))))))))
def zuq(m:Nat)(r:Rel):Option (RF Un):=cndO (r.op==7) (some (z2b (IntKind.i64.wrap ((↑r.terms.length:Int)+(↑r.aggs.length:Int))))) (obO ((0:Int)≤(0:Int)∧(0:Int)<(↑r.kids.length:Int)) (obO ((Rel.ids (r.kids.getD 0 za)).ht<m) (some (z2b (z17f r)))))
def zur(m:Nat)(r:Rel):Option (RF Un):=cndO (r.op==4) (some (z2b ((↑r.terms.length:Int)))) (cndO (r.op==5) (cndO (r.op==5) (zup m r) (zuq m r)) (cndO (r.op==6) (zup m r) (zuq m r)))
theorem z21o(m:Nat)(r:Rel):z17g m r=cndO (decide (zfi r.op<0)) (some (z2b ((0:Int)))) (cndO (decide ((↑r.kids.length:Int)<zfi r.op)) (some (z2b ((0:Int)))) (cndO (r.op==1) (cndO (r.op==1) (some (z2b ((↑r.cols.length:Int)))) (zur m r)) (cndO (r.op==2) (some (z2b ((↑r.cols.length:Int)))) (zur m r)))):=by kernel_rfl
theorem z1rj(m:Nat)(r:Rel)(_hr:WS .rel r)(hm:r.ht<m+1):z17g m r=some (z2b (z2w r)):=by
 have k0:0<r.kids.length→(r.kids.getD 0 za).ht<m:=fun h=>by have:=Rel.ht_kid (z8i (d:=za) (l:=r.kids) h);omega
 have k1:1<r.kids.length→(r.kids.getD 1 za).ht<m:=fun h=>by have:=Rel.ht_kid (z8i (d:=za) (l:=r.kids) h);omega
 rw[z21o];unfold zur;rw[z1hm,z1hm,za2 r,zkc r];simp only[z8,beq_iff_eq,decide_eq_true_eq,z1dz,y1h];by_cases c1:z3q r.op<0
 ·grind
 by_cases c2:(r.kids.length:Int)<z3q r.op
 ·grind
 by_cases h1:r.op=1∨r.op=2
 ·grind
 have hn:=z2eh c1 h1;by_cases h4:r.op=4
 ·grind
 have hl0:0<r.kids.length:=by omega
 have g0:=zbo r.kids 0 hl0;by_cases h56:r.op=5∨r.op=6
 ·have ht:=z17b h56;have hl1:1<r.kids.length:=by omega
  have g1:=zbo r.kids 1 hl1;unfold zup;grind[Rel.ids_eq,za2,z6]
 ·unfold zuq;rw[z8];by_cases h7:r.op=7
  ·grind
  simp_all[if_neg,z17f,z2kn,Rel.ids_eq,za2,z6]
abbrev z1e2(m:Nat):Prop:=FnOK 19 (zuo m)
theorem z1xp(m:Nat)(hG:z1e2 m):FnOK 19 (zuo (m+1)):=fnK1 zr (M:=(z1e1 m)) rfl ⟨z1e0,hG,trivial⟩ trivial trivial trivial trivial Tryz.func19 fun r=>GiF.r fun w o=>z1rj m r (wfA_ w 0) (obA_ o 0)
theorem zwm:∀m,z1e2 m
 |0=>fnZ1
 |m+1=>z1xp m (zwm m)
def zhr:FnC Un:=fnF1 (dS .rel) fun r=>([],z2b (z2w r))
theorem zl3:FnOK 19 zhr:=fnA1 fun m=>(zwm m)
end
end B
namespace B
open Go Go.RowKit
set_option maxRecDepth 100000
noncomputable section
attribute [local irreducible] awp ctxK zu z1a retQ z1m awf ctxF z1k
theorem z10c{β:Type}(a b:Bool)(x y:Option β):cndO a x (cndO b x y)=cndO (a||b) x y:=by cases a<;>rfl
theorem z2t{α β:Type}{L:S Un→Option (EX Un)}{st:Int→S Un}{C:Exit→S Un→Option β}(R:Bool→Option β){l:List α}{d:α}{e:Exit}(q:α→Bool)(hl:l.length≤9223372036854775807)
  (step:∀(i:Nat)(x:α),(i:Int)<(l.length:Int)→l.getD i d=x→x∈l→L (st i)=if q x=true then L (st (IntKind.i64.wrap ((i:Int)+1)))else some (.ret,st i))
  (stop:L (st (l.length:Int))=some (e,st (l.length:Int)))(r1:∀i:Int,C .ret (st i)=R false)(r2:∀i:Int,C e (st i)=R true):(L (st 0)).bind (zd C)=R (l.all q):=by
 have key:∀(r:List α)(i:Nat),l.drop i=r→i≤l.length→(L (st i)).bind (zd C)=R (r.all q):=by
  intro r
  induction r with
  |nil=>
   intro i hr hi;have:l.length≤i:=y1o.1 hr;have e:i=l.length:=by omega
   rw[e,stop];exact r2 _
  |cons x r ih=>
   intro i hr hi;have hlt:i<l.length:=by
    grind
   have hx:l.getD i d=x:=by
    have:=y24 (xs:=l) (i:=i) (j:=0);grind
   have hm:x∈l:=by grind
   have hr2:l.drop (i+1)=r:=by grind[List.tail_drop]
   rw[step i x (by omega) hx hm,y1g];cases hq:q x
   ·exact r1 _
   ·rw[if_pos rfl,z1p (by omega),y1c];grind
 grind
def z2m(env:List Int)(n:Nat):Prop:=env.length+n≤8000000
def z7g(r:Int×Int×Bool):RF Un:=([.c (.s (.int .i64 r.1)),.c (.s (.int .i64 r.2.1)),.c (.s (.bool r.2.2))],[])
def z26d:Nat→NS:=nsF_ [] true
def z17h(name:ByteArray):Option (RF Un):=fnF_ z1dq z26d Tryz.f104 0 [.d,.d,.d] [.d (.v (cs name))]
theorem z21p(name:ByteArray):z17h name=cndO (name.toList==(ByteArray.mk #[108,101,110,103,116,104]).toList) (some (z7g ((1:Int),(1:Int),true))) (cndO (name.toList==(ByteArray.mk #[108,111,119,101,114]).toList) (some (z7g ((1:Int),(1:Int),true))) (cndO (name.toList==(ByteArray.mk #[117,112,112,101,114]).toList) (some (z7g ((1:Int),(1:Int),true))) (cndO (name.toList==(ByteArray.mk #[97,98,115]).toList) (some (z7g ((1:Int),(1:Int),true))) (cndO (name.toList==(ByteArray.mk #[110,117,108,108,105,102]).toList) (some (z7g ((2:Int),(2:Int),true))) (cndO (name.toList==(ByteArray.mk #[99,111,97,108,101,115,99,101]).toList) (some (z7g ((1:Int),(1099511627776:Int),true))) (some (z7g ((0:Int),(0:Int),false)))))))):=by kernel_rfl
def zfj(name:ByteArray):Int×Int×Bool:=
  if(name.toList==(ByteArray.mk #[(108:UInt8),(101:UInt8),(110:UInt8),(103:UInt8),(116:UInt8),(104:UInt8)]).toList)=true then
   ((1:Int),(1:Int),true)
  else
   if(name.toList==(ByteArray.mk #[(108:UInt8),(111:UInt8),(119:UInt8),(101:UInt8),(114:UInt8)]).toList)=true then
    ((1:Int),(1:Int),true)
   else
    if(name.toList==(ByteArray.mk #[(117:UInt8),(112:UInt8),(112:UInt8),(101:UInt8),(114:UInt8)]).toList)=true then
     ((1:Int),(1:Int),true)
    else
     if(name.toList==(ByteArray.mk #[(97:UInt8),(98:UInt8),(115:UInt8)]).toList)=true then
      ((1:Int),(1:Int),true)
     else
      if(name.toList==(ByteArray.mk #[(110:UInt8),(117:UInt8),(108:UInt8),(108:UInt8),(105:UInt8),(102:UInt8)]).toList)=true then
       ((2:Int),(2:Int),true)
      else
       if(name.toList==(ByteArray.mk #[(99:UInt8),(111:UInt8),(97:UInt8),(108:UInt8),(101:UInt8),(115:UInt8),(99:UInt8),(101:UInt8)]).toList)=true then
        ((1:Int),(1099511627776:Int),true)
       else
        ((0:Int),(0:Int),false)
theorem z21q(name:ByteArray):z17h name=some (z7g (zfj name)):=by grind[z21p,zfj,z8]
def z1e4:FnC Un:=fnF1 dStr fun name=>([],z7g (zfj name))
theorem z21r:FnOK 104 z1e4:=fnK1 z3y (M:=z1dq) rfl trivial trivial trivial trivial trivial Tryz.func104 fun name=>GiF.r fun _ _=>z21q name
def z21s:Mc Un:=mcF_ [(104,z1e4)] [] [] [] []
def z1vh(t:Term):Option (RF Un):=fnF_ z21s z26d Tryz.f56 0 [.d,.d,.d] [.d (.agg (enc Ty.term t))]
theorem z2el(t:Term):z1vh t=cndO (t.op==1) (some (z7g ((0:Int),(0:Int),true))) (cndO (t.op==2) (some (z7g ((0:Int),(0:Int),true))) (cndO (t.op==26) (some (z7g ((0:Int),(0:Int),true))) (cndO (t.op==27) (some (z7g ((0:Int),(0:Int),true))) (cndO (t.op==3) (some (z7g ((1:Int),(1:Int),true))) (cndO (t.op==4) (some (z7g ((1:Int),(1:Int),true))) (cndO (t.op==19) (some (z7g ((1:Int),(1:Int),true))) (cndO (t.op==28) (some (z7g ((1:Int),(1:Int),true))) (cndO (t.op==5) (some (z7g ((2:Int),(2:Int),true))) (cndO (t.op==6) (some (z7g ((2:Int),(2:Int),true))) (cndO (t.op==7) (some (z7g ((2:Int),(2:Int),true))) (cndO (t.op==8) (some (z7g ((2:Int),(2:Int),true))) (cndO (t.op==9) (some (z7g ((2:Int),(2:Int),true))) (cndO (t.op==10) (some (z7g ((2:Int),(2:Int),true))) (cndO (t.op==11) (some (z7g ((2:Int),(2:Int),true))) (cndO (t.op==12) (some (z7g ((2:Int),(2:Int),true))) (cndO (t.op==13) (some (z7g ((2:Int),(2:Int),true))) (cndO (t.op==14) (some (z7g ((2:Int),(2:Int),true))) (cndO (t.op==15) (some (z7g ((2:Int),(2:Int),true))) (cndO (t.op==16) (some (z7g ((2:Int),(2:Int),true))) (cndO (t.op==17) (some (z7g ((2:Int),(2:Int),true))) (cndO (t.op==18) (some (z7g ((2:Int),(2:Int),true))) (cndO (t.op==20) (some (z7g ((2:Int),(2:Int),true))) (cndO (t.op==22) (some (z7g ((3:Int),(3:Int),true))) (cndO (t.op==21) (some (z7g ((2:Int),(1099511627776:Int),true))) (cndO (t.op==23) (some (z7g ((2:Int),(1099511627776:Int),true))) (cndO (t.op==24) (some (z7g ((zfj t.name).fst,(zfj t.name).snd.fst,(zfj t.name).snd.snd))) (some (z7g ((0:Int),(0:Int),false))))))))))))))))))))))))))))):=by kernel_rfl
def zhs(t:Term):Int×Int×Bool:=
 if t.op=1∨t.op=2∨t.op=26∨t.op=27 then(0,0,true)
 else if t.op=3∨t.op=4∨t.op=19∨t.op=28 then(1,1,true)
 else if t.op=5∨t.op=6∨t.op=7∨t.op=8∨t.op=9∨t.op=10∨t.op=11∨t.op=12∨t.op=13∨t.op=14∨t.op=15∨t.op=16∨t.op=17∨t.op=18∨t.op=20 then(2,2,true)
 else if t.op=22 then(3,3,true)
 else if t.op=21∨t.op=23 then(2,1099511627776,true)
 else if t.op=24 then zfj t.name
 else(0,0,false)
theorem z26e(t:Term)(_ht:WS .term t):z1vh t=some (z7g (zhs t)):=by
 rw[z2el];unfold zhs;simp only[z10c];simp only[z8,y1h,beq_iff_eq];grind
def z21t:FnC Un:=fnF1 (dS .term) fun t=>([],z7g (zhs t))
theorem z2em:FnOK 56 z21t:=fnK1 zr (M:=z21s) rfl ⟨z21r,trivial⟩ trivial trivial trivial trivial Tryz.func56 fun t=>GiF.r fun w _=>z26e t (wfA_ w 0)
def z1e5(t:Term):Option (RF Un):=fnF_ z1dq z26d Tryz.f57 0 [.d] [.d (.agg (enc Ty.term t))]
theorem z26f(t:Term):z1e5 t=cndO (t.op==26) (some (z2b ((1:Int)))) (cndO (t.op==27) (some (z2b ((1:Int)))) (cndO (t.op==28) (some (z2b ((1:Int)))) (some (z2b ((0:Int)))))):=by kernel_rfl
def zju(t:Term):Int:=if t.op=26∨t.op=27∨t.op=28 then 1 else 0
theorem z1xq(t:Term)(_ht:WS .term t):z1e5 t=some (z2b (zju t)):=by
 rw[z26f];unfold zju;simp only[z8,y1h,beq_iff_eq];grind
def z1lf:FnC Un:=fnF1 (dS .term) fun t=>([],z2b (zju t))
theorem z26g:FnOK 57 z1lf:=fnK1 zr (M:=z1dq) rfl trivial trivial trivial trivial trivial Tryz.func57 fun t=>GiF.r fun w _=>z1xq t (wfA_ w 0)
def z1vi:Mc Un:=mcF_ [(38,z14f)] [] [] [] []
def z91(r:Bool):RF Un:=([.c (.s (.bool r))],[])
def z1lg(t:Term)(env:List Int):Option (RF Un):=fnF_ z1vi z26d Tryz.f58 0 [.d] [.d (.agg (enc Ty.term t)),.d (.v (.dat (U:=Un) Ty.int env))]
theorem z2as(t:Term)(env:List Int):z1lg t env=cndO (decide (t.type<0)) (some (z91 (false))) (cndO (decide (t.type>3)) (some (z91 (false))) (cndO (t.op==1) (some (z91 (zbn t.v))) (cndO (t.op==2) (cndO (decide (t.depth≥0)) (cndO (decide (t.depth<(↑env.length:Int))) (cndO (decide (t.at_≥0)) (obO (0≤t.depth∧t.depth<(↑env.length:Int)) (some (z91 (decide (t.at_<env.getD t.depth.toNat (0:Int)))))) (some (z91 (false)))) (some (z91 (false)))) (some (z91 (false)))) (some (z91 (true)))))):=by kernel_rfl
def ztt(t:Term)(env:List Int):Bool:=decide (0≤t.type∧t.type≤3)&&(if t.op=1 then z7s t.v else if t.op=2 then decide (0≤t.depth∧t.depth<(env.length:Int)∧0≤t.at_∧t.at_<env.getD t.depth.toNat 0)else true)
theorem z21u(t:Term)(env:List Int)(_ht:WS .term t)(_he:WL .int env):z1lg t env=some (z91 (ztt t env)):=by
 rw[z2as];unfold ztt;simp only[z8,beq_iff_eq,decide_eq_true_eq,z17d];by_cases h0:t.type<0
 ·grind
 by_cases h3:t.type>3
 ·grind
 by_cases h1:t.op=1
 ·grind
 by_cases h2:t.op=2
 ·by_cases d1:t.depth≥0
  ·by_cases d2:t.depth<(env.length:Int)
   ·by_cases d3:t.at_≥0
    all_goals simp_all[if_pos,z6,decide_eq_true,decide_eq_false,if_neg]
   grind
  grind
 grind
def z1vj:FnC Un:=fnF2 (dS .term) (dL .int) fun t env=>([],z91 (ztt t env))
theorem z2at:FnOK 58 z1vj:=fnK2 zr zx (M:=z1vi) rfl ⟨z17e,trivial⟩ trivial trivial trivial trivial Tryz.func58 fun t env=>GiF.r fun w _=>z21u t env (wfA_ w 0) (wfA_ w 1)
def z21v:Mc Un:=mcF_ [(19,zhr)] [] [] [] []
def zno(r:List Int):RF Un:=([.c (.sl (U:=Un) Ty.int r false)],[])
def z1vk(r:Rel)(env:List Int):Option (RF Un):=fnF_ z21v z26d Tryz.f112 0 [.d] [.d (.agg (enc Ty.rel r)),.d (.v (.dat (U:=Un) Ty.int env))]
def zwn(r:Rel)(env:List Int):Option (RF Un):=obO (([z2w (Rel.ids (r.kids.getD 0 za))].length+env.length)*(8:Nat)≤zh) (some (zno (z2w (Rel.ids (r.kids.getD 0 za))::env)))
def z17i(r:Rel)(env:List Int):Option (RF Un):=cndO (decide ((↑r.kids.length:Int)>(1:Int))) (obO ((0:Int)≤(1:Int)∧(1:Int)<(↑r.kids.length:Int)) (obO (([IntKind.i64.wrap (z2w (Rel.ids (r.kids.getD 0 za))+z2w (Rel.ids (r.kids.getD 1 za)))].length+env.length)*(8:Nat)≤zh) (some (zno (IntKind.i64.wrap (z2w (Rel.ids (r.kids.getD 0 za))+z2w (Rel.ids (r.kids.getD 1 za)))::env))))) (zwn r env)
def zwo(env:List Int):Option (RF Un):=obO (([(0:Int)].length+env.length)*(8:Nat)≤zh) (some (zno ((0:Int)::env)))
def z17j(r:Rel)(env:List Int):Option (RF Un):=cndO (decide ((↑r.kids.length:Int)>(1:Int))) (obO ((0:Int)≤(1:Int)∧(1:Int)<(↑r.kids.length:Int)) (obO (([IntKind.i64.wrap ((0:Int)+z2w (Rel.ids (r.kids.getD 1 za)))].length+env.length)*(8:Nat)≤zh) (some (zno (IntKind.i64.wrap ((0:Int)+z2w (Rel.ids (r.kids.getD 1 za)))::env))))) (zwo env)
theorem z2eo(r:Rel)(env:List Int):z1vk r env=cndO (decide ((↑r.kids.length:Int)>(0:Int))) (obO ((0:Int)≤(0:Int)∧(0:Int)<(↑r.kids.length:Int)) (cndO (r.op==5) (z17i r env) (cndO (r.op==6) (z17i r env) (zwn r env)))) (cndO (r.op==5) (z17j r env) (cndO (r.op==6) (z17j r env) (zwo env))):=by kernel_rfl
def z2au(r:Rel):Int:=if r.kids.length>0 then z27 (r.kids.getD 0 za)else 0
def z8v(r:Rel):Int:=if(r.op=5∨r.op=6)∧r.kids.length>1 then IntKind.i64.wrap (z2au r+z27 (r.kids.getD 1 za))else z2au r
def zb5(r:Rel)(env:List Int):List Int:=z8v r::env
theorem z26h(r:Rel)(env:List Int)(_hr:WS .rel r)(_he:WL .int env)(h:z2m env 1):z1vk r env=some (zno (zb5 r env)):=by
 unfold z2m at h;rw[z2eo];unfold zwn z17i zwo z17j zwo zwn;simp only[z10c,Rel.ids_eq,za2];simp only[z8,y1h,beq_iff_eq,decide_eq_true_eq];unfold zb5 z8v z2au;by_cases h0:r.kids.length>0
 ·rw[if_pos (by omega),if_pos h0,z6 (by omega)];by_cases h5:r.op=5∨r.op=6
  ·rw[if_pos h5];by_cases h1:r.kids.length>1
   ·rw[if_pos (by omega),if_pos ⟨h5,h1⟩,z6 (by omega),z6 (by grind[zh,List.length_singleton])]
   ·rw[if_neg (by omega),if_neg (fun e=>h1 e.2),z6 (by grind[zh,List.length_singleton])]
  ·rw[if_neg h5,if_neg (fun e=>h5 e.1),z6 (by grind[zh,List.length_singleton])]
 ·rw[if_neg (by omega),if_neg h0,if_neg (show¬((r.op=5∨r.op=6)∧r.kids.length>1)from fun e=>by omega)];split
  ·rw[if_neg (by omega),z6 (by grind[zh,List.length_singleton])]
  grind[z6,zh,List.length_singleton]
def z21w:FnC Un:=fnF2 (dS .rel) (dL .int) fun r env=>([z2m env 1],zno (zb5 r env))
theorem z2ep:FnOK 112 z21w:=fnK2 zr zx (M:=z21v) rfl ⟨zl3,trivial⟩ trivial trivial trivial trivial Tryz.func112 fun r env=>GiF.r fun w o=>z26h r env (wfA_ w 0) (wfA_ w 1) (obA_ o 0)
def zus:Nat→NS:=nsF_ [(2,{ts:=bl 16 13,bs:=bl 16 0,nm:=[],cs:=true})] true
def z6x(r:List Val)(v0:Int):S Un:=(st 16 16 64 0 [(0,al .val r),(2,ab false),(3,ai v0)] [] [])
def zim:S Un→Option (EX Un):=lpF_ z1vi zus Tryz.f35 [1,0,1,2,2] 2
def zrj:Exit→S Un→Option (RF Un):=cxF_ z1vi zus Tryz.f35 [1,0,1,2] [.d]
def z14h(r:List Val):Option (RF Un):=fnF_ z1vi zus Tryz.f35 0 [.d] [.d (.v (.dat (U:=Un) Ty.val r))]
theorem z1xr(r:List Val):z14h r=(zim (z6x r (0:Int))).bind (zd zrj):=by kernel_rfl
theorem z14i(r:List Val)(v0:Int):zim (z6x r v0)=cndO (decide (v0<(↑r.length:Int))) (obO (0≤v0∧v0<(↑r.length:Int)) (cndO (!zbn (r.getD v0.toNat z7)) (some (.ret,(z6x r v0))) (zim (z6x r (IntKind.i64.wrap (v0+1)))))) (some (.exit 0,(z6x r v0))):=lpQ_ (by kernel_rfl)
theorem z1cj(r:List Val)(v0:Int):zrj .ret (z6x r v0)=some (z91 (false)):=by kernel_rfl
theorem z1hn(r:List Val)(v0:Int):zrj (.exit 0) (z6x r v0)=some (z91 (true)):=by kernel_rfl
def zdc(r:List Val):Bool:=r.all z7s
theorem z1lh(r:List Val)(hr:WL .val r):z14h r=some (z91 (zdc r)):=by
 rw[z1xr]
 exact z2t (L:=zim) (st:=fun i=>z6x r i) (fun b=>some (z91 b)) (d:=z7) z7s hr.len
  (fun i x hi hx _=>by
   rw[z14i];simp only[z8,hi,decide_true,if_true,and_true,y5,hx,z17d]
   grind[z6,z7s])
  (by rw[z14i];simp[z8]) (fun i=>z1cj _ _) (fun i=>z1hn _ _)
def zut:FnC Un:=fnF1 (dL .val) fun r=>([],z91 (zdc r))
theorem z14j:FnOK 35 zut:=fnK1 zx (M:=z1vi) rfl ⟨z17e,trivial⟩ trivial trivial trivial trivial Tryz.func35 fun r=>GiF.r fun w _=>z1lh r (wfA_ w 0)
def zsp:Mc Un:=mcF_ [(35,zut)] [] [] [] []
def z12z:Nat→NS:=nsF_ [(2,{ts:=bl 27 51,bs:=bl 27 0,nm:=[],cs:=true})] true
def z7h(l:List (List Val))(n:Int)(v0:Int):S Un:=(st 27 27 108 0 [(0,al .row l),(1,ai n),(4,ab false),(5,ai v0)] [] [])
def zon:S Un→Option (EX Un):=lpF_ zsp z12z Tryz.f113 [1,0,1,2,2] 2
def zyp:Exit→S Un→Option (RF Un):=cxF_ zsp z12z Tryz.f113 [1,0,1,2] [.d]
def z1e6(l:List (List Val))(n:Int):Option (RF Un):=fnF_ zsp z12z Tryz.f113 0 [.d] [.d (.v (.dat (U:=Un) Ty.row l)),.d (.v (.s (.int .i64 n)))]
theorem z26i(l:List (List Val))(n:Int):z1e6 l n=(zon (z7h l n (0:Int))).bind (zd zyp):=by kernel_rfl
theorem z1e7(l:List (List Val))(n:Int)(v0:Int):zon (z7h l n v0)=cndO (decide (v0<(↑l.length:Int))) (obO (0≤v0∧v0<(↑l.length:Int)) (cndO ((↑(List.length (l.getD v0.toNat [])):Int) !=n) (some (.ret,(z7h l n v0))) (obO (0≤v0∧v0<(↑l.length:Int)) (cndO (!zdc (l.getD v0.toNat [])) (some (.ret,(z7h l n v0))) (zon (z7h l n (IntKind.i64.wrap (v0+1)))))))) (some (.exit 0,(z7h l n v0))):=lpQ_ (by kernel_rfl)
theorem z1li(l:List (List Val))(n:Int)(v0:Int):zyp .ret (z7h l n v0)=some (z91 (false)):=by kernel_rfl
theorem z1rk(l:List (List Val))(n:Int)(v0:Int):zyp (.exit 0) (z7h l n v0)=some (z91 (true)):=by kernel_rfl
def znp(l:List (List Val))(n:Int):Bool:=l.all fun x=>decide ((x.length:Int)=n)&&zdc x
theorem z1xs(l:List (List Val))(n:Int)(hl:WL .row l)(_hn:WI n):z1e6 l n=some (z91 (znp l n)):=by
 rw[z26i]
 exact z2t (L:=zon) (st:=fun i=>z7h l n i) (fun b=>some (z91 b)) (d:=[]) (fun x=>decide ((x.length:Int)=n)&&zdc x) hl.len
  (fun i x hi hx _=>by
   rw[z1e7];simp only[z8,hi,decide_true,if_true,and_true,y5,hx];rw[z6 (by omega),z6 (by omega)]
   grind)
  (by rw[z1e7];simp[z8]) (fun i=>z1li _ _ _) (fun i=>z1rk _ _ _)
def z1lj:FnC Un:=fnF2 (dL .row) (dI .i64) fun l n=>([],z91 (znp l n))
theorem z26j:FnOK 113 z1lj:=fnK2 zx z1c (M:=zsp) rfl ⟨z14j,trivial⟩ trivial trivial trivial trivial Tryz.func113 fun l n=>GiF.r fun w _=>z1xs l n (wfA_ w 0) (wfA_ w 1)
def z7i(l:List By)(n:Int)(v0:Int):S Un:=(st 27 27 108 0 [(0,al .by_ l),(1,ai n),(4,ab false),(5,ai v0)] [] [])
def zoo:S Un→Option (EX Un):=lpF_ z1dq z12z Tryz.f116 [1,0,1,2,2] 2
def zyq:Exit→S Un→Option (RF Un):=cxF_ z1dq z12z Tryz.f116 [1,0,1,2] [.d]
def z1e8(l:List By)(n:Int):Option (RF Un):=fnF_ z1dq z12z Tryz.f116 0 [.d] [.d (.v (.dat (U:=Un) Ty.by_ l)),.d (.v (.s (.int .i64 n)))]
theorem z26k(l:List By)(n:Int):z1e8 l n=(zoo (z7i l n (0:Int))).bind (zd zyq):=by kernel_rfl
theorem z1e9(l:List By)(n:Int)(v0:Int):zoo (z7i l n v0)=cndO (decide (v0<(↑l.length:Int))) (obO (0≤v0∧v0<(↑l.length:Int)) (cndO (decide ((l.getD v0.toNat z9z).at_<0)) (some (.ret,(z7i l n v0))) (obO (0≤v0∧v0<(↑l.length:Int)) (cndO (decide ((l.getD v0.toNat z9z).at_≥n)) (some (.ret,(z7i l n v0))) (zoo (z7i l n (IntKind.i64.wrap (v0+1)))))))) (some (.exit 0,(z7i l n v0))):=lpQ_ (by kernel_rfl)
theorem z1lk(l:List By)(n:Int)(v0:Int):zyq .ret (z7i l n v0)=some (z91 (false)):=by kernel_rfl
theorem z1rl(l:List By)(n:Int)(v0:Int):zyq (.exit 0) (z7i l n v0)=some (z91 (true)):=by kernel_rfl
def zuu(l:List By)(n:Int):Bool:=l.all fun k=>decide (0≤k.at_∧k.at_<n)
theorem z1xt(l:List By)(n:Int)(hl:WL .by_ l)(_hn:WI n):z1e8 l n=some (z91 (zuu l n)):=by
 rw[z26k]
 exact z2t (L:=zoo) (st:=fun i=>z7i l n i) (fun b=>some (z91 b)) (d:=z9z) (fun k=>decide (0≤k.at_∧k.at_<n)) hl.len
  (fun i x hi hx _=>by
   rw[z1e9];simp only[z8,hi,decide_true,if_true,and_true,y5,hx,decide_eq_true_eq];rw[z6 (by omega),z6 (by omega)]
   grind)
  (by rw[z1e9];simp[z8]) (fun i=>z1lk _ _ _) (fun i=>z1rl _ _ _)
def z1ll:FnC Un:=fnF2 (dL .by_) (dI .i64) fun l n=>([],z91 (zuu l n))
theorem z26l:FnOK 116 z1ll:=fnK2 zx z1c (M:=z1dq) rfl trivial trivial trivial trivial trivial Tryz.func116 fun l n=>GiF.r fun w _=>z1xt l n (wfA_ w 0) (wfA_ w 1)
end
end B
end Go.Proofs.YtjfpbchdcbhfgaaGreat
