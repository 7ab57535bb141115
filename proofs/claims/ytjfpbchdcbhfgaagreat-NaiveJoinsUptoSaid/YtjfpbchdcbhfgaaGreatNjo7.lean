/- Part 7 of the proof: Sref03 Sr15w Sref15v. -/
import Derived.Test.YtjfpbchdcbhfgaaGreatNjo6
set_option linter.unusedVariables false
set_option linter.unusedSimpArgs false
namespace Go.Proofs.YtjfpbchdcbhfgaaGreat
namespace B
open Go Go.RowKit
set_option maxRecDepth 100000
noncomputable section
attribute [local irreducible] awp ctxK zw z1a retQ z1m
theorem z2gi(n:Int)(K:List (A Un)→List (Ob Un)→Prop):
  awp z1f6 z286 (zf Tryz.f73) (z2h Tryz.f73.ntmps 0 [.d (.v (.s (.int .i64 n)))]) (retQ z1f6 Tryz.f73.results.toList [.d] K)=
(cnd (decide (n≥(-1000000000000000:Int)))
 (K (zv8 (decide (n≤(1000000000000000:Int)))) (zv9 (decide (n≤(1000000000000000:Int)))))
 (K (zv8 (false)) (zv9 (false)))):=by kernel_rfl
theorem z2cr{n:Int}{r:Bool}(h:z18p n=some r):Runs (awp z1f6 z286 (zf Tryz.f73) (z2h Tryz.f73.ntmps 0 [.d (.v (.s (.int .i64 n)))]) (retQ z1f6 Tryz.f73.results.toList [.d] fun rs os=>rs=zv8 r∧os=zv9 r)):=by
 constructor;rw[z2gi n (fun rs os=>rs=zv8 r∧os=zv9 r)];rcases z13 h with⟨c1,h2⟩|⟨c1,h2⟩
 ·cases h2;exact(z1d c1 ⟨rfl,rfl⟩)
 ·cases h2;exact(zx (zl c1) ⟨rfl,rfl⟩)
theorem z2gk:FnOK 73 zc2:=fnK1 z17 (M:=z1f6) rfl trivial trivial trivial trivial trivial Tryz.func73 fun n=>fun _ _=>z2cr (z2ge n)
theorem z289(a:Int)(b:Int)(K:List (A Un)→List (Ob Un)→Prop):
  awp z1f6 z286 (zf Tryz.f83) (z2h Tryz.f83.ntmps 0 [.d (.v (.s (.int .i64 a))),.d (.v (.s (.int .i64 b)))]) (retQ z1f6 Tryz.f83.results.toList [.d] K)=
(cnd (decide (a<b))
 (K (zas ((-1:Int))) (zat ((-1:Int))))
 (cnd (decide (a>b))
  (K (zas ((1:Int))) (zat ((1:Int))))
  (K (zas ((0:Int))) (zat ((0:Int)))))):=by kernel_rfl
def zzh(a:Int)(b:Int):Option (Int):=
  if(decide (a<b))=true then
   some ((-1:Int))
  else
   if(decide (a>b))=true then
    some ((1:Int))
   else
    some ((0:Int))
theorem z23a{a:Int}{b:Int}{r:Int}(h:zzh a b=some r):Runs (awp z1f6 z286 (zf Tryz.f83) (z2h Tryz.f83.ntmps 0 [.d (.v (.s (.int .i64 a))),.d (.v (.s (.int .i64 b)))]) (retQ z1f6 Tryz.f83.results.toList [.d] fun rs os=>rs=zas r∧os=zat r)):=by
 constructor;rw[z289 a b (fun rs os=>rs=zas r∧os=zat r)];rcases z13 h with⟨c1,h2⟩|⟨c1,h2⟩
 ·cases h2;exact(z1d c1 ⟨rfl,rfl⟩)
 ·rcases z13 h2 with⟨c3,h4⟩|⟨c3,h4⟩
  ·cases h4;exact(zx (zl c1) (z1d c3 ⟨rfl,rfl⟩))
  ·cases h4;exact(zx (zl c1) (zx (zl c3) ⟨rfl,rfl⟩))
def z3l(a:Int)(b:Int):Int:=
  if(decide (a<b))=true then
   ((-1:Int))
  else
   if(decide (a>b))=true then
    ((1:Int))
   else
    ((0:Int))
theorem z28a(a:Int)(b:Int):zzh a b=some (z3l a b):=by grind[zzh,z3l]
def ztm:FnC Un:=fnF2 (dI .i64) (dI .i64) fun a b=>([],zas (z3l a b),zat (z3l a b))
theorem zzi:FnOK 83 ztm:=fnK2 z17 z17 (M:=z1f6) rfl trivial trivial trivial trivial trivial Tryz.func83 fun a b=>fun _ _=>z23a (z28a a b)
@[simp] theorem z1za(a b:Int):z3l a b=cmpI a b:=by
 unfold z3l cmpI;simp
def z30:Mc Un:=mcF_ [(83,ztm)] [] [] [] []
def z3a:Nat→NS:=nsF_ [(2,{ts:=[true,true,false,false,true,true,false,false,false,false,false,false,false,false,false,false,false,false,false,false,false,false,false,false,false,false,false,false,false,false,false,false,false,false,false,false,false,false,false],bs:=[false,false,false,false,false,false,false,false,false,false,false,false,false,false,false,false,false,false,false,false,false,false,false,false,false,false,false,false,false,false,false,false,false,false,false,false,false,false,false],nm:=[],gb:=[],gs:=[]})] false
def z5g(a:ByteArray)(b:ByteArray)(v0:Int):S Un:=(st 39 39 156 0 [(0,AV.one (A.c (C.s (Value.string a)))),(1,AV.one (A.c (C.s (Value.string b)))),(4,AV.one (A.c (C.s (Value.int IntKind.i64 (0:Int))))),(5,AV.one (A.c (C.s (Value.int IntKind.i64 v0))))] [] [])
def zdz(a:ByteArray)(b:ByteArray)(v0:Int)(v1:Int):S Un:=(st 39 39 156 0 [(0,AV.one (A.c (C.s (Value.string a)))),(1,AV.one (A.c (C.s (Value.string b)))),(4,AV.one (A.c (C.s (Value.int IntKind.i64 v1)))),(5,AV.one (A.c (C.s (Value.int IntKind.i64 v0))))] [] [])
theorem z23b(a:ByteArray)(b:ByteArray)(K:List (A Un)→List (Ob Un)→Prop):
  awp z30 z3a (zf Tryz.f135) (z2h Tryz.f135.ntmps 0 [.d (.v (cs a)),.d (.v (cs b))]) (retQ z30 Tryz.f135.results.toList [.d] K)=
(zw (z3a 2) (awp z30 z3a (sub (zf Tryz.f135) [1,0,1,2,2])) (ctxK z30 z3a (zf Tryz.f135) [1,0,1,2] (retQ z30 Tryz.f135.results.toList [.d] K)) (z5g a b (0:Int))):=by kernel_rfl
theorem zlm(a:ByteArray)(b:ByteArray)(v0:Int)(k:Nat)(Q:Exit→S Un→Prop):
  z1a (z3a 2) (awp z30 z3a (sub (zf Tryz.f135) [1,0,1,2,2])) Q (k+1) (z5g a b v0)=
(cnd (decide (v0<(↑a.size:Int)))
 (cnd (decide (v0<(↑b.size:Int)))
  (((0:Int)≤v0∧v0<(↑a.size:Int))∧
  (((0:Int)≤v0∧v0<(↑b.size:Int))∧
  (cnd ((↑(a.toList.getD v0.toNat (0:UInt8)).toNat:Int) !=(↑(b.toList.getD v0.toNat (0:UInt8)).toNat:Int))
   (((0:Int)≤v0∧v0<(↑a.size:Int))∧
   (((0:Int)≤v0∧v0<(↑b.size:Int))∧
   (Q .ret (zdz a b v0 (z3l (IntKind.i64.wrap (↑(a.toList.getD v0.toNat (0:UInt8)).toNat:Int)) (IntKind.i64.wrap (↑(b.toList.getD v0.toNat (0:UInt8)).toNat:Int)))))))
   (z1a (z3a 2) (awp z30 z3a (sub (zf Tryz.f135) [1,0,1,2,2])) Q k (z5g a b (IntKind.i64.wrap (v0+(1:Int))))))))
  (Q (.exit 0) (z5g a b v0)))
 (Q (.exit 0) (z5g a b v0))):=by kernel_rfl
theorem z1iy(a:ByteArray)(b:ByteArray)(v0:Int)(v1:Int)(K:List (A Un)→List (Ob Un)→Prop):
  ctxK z30 z3a (zf Tryz.f135) [1,0,1,2] (retQ z30 Tryz.f135.results.toList [.d] K) .ret (zdz a b v0 v1)=
(K (zas (v1)) (zat (v1))):=by kernel_rfl
theorem z1mw(a:ByteArray)(b:ByteArray)(v0:Int)(K:List (A Un)→List (Ob Un)→Prop):
  ctxK z30 z3a (zf Tryz.f135) [1,0,1,2] (retQ z30 Tryz.f135.results.toList [.d] K) (.exit 0) (z5g a b v0)=
(K (zas (z3l (↑a.size:Int) (↑b.size:Int))) (zat (z3l (↑a.size:Int) (↑b.size:Int)))):=by kernel_rfl
def zcp(a:ByteArray)(b:ByteArray)(v:Int):Option ((Int) ⊕((Int×Int) ⊕(Int))):=
  if(decide (v<(↑a.size:Int)))=true then
   if(decide (v<(↑b.size:Int)))=true then
    if(0:Int)≤v∧v<(↑a.size:Int)then
     if(0:Int)≤v∧v<(↑b.size:Int)then
      if((↑(a.toList.getD v.toNat (0:UInt8)).toNat:Int) !=(↑(b.toList.getD v.toNat (0:UInt8)).toNat:Int))=true then
       if(0:Int)≤v∧v<(↑a.size:Int)then
        if(0:Int)≤v∧v<(↑b.size:Int)then
         some (.inr (.inl (v,(z3l (IntKind.i64.wrap (↑(a.toList.getD v.toNat (0:UInt8)).toNat:Int)) (IntKind.i64.wrap (↑(b.toList.getD v.toNat (0:UInt8)).toNat:Int))))))
        else none
       else none
      else
       some (.inl (IntKind.i64.wrap (v+(1:Int))))
     else none
    else none
   else
    some (.inr (.inr v))
  else
   some (.inr (.inr v))
def zfu(a:ByteArray)(b:ByteArray)(v:Int):Option ((Int×Int) ⊕(Int)):=zdy (zcp a b) v
theorem zln(a:ByteArray)(b:ByteArray)(v:Int):zfu a b v=zpc (zfu a b) (zcp a b v):=zv5 _ _
def zlo(a:ByteArray)(b:ByteArray)(r:(Int×Int) ⊕(Int))(Q:Exit→S Un→Prop):Prop:=match r with| .inl x=>Q .ret (zdz a b x.1 x.2)| .inr x=>Q (.exit 0) (z5g a b x)
theorem z1iz{a:ByteArray}{b:ByteArray}{x:Int×Int}{Q:Exit→S Un→Prop}(h:Q .ret (zdz a b x.1 x.2)):zlo a b (.inl x) Q:=h
theorem z1mx{a:ByteArray}{b:ByteArray}{x:Int}{Q:Exit→S Un→Prop}(h:Q (.exit 0) (z5g a b x)):zlo a b (.inr x) Q:=h
theorem zvd{a:ByteArray}{b:ByteArray}{v:Int}{r:(Int×Int) ⊕(Int)}(h:zfu a b v=some r)(Q:Exit→S Un→Prop)(hQ:zlo a b r Q):zw (z3a 2) (awp z30 z3a (sub (zf Tryz.f135) [1,0,1,2,2])) Q (z5g a b v):=by
 refine@zv6 _ _ (zcp a b) (fun v=>zw (z3a 2) (awp z30 z3a (sub (zf Tryz.f135) [1,0,1,2,2])) Q (z5g a b v)) (fun r=>zlo a b r Q) ?_ v r h hQ;intro v o h hI;rcases z13 h with⟨c1,h2⟩|⟨c1,h2⟩
 ·rcases z13 h2 with⟨c3,h4⟩|⟨c3,h4⟩
  ·obtain⟨c5,h6⟩:=z9u h4;obtain⟨c7,h8⟩:=z9u h6;rcases z13 h8 with⟨c9,h10⟩|⟨c9,h10⟩
   ·obtain⟨c11,h12⟩:=z9u h10;obtain⟨c13,h14⟩:=z9u h12;cases h14;exact z4p 1 (mpr (zlm a b v 0 Q) (z1d c1 (z1d c3 (And.intro c5 (And.intro c7 (z1d c9 (And.intro c11 (And.intro c13 hI))))))))
   ·cases h10;obtain⟨k15,hk16⟩:=ztk hI;exact z4p (k15+1) (mpr (zlm a b v k15 Q) (z1d c1 (z1d c3 (And.intro c5 (And.intro c7 (zx (zl c9) hk16))))))
  ·cases h4;exact z4p 1 (mpr (zlm a b v 0 Q) (z1d c1 (zx (zl c3) hI)))
 ·cases h2;exact z4p 1 (mpr (zlm a b v 0 Q) (zx (zl c1) hI))
def zve(a:ByteArray)(b:ByteArray):Option (Int):=
  (zfu a b (0:Int))>>=fun o17=>match o17 with
   | .inl o18=>
     some (o18.2)
   | .inr o19=>
     some (z3l (↑a.size:Int) (↑b.size:Int))
theorem z1zb{a:ByteArray}{b:ByteArray}{r:Int}(h:zve a b=some r):Runs (awp z30 z3a (zf Tryz.f135) (z2h Tryz.f135.ntmps 0 [.d (.v (cs a)),.d (.v (cs b))]) (retQ z30 Tryz.f135.results.toList [.d] fun rs os=>rs=zas r∧os=zat r)):=by
 constructor;rw[z23b a b (fun rs os=>rs=zas r∧os=zat r)];obtain⟨o20,ho21,h22⟩:=bind_some h;rcases o20 with o23|o24
 ·cases h22;exact(zvd ho21 _ (z1iz (mpr (z1iy a b o23.1 o23.2 _) ⟨rfl,rfl⟩)))
 ·cases h22;exact(zvd ho21 _ (z1mx (mpr (z1mw a b o24 _) ⟨rfl,rfl⟩)))
def zdo(a b:ByteArray):Int:=cmpS a b
@[simp] theorem z2on(a b:ByteArray):zdo a b=cmpS a b:=by rfl
theorem z1t1(a b:ByteArray)(ha:WStr a)(hb:WStr b):∀(ra rb:List UInt8)(i:Nat),a.toList.drop i=ra→b.toList.drop i=rb→i≤a.size→i≤b.size→
  ∃o,zfu a b i=some o∧(match o with| .inl o=>o.2| .inr _=>cmpI a.size b.size)=cmpL ra rb:=by
 intro ra
 induction ra with
 |nil=>
  intro rb i h1 h2 h3 h4;have e1:=zka h1;have e2:=zka h2;rw[z39]at e1 e2;simp at e1;have hn:¬((i:Int)<a.size):=by omega
  refine⟨.inr i,by rw[zln,zcp];simp[hn],?_⟩;simp;cases rb with
  |nil=>simp at e2;unfold cmpI cmpL;omega
  |cons y rb=>simp at e2;unfold cmpI cmpL;omega
 |cons x ra ih=>
  intro rb i h1 h2 h3 h4;obtain⟨a1,a2,a3,_⟩:=z3f h1;rw[z39]at a1;have hp:(i:Int)<a.size:=by omega
  cases rb with
  |nil=>
   have e2:=zka h2;rw[z39]at e2;simp at e2;have hn:¬((i:Int)<b.size):=by omega
   refine⟨.inr i,by rw[zln,zcp];simp[*],?_⟩;simp;unfold cmpI cmpL;omega
  |cons y rb=>
   obtain⟨b1,b2,b3,_⟩:=z3f h2;rw[z39]at b1;have hq:(i:Int)<b.size:=by omega
   have hi:(0:Int)≤i:=by omega
   rw[zln,zcp];simp only[hp,hq,hi,decide_true,if_true,true_and,and_self,y5,a2,b2];by_cases hxy:x=y
   ·subst hxy;simp;rw[zxf a1 ha];simpa only[cmpL,if_true,zrf]using ih rb (i+1) a3 b3 (by omega) (by omega)
   ·have hne:((x.toNat:Int) !=(y.toNat:Int))=true:=by
     grind[UInt8.toNat_inj]
    have hx:=x.toNat_lt;have hy:=y.toNat_lt;refine⟨_,by rw[if_pos hne,zxg],?_⟩;simp only[cmpL,hxy,if_false,z1za];grind[z1f]
theorem z1t2(a b:ByteArray)(ha:WStr a)(hb:WStr b):zve a b=some (zdo a b):=by
 obtain⟨o,ho,e⟩:=z1t1 a b ha hb _ _ 0 rfl rfl (by omega) (by omega);unfold zve zdo cmpS;rw[show(0:Int)=((0:Nat):Int)from rfl,ho];simp at e;rw[←e];cases o<;>simp
def z1f9:FnC Un:=fnF2 dStr dStr fun a b=>([],zas (zdo a b),zat (zdo a b))
theorem z23c:FnOK 135 z1f9:=fnK2 z3y z3y (M:=z30) rfl ⟨zzi,trivial⟩ trivial trivial trivial trivial Tryz.func135 fun a b=>fun w _=>z1zb (z1t2 a b (wfA_ w 0) (wfA_ w 1))
def z3b:Nat→NS:=nsF_ [(2,{ts:=[true,false,true,true,false,false,false,false,false,false,false,false,false,false,false,false,false,false,false,false,false,false,false],bs:=[false,false,false,false,false,false,false,false,false,false,false,false,false,false,false,false,false,false,false,false,false,false,false],nm:=[],gb:=[],gs:=[]})] false
def z35(s:ByteArray)(v0:Int):S Un:=(st 23 23 92 0 [(0,AV.one (A.c (C.s (Value.string s)))),(2,AV.one (A.c (C.s (Value.bool false)))),(3,AV.one (A.c (C.s (Value.int IntKind.i64 v0))))] [] [])
theorem z23d(s:ByteArray)(K:List (A Un)→List (Ob Un)→Prop):
  awp z1f6 z3b (zf Tryz.f74) (z2h Tryz.f74.ntmps 0 [.d (.v (cs s))]) (retQ z1f6 Tryz.f74.results.toList [.d] K)=
(zw (z3b 2) (awp z1f6 z3b (sub (zf Tryz.f74) [1,0,1,2,2])) (ctxK z1f6 z3b (zf Tryz.f74) [1,0,1,2] (retQ z1f6 Tryz.f74.results.toList [.d] K)) (z35 s (0:Int))):=by kernel_rfl
theorem zlp(s:ByteArray)(v0:Int)(k:Nat)(Q:Exit→S Un→Prop):
  z1a (z3b 2) (awp z1f6 z3b (sub (zf Tryz.f74) [1,0,1,2,2])) Q (k+1) (z35 s v0)=
(cnd (decide (v0<(↑s.size:Int)))
 (((0:Int)≤v0∧v0<(↑s.size:Int))∧
 (cnd (decide ((↑(s.toList.getD v0.toNat (0:UInt8)).toNat:Int)<(32:Int)))
  (Q .ret (z35 s v0))
  (((0:Int)≤v0∧v0<(↑s.size:Int))∧
  (cnd (decide ((↑(s.toList.getD v0.toNat (0:UInt8)).toNat:Int)>(126:Int)))
   (Q .ret (z35 s v0))
   (z1a (z3b 2) (awp z1f6 z3b (sub (zf Tryz.f74) [1,0,1,2,2])) Q k (z35 s (IntKind.i64.wrap (v0+(1:Int)))))))))
 (Q (.exit 0) (z35 s v0))):=by kernel_rfl
theorem z1j0(s:ByteArray)(v0:Int)(K:List (A Un)→List (Ob Un)→Prop):
  ctxK z1f6 z3b (zf Tryz.f74) [1,0,1,2] (retQ z1f6 Tryz.f74.results.toList [.d] K) .ret (z35 s v0)=
(K (zv8 (false)) (zv9 (false))):=by kernel_rfl
theorem z1my(s:ByteArray)(v0:Int)(K:List (A Un)→List (Ob Un)→Prop):
  ctxK z1f6 z3b (zf Tryz.f74) [1,0,1,2] (retQ z1f6 Tryz.f74.results.toList [.d] K) (.exit 0) (z35 s v0)=
(K (zv8 (decide ((↑s.size:Int)≤(100:Int)))) (zv9 (decide ((↑s.size:Int)≤(100:Int))))):=by kernel_rfl
def zfv(s:ByteArray)(v:Int):Option ((Int) ⊕((Int) ⊕(Int))):=
  if(decide (v<(↑s.size:Int)))=true then
   if(0:Int)≤v∧v<(↑s.size:Int)then
    if(decide ((↑(s.toList.getD v.toNat (0:UInt8)).toNat:Int)<(32:Int)))=true then
     some (.inr (.inl v))
    else
     if(0:Int)≤v∧v<(↑s.size:Int)then
      if(decide ((↑(s.toList.getD v.toNat (0:UInt8)).toNat:Int)>(126:Int)))=true then
       some (.inr (.inl v))
      else
       some (.inl (IntKind.i64.wrap (v+(1:Int))))
     else none
   else none
  else
   some (.inr (.inr v))
def zfw(s:ByteArray)(v:Int):Option ((Int) ⊕(Int)):=zdy (zfv s) v
theorem zxh(s:ByteArray)(v:Int):zfw s v=zpc (zfw s) (zfv s v):=zv5 _ _
def zlq(s:ByteArray)(r:(Int) ⊕(Int))(Q:Exit→S Un→Prop):Prop:=match r with| .inl x=>Q .ret (z35 s x)| .inr x=>Q (.exit 0) (z35 s x)
theorem z1j1{s:ByteArray}{x:Int}{Q:Exit→S Un→Prop}(h:Q .ret (z35 s x)):zlq s (.inl x) Q:=h
theorem z1mz{s:ByteArray}{x:Int}{Q:Exit→S Un→Prop}(h:Q (.exit 0) (z35 s x)):zlq s (.inr x) Q:=h
theorem zvf{s:ByteArray}{v:Int}{r:(Int) ⊕(Int)}(h:zfw s v=some r)(Q:Exit→S Un→Prop)(hQ:zlq s r Q):zw (z3b 2) (awp z1f6 z3b (sub (zf Tryz.f74) [1,0,1,2,2])) Q (z35 s v):=by
 refine@zv6 _ _ (zfv s) (fun v=>zw (z3b 2) (awp z1f6 z3b (sub (zf Tryz.f74) [1,0,1,2,2])) Q (z35 s v)) (fun r=>zlq s r Q) ?_ v r h hQ;intro v o h hI;rcases z13 h with⟨c1,h2⟩|⟨c1,h2⟩
 ·obtain⟨c3,h4⟩:=z9u h2;rcases z13 h4 with⟨c5,h6⟩|⟨c5,h6⟩
  ·cases h6;exact z4p 1 (mpr (zlp s v 0 Q) (z1d c1 (And.intro c3 (z1d c5 hI))))
  ·obtain⟨c7,h8⟩:=z9u h6;rcases z13 h8 with⟨c9,h10⟩|⟨c9,h10⟩
   ·cases h10;exact z4p 1 (mpr (zlp s v 0 Q) (z1d c1 (And.intro c3 (zx (zl c5) (And.intro c7 (z1d c9 hI))))))
   ·cases h10;obtain⟨k11,hk12⟩:=ztk hI;exact z4p (k11+1) (mpr (zlp s v k11 Q) (z1d c1 (And.intro c3 (zx (zl c5) (And.intro c7 (zx (zl c9) hk12))))))
 ·cases h2;exact z4p 1 (mpr (zlp s v 0 Q) (zx (zl c1) hI))
def zvg(s:ByteArray):Option (Bool):=
  (zfw s (0:Int))>>=fun o13=>match o13 with
   | .inl o14=>
     some (false)
   | .inr o15=>
     some (decide ((↑s.size:Int)≤(100:Int)))
theorem z1zc{s:ByteArray}{r:Bool}(h:zvg s=some r):Runs (awp z1f6 z3b (zf Tryz.f74) (z2h Tryz.f74.ntmps 0 [.d (.v (cs s))]) (retQ z1f6 Tryz.f74.results.toList [.d] fun rs os=>rs=zv8 r∧os=zv9 r)):=by
 constructor;rw[z23d s (fun rs os=>rs=zv8 r∧os=zv9 r)];obtain⟨o16,ho17,h18⟩:=bind_some h;rcases o16 with o19|o20
 ·cases h18;exact(zvf ho17 _ (z1j1 (mpr (z1j0 s o19 _) ⟨rfl,rfl⟩)))
 ·cases h18;exact(zvf ho17 _ (z1mz (mpr (z1my s o20 _) ⟨rfl,rfl⟩)))
def zdp(s:ByteArray):Bool:=z117 s
@[simp] theorem z23e(s:ByteArray):zdp s=z117 s:=by rfl
theorem z1t3(s:ByteArray)(hs:WStr s):∀(r:List UInt8)(i:Nat),s.toList.drop i=r→
  ∃o,zfw s i=some o∧(match o with| .inl _=>false| .inr _=>true)=r.all (fun b=>decide (32≤b.toNat∧b.toNat≤126)):=by
 intro r
 induction r with
 |nil=>
  intro i h1;have e1:=zka h1;rw[z39]at e1;simp at e1;have hn:¬((i:Int)<s.size):=by omega
  exact⟨.inr i,by rw[zxh,zfv];simp[hn],rfl⟩
 |cons x r ih=>
  intro i h1;obtain⟨a1,a2,a3,_⟩:=z3f h1;rw[z39]at a1;have hp:(i:Int)<s.size:=by omega
  have hi:(0:Int)≤i:=by omega
  rw[zxh,zfv];simp only[hp,hi,decide_true,if_true,and_self,y5,a2,decide_eq_true_eq,y1h];by_cases c1:(x.toNat:Int)<32
  ·exact⟨_,by rw[if_pos c1,zxg],by grind⟩
  ·rw[if_neg c1];by_cases c2:(x.toNat:Int)>126
   ·exact⟨_,by rw[if_pos c2,zxg],by grind⟩
   ·rw[if_neg c2,zxf a1 hs,zrf];grind
theorem z1t4(s:ByteArray)(hs:WStr s):zvg s=some (zdp s):=by
 obtain⟨o,ho,e⟩:=z1t3 s hs _ 0 rfl;unfold zvg zdp z117;rw[show(0:Int)=((0:Nat):Int)from rfl,ho];simp only[y47]at e;rw[←e];cases o with
 |inl o=>simp
 |inr o=>simp;omega
def z1fa:FnC Un:=fnF1 dStr fun s=>([],zv8 (zdp s),zv9 (zdp s))
theorem z23f:FnOK 74 z1fa:=fnK1 z3y (M:=z1f6) rfl trivial trivial trivial trivial trivial Tryz.func74 fun s=>fun w _=>z1zc (z1t4 s (wfA_ w 0))
def zi7:Mc Un:=mcF_ [(73,zc2),(74,z1fa)] [] [] [] []
theorem z23g(v:Val)(K:List (A Un)→List (Ob Un)→Prop):
  awp zi7 z286 (zf Tryz.f38) (z2h Tryz.f38.ntmps 0 [.d (.agg (enc Ty.val v))]) (retQ zi7 Tryz.f38.results.toList [.d] K)=
(cnd (v.kind==(0:Int))
 (cnd (v.n==(0:Int))
  (K (zv8 (v.s.toList==(ByteArray.mk #[]).toList)) (zv9 (v.s.toList==(ByteArray.mk #[]).toList)))
  (K (zv8 (false)) (zv9 (false))))
 (cnd (v.kind==(1:Int))
  (cnd (v.n==(0:Int))
   (K (zv8 (v.s.toList==(ByteArray.mk #[]).toList)) (zv9 (v.s.toList==(ByteArray.mk #[]).toList)))
   (cnd (v.n==(1:Int))
    (K (zv8 (v.s.toList==(ByteArray.mk #[]).toList)) (zv9 (v.s.toList==(ByteArray.mk #[]).toList)))
    (K (zv8 (false)) (zv9 (false)))))
  (cnd (v.kind==(2:Int))
   (cnd (z1o v.n)
    (K (zv8 (v.s.toList==(ByteArray.mk #[]).toList)) (zv9 (v.s.toList==(ByteArray.mk #[]).toList)))
    (K (zv8 (false)) (zv9 (false))))
   (cnd (v.kind==(3:Int))
    (cnd (v.n==(0:Int))
     (K (zv8 (zdp v.s)) (zv9 (zdp v.s)))
     (K (zv8 (false)) (zv9 (false))))
    (K (zv8 (false)) (zv9 (false))))))):=by kernel_rfl
def zvh(v:Val):Option (Bool):=
  if(v.kind==(0:Int))=true then
   if(v.n==(0:Int))=true then
    some (v.s.toList==(ByteArray.mk #[]).toList)
   else
    some (false)
  else
   if(v.kind==(1:Int))=true then
    if(v.n==(0:Int))=true then
     some (v.s.toList==(ByteArray.mk #[]).toList)
    else
     if(v.n==(1:Int))=true then
      some (v.s.toList==(ByteArray.mk #[]).toList)
     else
      some (false)
   else
    if(v.kind==(2:Int))=true then
     if(z1o v.n)=true then
      some (v.s.toList==(ByteArray.mk #[]).toList)
     else
      some (false)
    else
     if(v.kind==(3:Int))=true then
      if(v.n==(0:Int))=true then
       some (zdp v.s)
      else
       some (false)
     else
      some (false)
theorem z1zd{v:Val}{r:Bool}(h:zvh v=some r):Runs (awp zi7 z286 (zf Tryz.f38) (z2h Tryz.f38.ntmps 0 [.d (.agg (enc Ty.val v))]) (retQ zi7 Tryz.f38.results.toList [.d] fun rs os=>rs=zv8 r∧os=zv9 r)):=by
 constructor;rw[z23g v (fun rs os=>rs=zv8 r∧os=zv9 r)];rcases z13 h with⟨c1,h2⟩|⟨c1,h2⟩
 ·rcases z13 h2 with⟨c3,h4⟩|⟨c3,h4⟩
  ·cases h4;exact(z1d c1 (z1d c3 ⟨rfl,rfl⟩))
  ·cases h4;exact(z1d c1 (zx (zl c3) ⟨rfl,rfl⟩))
 ·rcases z13 h2 with⟨c5,h6⟩|⟨c5,h6⟩
  ·rcases z13 h6 with⟨c7,h8⟩|⟨c7,h8⟩
   ·cases h8;exact(zx (zl c1) (z1d c5 (z1d c7 ⟨rfl,rfl⟩)))
   ·rcases z13 h8 with⟨c9,h10⟩|⟨c9,h10⟩
    ·cases h10;exact(zx (zl c1) (z1d c5 (zx (zl c7) (z1d c9 ⟨rfl,rfl⟩))))
    ·cases h10;exact(zx (zl c1) (z1d c5 (zx (zl c7) (zx (zl c9) ⟨rfl,rfl⟩))))
  ·rcases z13 h6 with⟨c11,h12⟩|⟨c11,h12⟩
   ·rcases z13 h12 with⟨c13,h14⟩|⟨c13,h14⟩
    ·cases h14;exact(zx (zl c1) (zx (zl c5) (z1d c11 (z1d c13 ⟨rfl,rfl⟩))))
    ·cases h14;exact(zx (zl c1) (zx (zl c5) (z1d c11 (zx (zl c13) ⟨rfl,rfl⟩))))
   ·rcases z13 h12 with⟨c15,h16⟩|⟨c15,h16⟩
    ·rcases z13 h16 with⟨c17,h18⟩|⟨c17,h18⟩
     ·cases h18;exact(zx (zl c1) (zx (zl c5) (zx (zl c11) (z1d c15 (z1d c17 ⟨rfl,rfl⟩)))))
     ·cases h18;exact(zx (zl c1) (zx (zl c5) (zx (zl c11) (z1d c15 (zx (zl c17) ⟨rfl,rfl⟩)))))
    ·cases h16;exact(zx (zl c1) (zx (zl c5) (zx (zl c11) (zx (zl c15) ⟨rfl,rfl⟩))))
@[simp] theorem z18s(v:Val):zc3 v=z7x v:=by rfl
theorem z1t5(v:Val)(_hv:WS .val v):zvh v=some (zc3 v):=by
 unfold zvh zc3 z7x;simp only[beq_iff_eq,z231,zze,z23e];grind
theorem z18t:FnOK 38 z15q:=fnK1 zt (M:=zi7) rfl ⟨z2gk,z23f,trivial⟩ trivial trivial trivial trivial Tryz.func38 fun v=>fun w _=>z1zd (z1t5 v (wfA_ w 0))
def zi8:Mc Un:=mcF_ [(83,ztm),(135,z1f9)] [] [] [] []
theorem z23h(a:Val)(b:Val)(K:List (A Un)→List (Ob Un)→Prop):
  awp zi8 z286 (zf Tryz.f82) (z2h Tryz.f82.ntmps 0 [.d (.agg (enc Ty.val a)),.d (.agg (enc Ty.val b))]) (retQ zi8 Tryz.f82.results.toList [.d] K)=
(cnd (a.kind !=b.kind)
 (K (zas (z3l a.kind b.kind)) (zat (z3l a.kind b.kind)))
 (cnd (a.n !=b.n)
  (K (zas (z3l a.n b.n)) (zat (z3l a.n b.n)))
  (K (zas (zdo a.s b.s)) (zat (zdo a.s b.s))))):=by kernel_rfl
def zvi(a:Val)(b:Val):Option (Int):=
  if(a.kind !=b.kind)=true then
   some (z3l a.kind b.kind)
  else
   if(a.n !=b.n)=true then
    some (z3l a.n b.n)
   else
    some (zdo a.s b.s)
theorem z1ze{a:Val}{b:Val}{r:Int}(h:zvi a b=some r):Runs (awp zi8 z286 (zf Tryz.f82) (z2h Tryz.f82.ntmps 0 [.d (.agg (enc Ty.val a)),.d (.agg (enc Ty.val b))]) (retQ zi8 Tryz.f82.results.toList [.d] fun rs os=>rs=zas r∧os=zat r)):=by
 constructor;rw[z23h a b (fun rs os=>rs=zas r∧os=zat r)];rcases z13 h with⟨c1,h2⟩|⟨c1,h2⟩
 ·cases h2;exact(z1d c1 ⟨rfl,rfl⟩)
 ·rcases z13 h2 with⟨c3,h4⟩|⟨c3,h4⟩
  ·cases h4;exact(zx (zl c1) (z1d c3 ⟨rfl,rfl⟩))
  ·cases h4;exact(zx (zl c1) (zx (zl c3) ⟨rfl,rfl⟩))
def zbg(a b:Val):Int:=ordV a b
@[simp] theorem z23i(a b:Val):zbg a b=ordV a b:=by rfl
theorem z1t6(a b:Val)(_ha:WS .val a)(_hb:WS .val b):zvi a b=some (zbg a b):=by
 unfold zvi zbg ordV;simp;grind
def z1fd:FnC Un:=fnF2 (dS .val) (dS .val) fun a b=>([],zas (zbg a b),zat (zbg a b))
theorem z23j:FnOK 82 z1fd:=fnK2 zt zt (M:=zi8) rfl ⟨zzi,z23c,trivial⟩ trivial trivial trivial trivial Tryz.func82 fun a b=>fun w _=>z1ze (z1t6 a b (wfA_ w 0) (wfA_ w 1))
def z2q:Mc Un:=mcF_ [(82,z1fd),(83,ztm)] [] [] [] []
def z2w:Nat→NS:=nsF_ [(2,{ts:=[true,true,false,false,true,true,false,false,false,false,false,false,false,false,false,false,false,false,false,false,false,false,false,false,false,false,false,false,false,false,false,false,false,false,false,false,false,false,false,false,false,false],bs:=[false,false,false,false,false,false,false,false,false,false,false,false,false,false,false,false,false,false,false,false,false,false,false,false,false,false,false,false,false,false,false,false,false,false,false,false,false,false,false,false,false,false],nm:=[],gb:=[],gs:=[]})] false
def z50(a:List Val)(b:List Val)(v0:Int):S Un:=(st 42 42 168 0 [(0,AV.one (A.c (C.sl Ty.val a false))),(1,AV.one (A.c (C.sl Ty.val b false))),(4,AV.one (A.c (C.s (Value.int IntKind.i64 (0:Int))))),(5,AV.one (A.c (C.s (Value.int IntKind.i64 v0))))] [] [])
def zch(a:List Val)(b:List Val)(v0:Int)(v1:Int):S Un:=(st 42 42 168 0 [(0,AV.one (A.c (C.sl Ty.val a false))),(1,AV.one (A.c (C.sl Ty.val b false))),(4,AV.one (A.c (C.s (Value.int IntKind.i64 v1)))),(5,AV.one (A.c (C.s (Value.int IntKind.i64 v0))))] [] [])
theorem z1zf(a:List Val)(b:List Val)(K:List (A Un)→List (Ob Un)→Prop):
  awp z2q z2w (zf Tryz.f43) (z2h Tryz.f43.ntmps 0 [.d (.v (.dat (U:=Un) Ty.val a)),.d (.v (.dat (U:=Un) Ty.val b))]) (retQ z2q Tryz.f43.results.toList [.d] K)=
(zw (z2w 2) (awp z2q z2w (sub (zf Tryz.f43) [1,0,1,2,2])) (ctxK z2q z2w (zf Tryz.f43) [1,0,1,2] (retQ z2q Tryz.f43.results.toList [.d] K)) (z50 a b (0:Int))):=by kernel_rfl
theorem zj3(a:List Val)(b:List Val)(v0:Int)(k:Nat)(Q:Exit→S Un→Prop):
  z1a (z2w 2) (awp z2q z2w (sub (zf Tryz.f43) [1,0,1,2,2])) Q (k+1) (z50 a b v0)=
(cnd (decide (v0<(↑a.length:Int)))
 (cnd (decide (v0<(↑b.length:Int)))
  (((0:Int)≤v0∧v0<(↑a.length:Int))∧
  (((0:Int)≤v0∧v0<(↑b.length:Int))∧
  (cnd (zbg (a.getD v0.toNat z7) (b.getD v0.toNat z7) !=(0:Int))
   (((0:Int)≤v0∧v0<(↑a.length:Int))∧
   (((0:Int)≤v0∧v0<(↑b.length:Int))∧
   (Q .ret (zch a b v0 (zbg (a.getD v0.toNat z7) (b.getD v0.toNat z7))))))
   (z1a (z2w 2) (awp z2q z2w (sub (zf Tryz.f43) [1,0,1,2,2])) Q k (z50 a b (IntKind.i64.wrap (v0+(1:Int))))))))
  (Q (.exit 0) (z50 a b v0)))
 (Q (.exit 0) (z50 a b v0))):=by kernel_rfl
theorem z1du(a:List Val)(b:List Val)(v0:Int)(v1:Int)(K:List (A Un)→List (Ob Un)→Prop):
  ctxK z2q z2w (zf Tryz.f43) [1,0,1,2] (retQ z2q Tryz.f43.results.toList [.d] K) .ret (zch a b v0 v1)=
(K (zas (v1)) (zat (v1))):=by kernel_rfl
theorem z1j2(a:List Val)(b:List Val)(v0:Int)(K:List (A Un)→List (Ob Un)→Prop):
  ctxK z2q z2w (zf Tryz.f43) [1,0,1,2] (retQ z2q Tryz.f43.results.toList [.d] K) (.exit 0) (z50 a b v0)=
(K (zas (z3l (↑a.length:Int) (↑b.length:Int))) (zat (z3l (↑a.length:Int) (↑b.length:Int)))):=by kernel_rfl
def zaw(a:List Val)(b:List Val)(v:Int):Option ((Int) ⊕((Int×Int) ⊕(Int))):=
  if(decide (v<(↑a.length:Int)))=true then
   if(decide (v<(↑b.length:Int)))=true then
    if(0:Int)≤v∧v<(↑a.length:Int)then
     if(0:Int)≤v∧v<(↑b.length:Int)then
      if(zbg (a.getD v.toNat z7) (b.getD v.toNat z7) !=(0:Int))=true then
       if(0:Int)≤v∧v<(↑a.length:Int)then
        if(0:Int)≤v∧v<(↑b.length:Int)then
         some (.inr (.inl (v,(zbg (a.getD v.toNat z7) (b.getD v.toNat z7)))))
        else none
       else none
      else
       some (.inl (IntKind.i64.wrap (v+(1:Int))))
     else none
    else none
   else
    some (.inr (.inr v))
  else
   some (.inr (.inr v))
def zef(a:List Val)(b:List Val)(v:Int):Option ((Int×Int) ⊕(Int)):=zdy (zaw a b) v
theorem zkc(a:List Val)(b:List Val)(v:Int):zef a b v=zpc (zef a b) (zaw a b v):=zv5 _ _
def zj4(a:List Val)(b:List Val)(r:(Int×Int) ⊕(Int))(Q:Exit→S Un→Prop):Prop:=match r with| .inl x=>Q .ret (zch a b x.1 x.2)| .inr x=>Q (.exit 0) (z50 a b x)
theorem z1dv{a:List Val}{b:List Val}{x:Int×Int}{Q:Exit→S Un→Prop}(h:Q .ret (zch a b x.1 x.2)):zj4 a b (.inl x) Q:=h
theorem z1j3{a:List Val}{b:List Val}{x:Int}{Q:Exit→S Un→Prop}(h:Q (.exit 0) (z50 a b x)):zj4 a b (.inr x) Q:=h
theorem ztc{a:List Val}{b:List Val}{v:Int}{r:(Int×Int) ⊕(Int)}(h:zef a b v=some r)(Q:Exit→S Un→Prop)(hQ:zj4 a b r Q):zw (z2w 2) (awp z2q z2w (sub (zf Tryz.f43) [1,0,1,2,2])) Q (z50 a b v):=by
 refine@zv6 _ _ (zaw a b) (fun v=>zw (z2w 2) (awp z2q z2w (sub (zf Tryz.f43) [1,0,1,2,2])) Q (z50 a b v)) (fun r=>zj4 a b r Q) ?_ v r h hQ;intro v o h hI;rcases z13 h with⟨c1,h2⟩|⟨c1,h2⟩
 ·rcases z13 h2 with⟨c3,h4⟩|⟨c3,h4⟩
  ·obtain⟨c5,h6⟩:=z9u h4;obtain⟨c7,h8⟩:=z9u h6;rcases z13 h8 with⟨c9,h10⟩|⟨c9,h10⟩
   ·obtain⟨c11,h12⟩:=z9u h10;obtain⟨c13,h14⟩:=z9u h12;cases h14;exact z4p 1 (mpr (zj3 a b v 0 Q) (z1d c1 (z1d c3 (And.intro c5 (And.intro c7 (z1d c9 (And.intro c11 (And.intro c13 hI))))))))
   ·cases h10;obtain⟨k15,hk16⟩:=ztk hI;exact z4p (k15+1) (mpr (zj3 a b v k15 Q) (z1d c1 (z1d c3 (And.intro c5 (And.intro c7 (zx (zl c9) hk16))))))
  ·cases h4;exact z4p 1 (mpr (zj3 a b v 0 Q) (z1d c1 (zx (zl c3) hI)))
 ·cases h2;exact z4p 1 (mpr (zj3 a b v 0 Q) (zx (zl c1) hI))
def zsf(a:List Val)(b:List Val):Option (Int):=
  (zef a b (0:Int))>>=fun o17=>match o17 with
   | .inl o18=>
     some (o18.2)
   | .inr o19=>
     some (z3l (↑a.length:Int) (↑b.length:Int))
theorem z1t7{a:List Val}{b:List Val}{r:Int}(h:zsf a b=some r):Runs (awp z2q z2w (zf Tryz.f43) (z2h Tryz.f43.ntmps 0 [.d (.v (.dat (U:=Un) Ty.val a)),.d (.v (.dat (U:=Un) Ty.val b))]) (retQ z2q Tryz.f43.results.toList [.d] fun rs os=>rs=zas r∧os=zat r)):=by
 constructor;rw[z1zf a b (fun rs os=>rs=zas r∧os=zat r)];obtain⟨o20,ho21,h22⟩:=bind_some h;rcases o20 with o23|o24
 ·cases h22;exact(ztc ho21 _ (z1dv (mpr (z1du a b o23.1 o23.2 _) ⟨rfl,rfl⟩)))
 ·cases h22;exact(ztc ho21 _ (z1j3 (mpr (z1j2 a b o24 _) ⟨rfl,rfl⟩)))
def zbh(a b:List Val):Int:=ordR a b
@[simp] theorem z1zg(a b:List Val):zbh a b=ordR a b:=by rfl
theorem z1n0(a b:List Val)(ha:WL .val a)(hb:WL .val b):∀(ra rb:List Val)(i:Nat),a.drop i=ra→b.drop i=rb→i≤a.length→i≤b.length→
  ∃o,zef a b i=some o∧(match o with| .inl o=>o.2| .inr _=>cmpI a.length b.length)=ordR ra rb:=by
 intro ra
 induction ra with
 |nil=>
  intro rb i h1 h2 h3 h4;have e1:=zka h1;have e2:=zka h2;simp at e1;have hn:¬((i:Int)<a.length):=by omega
  refine⟨.inr i,by rw[zkc,zaw];simp[hn],?_⟩;simp;cases rb with
  |nil=>simp at e2;unfold cmpI ordR;omega
  |cons y rb=>simp at e2;unfold cmpI ordR;omega
 |cons x ra ih=>
  intro rb i h1 h2 h3 h4;obtain⟨a1,a2,a3,_⟩:=z3f h1;have hp:(i:Int)<a.length:=by omega
  cases rb with
  |nil=>
   have e2:=zka h2;simp at e2;have hn:¬((i:Int)<b.length):=by omega
   refine⟨.inr i,by rw[zkc,zaw];simp[*],?_⟩;simp;unfold cmpI ordR;omega
  |cons y rb=>
   obtain⟨b1,b2,b3,_⟩:=z3f h2;have hq:(i:Int)<b.length:=by omega
   have hi:(0:Int)≤i:=by omega
   rw[zkc,zaw];simp only[hp,hq,hi,decide_true,if_true,true_and,and_self,y5,a2,b2,bne_iff_ne,ne_eq,ite_not,z23i];by_cases hxy:ordV x y=0
   ·rw[if_pos hxy,zxf a1 ha.len];simpa only[ordR,hxy,if_true,zrf]using ih rb (i+1) a3 b3 (by omega) (by omega)
   simp_all[if_neg,zxg,ordR,if_false]
theorem z1n1(a b:List Val)(ha:WL .val a)(hb:WL .val b):zsf a b=some (zbh a b):=by
 obtain⟨o,ho,e⟩:=z1n0 a b ha hb _ _ 0 rfl rfl (by omega) (by omega);unfold zsf zbh;rw[show(0:Int)=((0:Nat):Int)from rfl,ho];simp at e;rw[←e];cases o<;>simp
def zvj:FnC Un:=fnF2 (dL .val) (dL .val) fun a b=>([],zas (zbh a b),zat (zbh a b))
theorem z15r:FnOK 43 zvj:=fnK2 zr zr (M:=z2q) rfl ⟨z23j,zzi,trivial⟩ trivial trivial trivial trivial Tryz.func43 fun a b=>fun w _=>z1t7 (z1n1 a b (wfA_ w 0) (wfA_ w 1))
end
end B
namespace B
open Go Go.RowKit
set_option maxRecDepth 100000
noncomputable section
attribute [local irreducible] awp ctxK zw z1a retQ z1m awf ctxF z1l
def z2c(r:Int):RF Un:=([.c (.s (.int .i64 r))],[])
def z1fe(op:Int):Option (RF Un):=fnF_ z1f6 z286 Tryz.f59 0 [.d] [.d (.v (.s (.int .i64 op)))]
def zc5(op:Int):Option (RF Un):=cndO (op==5) (cndO (op==5) (some (z2c ((2:Int)))) (some (z2c ((-1:Int))))) (cndO (op==6) (cndO (op==6) (some (z2c ((2:Int)))) (some (z2c ((-1:Int))))) (cndO (op==9) (cndO (op==9) (some (z2c ((2:Int)))) (some (z2c ((-1:Int))))) (cndO (op==10) (cndO (op==10) (some (z2c ((2:Int)))) (some (z2c ((-1:Int))))) (cndO (op==11) (some (z2c ((2:Int)))) (some (z2c ((-1:Int))))))))
def zzk(op:Int):Option (RF Un):=cndO (op==3) (cndO (op==3) (some (z2c ((1:Int)))) (zc5 op)) (cndO (op==4) (cndO (op==4) (some (z2c ((1:Int)))) (zc5 op)) (cndO (op==7) (cndO (op==7) (some (z2c ((1:Int)))) (zc5 op)) (cndO (op==8) (cndO (op==8) (some (z2c ((1:Int)))) (zc5 op)) (cndO (op==12) (cndO (op==12) (some (z2c ((1:Int)))) (zc5 op)) (cndO (op==13) (some (z2c ((1:Int)))) (zc5 op))))))
theorem z28b(op:Int):z1fe op=cndO (op==1) (cndO (op==1) (some (z2c ((0:Int)))) (zzk op)) (cndO (op==2) (some (z2c ((0:Int)))) (zzk op)):=by kernel_rfl
def zg0(op:Int):Int:=z3s op
def z2e(r:Rel):Int:=z29 r
theorem z1ff(op:Int):zg0 op=z3s op:=by rfl
theorem zae(r:Rel):z2e r=z29 r:=by rfl
theorem z1j4{β:Type}(a b:Bool)(x y:Option β):cndO a (cndO a x y) (cndO b x y)=cndO (a||b) x y:=by cases a<;>cases b<;>rfl
theorem z1zh(op:Int)(_h:WI op):z1fe op=some (z2c (zg0 op)):=by
 have e:∀x:Option (RF Un),(cndO (op==11) (cndO (op==11) (some (z2c ((2:Int)))) x) x)=cndO (op==11) (some (z2c ((2:Int)))) x:=fun x=>by cases op==11<;>rfl
 rw[z28b];unfold zg0 zzk zc5 z3s;simp only[e,z1j4];simp only[z8,y1g,beq_iff_eq];grind
def z141:FnC Un:=fnF1 (dI .i64) fun op=>([],z2c (zg0 op))
theorem z1fg:FnOK 59 z141:=fnK1 z17 (M:=z1f6) rfl trivial trivial trivial trivial trivial Tryz.func59 fun op=>GiF.r fun w _=>z1zh op (wfA_ w 0)
def zvk(m:Nat):FnC Un:=fnF1 (dS .rel) fun r=>z2o (r.ht) m ([],z2c (z2e r))
def z1fh(m:Nat):Mc Un:=mcF_ [(59,z141),(19,zvk m)] [] [] [] []
def z18u(r:Rel):=z2e (Rel.mk (Rel.op (r.kids.getD 0 za)) (Rel.table (r.kids.getD 0 za)) (Rel.cols (r.kids.getD 0 za)) (Rel.kids (r.kids.getD 0 za)) (Rel.terms (r.kids.getD 0 za)) (Rel.aggs (r.kids.getD 0 za)) (Rel.keys (r.kids.getD 0 za)) (Rel.limit (r.kids.getD 0 za)) (Rel.skip (r.kids.getD 0 za)) (Rel.all (r.kids.getD 0 za)) (Rel.rows (r.kids.getD 0 za)))
def z18v(m:Nat)(r:Rel):Option (RF Un):=fnF_ (z1fh m) z286 Tryz.f19 0 [.d] [.d (.agg (enc Ty.rel r))]
def zvl(m:Nat)(r:Rel):Option (RF Un):=obO ((0:Int)≤(0:Int)∧(0:Int)<(↑r.kids.length:Int)) (obO ((Rel.ids (r.kids.getD 0 za)).ht<m) (obO ((0:Int)≤(1:Int)∧(1:Int)<(↑r.kids.length:Int)) (obO ((Rel.ids (r.kids.getD 1 za)).ht<m) (some (z2c (IntKind.i64.wrap (z2e (Rel.ids (r.kids.getD 0 za))+z2e (Rel.ids (r.kids.getD 1 za)))))))))
def zvm(m:Nat)(r:Rel):Option (RF Un):=cndO (r.op==7) (some (z2c (IntKind.i64.wrap ((↑r.terms.length:Int)+(↑r.aggs.length:Int))))) (obO ((0:Int)≤(0:Int)∧(0:Int)<(↑r.kids.length:Int)) (obO ((Rel.ids (r.kids.getD 0 za)).ht<m) (some (z2c (z18u r)))))
def zvn(m:Nat)(r:Rel):Option (RF Un):=cndO (r.op==4) (some (z2c ((↑r.terms.length:Int)))) (cndO (r.op==5) (cndO (r.op==5) (zvl m r) (zvm m r)) (cndO (r.op==6) (zvl m r) (zvm m r)))
theorem z23k(m:Nat)(r:Rel):z18v m r=cndO (decide (zg0 r.op<0)) (some (z2c ((0:Int)))) (cndO (decide ((↑r.kids.length:Int)<zg0 r.op)) (some (z2c ((0:Int)))) (cndO (r.op==1) (cndO (r.op==1) (some (z2c ((↑r.cols.length:Int)))) (zvn m r)) (cndO (r.op==2) (some (z2c ((↑r.cols.length:Int)))) (zvn m r)))):=by kernel_rfl
theorem z1t8(m:Nat)(r:Rel)(_hr:WS .rel r)(hm:r.ht<m+1):z18v m r=some (z2c (z2e r)):=by
 have k0:0<r.kids.length→(r.kids.getD 0 za).ht<m:=fun h=>by have:=Rel.ht_kid (z8r (d:=za) (l:=r.kids) h);omega
 have k1:1<r.kids.length→(r.kids.getD 1 za).ht<m:=fun h=>by have:=Rel.ht_kid (z8r (d:=za) (l:=r.kids) h);omega
 rw[z23k];unfold zvn;rw[z1j4,z1j4,zae r,zky r];simp only[z8,beq_iff_eq,decide_eq_true_eq,z1ff,y1g];by_cases c1:z3s r.op<0
 ·grind
 by_cases c2:(r.kids.length:Int)<z3s r.op
 ·grind
 by_cases h1:r.op=1∨r.op=2
 ·grind
 have hn:=z2gh c1 h1;by_cases h4:r.op=4
 ·grind
 have hl0:0<r.kids.length:=by omega
 have g0:=zc4 r.kids 0 hl0;by_cases h56:r.op=5∨r.op=6
 ·have ht:=z18q h56;have hl1:1<r.kids.length:=by omega
  have g1:=zc4 r.kids 1 hl1;unfold zvl;grind[Rel.ids_eq,zae,z6]
 ·unfold zvm;rw[z8];by_cases h7:r.op=7
  ·grind
  simp_all[if_neg,z18u,z2mt,Rel.ids_eq,zae,z6]
abbrev z1fi(m:Nat):Prop:=FnOK 19 (zvk m)
theorem z1zi(m:Nat)(hG:z1fi m):FnOK 19 (zvk (m+1)):=fnK1 zt (M:=(z1fh m)) rfl ⟨z1fg,hG,trivial⟩ trivial trivial trivial trivial Tryz.func19 fun r=>GiF.r fun w o=>z1t8 m r (wfA_ w 0) (obA_ o 0)
theorem zxi:∀m,z1fi m
 |0=>fnZ1
 |m+1=>z1zi m (zxi m)
def zc6:FnC Un:=fnF1 (dS .rel) fun r=>([],z2c (z2e r))
theorem zg1:FnOK 19 zc6:=fnA1 fun m=>(zxi m)
end
end B
namespace B
open Go Go.RowKit
set_option maxRecDepth 100000
noncomputable section
attribute [local irreducible] awp ctxK zw z1a retQ z1m awf ctxF z1l
theorem z119{β:Type}(a b:Bool)(x y:Option β):cndO a x (cndO b x y)=cndO (a||b) x y:=by cases a<;>rfl
theorem z2x{α β:Type}{L:S Un→Option (EX Un)}{st:Int→S Un}{C:Exit→S Un→Option β}(R:Bool→Option β){l:List α}{d:α}{e:Exit}(q:α→Bool)(hl:l.length≤9223372036854775807)
  (step:∀(i:Nat)(x:α),(i:Int)<(l.length:Int)→l.getD i d=x→x∈l→L (st i)=if q x=true then L (st (IntKind.i64.wrap ((i:Int)+1)))else some (.ret,st i))
  (stop:L (st (l.length:Int))=some (e,st (l.length:Int)))(r1:∀i:Int,C .ret (st i)=R false)(r2:∀i:Int,C e (st i)=R true):(L (st 0)).bind (zd C)=R (l.all q):=by
 have key:∀(r:List α)(i:Nat),l.drop i=r→i≤l.length→(L (st i)).bind (zd C)=R (r.all q):=by
  intro r
  induction r with
  |nil=>
   intro i hr hi;have:l.length≤i:=y1q.1 hr;have e:i=l.length:=by omega
   rw[e,stop];exact r2 _
  |cons x r ih=>
   intro i hr hi;have hlt:i<l.length:=by
    grind
   have hx:l.getD i d=x:=by
    have:=y25 (xs:=l) (i:=i) (j:=0);grind
   have hm:x∈l:=by grind
   have hr2:l.drop (i+1)=r:=by grind[List.tail_drop]
   rw[step i x (by omega) hx hm,y1h];cases hq:q x
   ·exact r1 _
   ·rw[if_pos rfl,z1f (by omega),y1b];grind
 grind
def z2j(env:List Int)(n:Nat):Prop:=env.length+n≤8000000
def z7n(r:Int×Int×Bool):RF Un:=([.c (.s (.int .i64 r.1)),.c (.s (.int .i64 r.2.1)),.c (.s (.bool r.2.2))],[])
def z28d:Nat→NS:=nsF_ [] true
def z18w(name:ByteArray):Option (RF Un):=fnF_ z1f6 z28d Tryz.f104 0 [.d,.d,.d] [.d (.v (cs name))]
theorem z23l(name:ByteArray):z18w name=cndO (name.toList==(ByteArray.mk #[108,101,110,103,116,104]).toList) (some (z7n ((1:Int),(1:Int),true))) (cndO (name.toList==(ByteArray.mk #[108,111,119,101,114]).toList) (some (z7n ((1:Int),(1:Int),true))) (cndO (name.toList==(ByteArray.mk #[117,112,112,101,114]).toList) (some (z7n ((1:Int),(1:Int),true))) (cndO (name.toList==(ByteArray.mk #[97,98,115]).toList) (some (z7n ((1:Int),(1:Int),true))) (cndO (name.toList==(ByteArray.mk #[110,117,108,108,105,102]).toList) (some (z7n ((2:Int),(2:Int),true))) (cndO (name.toList==(ByteArray.mk #[99,111,97,108,101,115,99,101]).toList) (some (z7n ((1:Int),(1099511627776:Int),true))) (some (z7n ((0:Int),(0:Int),false)))))))):=by kernel_rfl
def zg2(name:ByteArray):Int×Int×Bool:=
  if(name.toList==(ByteArray.mk #[(108:UInt8),(101:UInt8),(110:UInt8),(103:UInt8),(116:UInt8),(104:UInt8)]).toList)=true then
   ((1:Int),(1:Int),true)
  else
   if(name.toList==(ByteArray.mk #[(108:UInt8),(111:UInt8),(119:UInt8),(101:UInt8),(114:UInt8)]).toList)=true then
    ((1:Int),(1:Int),true)
   else
    if(name.toList==(ByteArray.mk #[(117:UInt8),(112:UInt8),(112:UInt8),(101:UInt8),(114:UInt8)]).toList)=true then
     ((1:Int),(1:Int),true)
    else
     if(name.toList==(ByteArray.mk #[(97:UInt8),(98:UInt8),(115:UInt8)]).toList)=true then
      ((1:Int),(1:Int),true)
     else
      if(name.toList==(ByteArray.mk #[(110:UInt8),(117:UInt8),(108:UInt8),(108:UInt8),(105:UInt8),(102:UInt8)]).toList)=true then
       ((2:Int),(2:Int),true)
      else
       if(name.toList==(ByteArray.mk #[(99:UInt8),(111:UInt8),(97:UInt8),(108:UInt8),(101:UInt8),(115:UInt8),(99:UInt8),(101:UInt8)]).toList)=true then
        ((1:Int),(1099511627776:Int),true)
       else
        ((0:Int),(0:Int),false)
theorem z23m(name:ByteArray):z18w name=some (z7n (zg2 name)):=by grind[z23l,zg2,z8]
def z1fk:FnC Un:=fnF1 dStr fun name=>([],z7n (zg2 name))
theorem z23n:FnOK 104 z1fk:=fnK1 z3y (M:=z1f6) rfl trivial trivial trivial trivial trivial Tryz.func104 fun name=>GiF.r fun _ _=>z23m name
def z23o:Mc Un:=mcF_ [(104,z1fk)] [] [] [] []
def z1x7(t:Term):Option (RF Un):=fnF_ z23o z28d Tryz.f56 0 [.d,.d,.d] [.d (.agg (enc Ty.term t))]
theorem z2gl(t:Term):z1x7 t=cndO (t.op==1) (some (z7n ((0:Int),(0:Int),true))) (cndO (t.op==2) (some (z7n ((0:Int),(0:Int),true))) (cndO (t.op==26) (some (z7n ((0:Int),(0:Int),true))) (cndO (t.op==27) (some (z7n ((0:Int),(0:Int),true))) (cndO (t.op==3) (some (z7n ((1:Int),(1:Int),true))) (cndO (t.op==4) (some (z7n ((1:Int),(1:Int),true))) (cndO (t.op==19) (some (z7n ((1:Int),(1:Int),true))) (cndO (t.op==28) (some (z7n ((1:Int),(1:Int),true))) (cndO (t.op==5) (some (z7n ((2:Int),(2:Int),true))) (cndO (t.op==6) (some (z7n ((2:Int),(2:Int),true))) (cndO (t.op==7) (some (z7n ((2:Int),(2:Int),true))) (cndO (t.op==8) (some (z7n ((2:Int),(2:Int),true))) (cndO (t.op==9) (some (z7n ((2:Int),(2:Int),true))) (cndO (t.op==10) (some (z7n ((2:Int),(2:Int),true))) (cndO (t.op==11) (some (z7n ((2:Int),(2:Int),true))) (cndO (t.op==12) (some (z7n ((2:Int),(2:Int),true))) (cndO (t.op==13) (some (z7n ((2:Int),(2:Int),true))) (cndO (t.op==14) (some (z7n ((2:Int),(2:Int),true))) (cndO (t.op==15) (some (z7n ((2:Int),(2:Int),true))) (cndO (t.op==16) (some (z7n ((2:Int),(2:Int),true))) (cndO (t.op==17) (some (z7n ((2:Int),(2:Int),true))) (cndO (t.op==18) (some (z7n ((2:Int),(2:Int),true))) (cndO (t.op==20) (some (z7n ((2:Int),(2:Int),true))) (cndO (t.op==22) (some (z7n ((3:Int),(3:Int),true))) (cndO (t.op==21) (some (z7n ((2:Int),(1099511627776:Int),true))) (cndO (t.op==23) (some (z7n ((2:Int),(1099511627776:Int),true))) (cndO (t.op==24) (some (z7n ((zg2 t.name).fst,(zg2 t.name).snd.fst,(zg2 t.name).snd.snd))) (some (z7n ((0:Int),(0:Int),false))))))))))))))))))))))))))))):=by kernel_rfl
def zi9(t:Term):Int×Int×Bool:=
 if t.op=1∨t.op=2∨t.op=26∨t.op=27 then(0,0,true)
 else if t.op=3∨t.op=4∨t.op=19∨t.op=28 then(1,1,true)
 else if t.op=5∨t.op=6∨t.op=7∨t.op=8∨t.op=9∨t.op=10∨t.op=11∨t.op=12∨t.op=13∨t.op=14∨t.op=15∨t.op=16∨t.op=17∨t.op=18∨t.op=20 then(2,2,true)
 else if t.op=22 then(3,3,true)
 else if t.op=21∨t.op=23 then(2,1099511627776,true)
 else if t.op=24 then zg2 t.name
 else(0,0,false)
theorem z28e(t:Term)(_ht:WS .term t):z1x7 t=some (z7n (zi9 t)):=by
 rw[z2gl];unfold zi9;simp only[z119];simp only[z8,y1g,beq_iff_eq];grind
def z23p:FnC Un:=fnF1 (dS .term) fun t=>([],z7n (zi9 t))
theorem z2gm:FnOK 56 z23p:=fnK1 zt (M:=z23o) rfl ⟨z23n,trivial⟩ trivial trivial trivial trivial Tryz.func56 fun t=>GiF.r fun w _=>z28e t (wfA_ w 0)
def z1fl(t:Term):Option (RF Un):=fnF_ z1f6 z28d Tryz.f57 0 [.d] [.d (.agg (enc Ty.term t))]
theorem z28f(t:Term):z1fl t=cndO (t.op==26) (some (z2c ((1:Int)))) (cndO (t.op==27) (some (z2c ((1:Int)))) (cndO (t.op==28) (some (z2c ((1:Int)))) (some (z2c ((0:Int)))))):=by kernel_rfl
def zkd(t:Term):Int:=if t.op=26∨t.op=27∨t.op=28 then 1 else 0
theorem z1zj(t:Term)(_ht:WS .term t):z1fl t=some (z2c (zkd t)):=by
 rw[z28f];unfold zkd;simp only[z8,y1g,beq_iff_eq];grind
def z1n4:FnC Un:=fnF1 (dS .term) fun t=>([],z2c (zkd t))
theorem z28g:FnOK 57 z1n4:=fnK1 zt (M:=z1f6) rfl trivial trivial trivial trivial trivial Tryz.func57 fun t=>GiF.r fun w _=>z1zj t (wfA_ w 0)
def z1x8:Mc Un:=mcF_ [(38,z15q)] [] [] [] []
def z9b(r:Bool):RF Un:=([.c (.s (.bool r))],[])
def z1n5(t:Term)(env:List Int):Option (RF Un):=fnF_ z1x8 z28d Tryz.f58 0 [.d] [.d (.agg (enc Ty.term t)),.d (.v (.dat (U:=Un) Ty.int env))]
theorem z2cu(t:Term)(env:List Int):z1n5 t env=cndO (decide (t.type<0)) (some (z9b (false))) (cndO (decide (t.type>3)) (some (z9b (false))) (cndO (t.op==1) (some (z9b (zc3 t.v))) (cndO (t.op==2) (cndO (decide (t.depth≥0)) (cndO (decide (t.depth<(↑env.length:Int))) (cndO (decide (t.at_≥0)) (obO (0≤t.depth∧t.depth<(↑env.length:Int)) (some (z9b (decide (t.at_<env.getD t.depth.toNat (0:Int)))))) (some (z9b (false)))) (some (z9b (false)))) (some (z9b (false)))) (some (z9b (true)))))):=by kernel_rfl
def zus(t:Term)(env:List Int):Bool:=decide (0≤t.type∧t.type≤3)&&(if t.op=1 then z7x t.v else if t.op=2 then decide (0≤t.depth∧t.depth<(env.length:Int)∧0≤t.at_∧t.at_<env.getD t.depth.toNat 0)else true)
theorem z23q(t:Term)(env:List Int)(_ht:WS .term t)(_he:WL .int env):z1n5 t env=some (z9b (zus t env)):=by
 rw[z2cu];unfold zus;simp only[z8,beq_iff_eq,decide_eq_true_eq,z18s];by_cases h0:t.type<0
 ·grind
 by_cases h3:t.type>3
 ·grind
 by_cases h1:t.op=1
 ·grind
 by_cases h2:t.op=2
 ·by_cases d1:t.depth≥0
  ·by_cases d2:t.depth<(env.length:Int)
   ·by_cases d3:t.at_≥0
    all_goals simp_all[if_pos,z6,decide_eq_true,decide_eq_false,if_neg]
   grind
  grind
 grind
def z1x9:FnC Un:=fnF2 (dS .term) (dL .int) fun t env=>([],z9b (zus t env))
theorem z2cv:FnOK 58 z1x9:=fnK2 zt zr (M:=z1x8) rfl ⟨z18t,trivial⟩ trivial trivial trivial trivial Tryz.func58 fun t env=>GiF.r fun w _=>z23q t env (wfA_ w 0) (wfA_ w 1)
def z23r:Mc Un:=mcF_ [(19,zc6)] [] [] [] []
def zod(r:List Int):RF Un:=([.c (.sl (U:=Un) Ty.int r false)],[])
def z1xa(r:Rel)(env:List Int):Option (RF Un):=fnF_ z23r z28d Tryz.f112 0 [.d] [.d (.agg (enc Ty.rel r)),.d (.v (.dat (U:=Un) Ty.int env))]
def zxj(r:Rel)(env:List Int):Option (RF Un):=obO (([z2e (Rel.ids (r.kids.getD 0 za))].length+env.length)*(8:Nat)≤ze) (some (zod (z2e (Rel.ids (r.kids.getD 0 za))::env)))
def z18x(r:Rel)(env:List Int):Option (RF Un):=cndO (decide ((↑r.kids.length:Int)>(1:Int))) (obO ((0:Int)≤(1:Int)∧(1:Int)<(↑r.kids.length:Int)) (obO (([IntKind.i64.wrap (z2e (Rel.ids (r.kids.getD 0 za))+z2e (Rel.ids (r.kids.getD 1 za)))].length+env.length)*(8:Nat)≤ze) (some (zod (IntKind.i64.wrap (z2e (Rel.ids (r.kids.getD 0 za))+z2e (Rel.ids (r.kids.getD 1 za)))::env))))) (zxj r env)
def zxk(env:List Int):Option (RF Un):=obO (([(0:Int)].length+env.length)*(8:Nat)≤ze) (some (zod ((0:Int)::env)))
def z18y(r:Rel)(env:List Int):Option (RF Un):=cndO (decide ((↑r.kids.length:Int)>(1:Int))) (obO ((0:Int)≤(1:Int)∧(1:Int)<(↑r.kids.length:Int)) (obO (([IntKind.i64.wrap ((0:Int)+z2e (Rel.ids (r.kids.getD 1 za)))].length+env.length)*(8:Nat)≤ze) (some (zod (IntKind.i64.wrap ((0:Int)+z2e (Rel.ids (r.kids.getD 1 za)))::env))))) (zxk env)
theorem z2go(r:Rel)(env:List Int):z1xa r env=cndO (decide ((↑r.kids.length:Int)>(0:Int))) (obO ((0:Int)≤(0:Int)∧(0:Int)<(↑r.kids.length:Int)) (cndO (r.op==5) (z18x r env) (cndO (r.op==6) (z18x r env) (zxj r env)))) (cndO (r.op==5) (z18y r env) (cndO (r.op==6) (z18y r env) (zxk env))):=by kernel_rfl
def z2cw(r:Rel):Int:=if r.kids.length>0 then z29 (r.kids.getD 0 za)else 0
def z94(r:Rel):Int:=if(r.op=5∨r.op=6)∧r.kids.length>1 then IntKind.i64.wrap (z2cw r+z29 (r.kids.getD 1 za))else z2cw r
def zbi(r:Rel)(env:List Int):List Int:=z94 r::env
theorem z28h(r:Rel)(env:List Int)(_hr:WS .rel r)(_he:WL .int env)(h:z2j env 1):z1xa r env=some (zod (zbi r env)):=by
 unfold z2j at h;rw[z2go];unfold zxj z18x zxk z18y zxk zxj;simp only[z119,Rel.ids_eq,zae];simp only[z8,y1g,beq_iff_eq,decide_eq_true_eq];unfold zbi z94 z2cw;by_cases h0:r.kids.length>0
 ·rw[if_pos (by omega),if_pos h0,z6 (by omega)];by_cases h5:r.op=5∨r.op=6
  ·rw[if_pos h5];by_cases h1:r.kids.length>1
   ·rw[if_pos (by omega),if_pos ⟨h5,h1⟩,z6 (by omega),z6 (by grind[ze,List.length_singleton])]
   ·rw[if_neg (by omega),if_neg (fun e=>h1 e.2),z6 (by grind[ze,List.length_singleton])]
  ·rw[if_neg h5,if_neg (fun e=>h5 e.1),z6 (by grind[ze,List.length_singleton])]
 ·rw[if_neg (by omega),if_neg h0,if_neg (show¬((r.op=5∨r.op=6)∧r.kids.length>1)from fun e=>by omega)];split
  ·rw[if_neg (by omega),z6 (by grind[ze,List.length_singleton])]
  grind[z6,ze,List.length_singleton]
def z23s:FnC Un:=fnF2 (dS .rel) (dL .int) fun r env=>([z2j env 1],zod (zbi r env))
theorem z2gp:FnOK 112 z23s:=fnK2 zt zr (M:=z23r) rfl ⟨zg1,trivial⟩ trivial trivial trivial trivial Tryz.func112 fun r env=>GiF.r fun w o=>z28h r env (wfA_ w 0) (wfA_ w 1) (obA_ o 0)
def zvo:Nat→NS:=nsF_ [(2,{ts:=bl 16 13,bs:=bl 16 0,nm:=[],cs:=true})] true
def z74(r:List Val)(v0:Int):S Un:=(st 16 16 64 0 [(0,al .val r),(2,ab false),(3,ai v0)] [] [])
def zj5:S Un→Option (EX Un):=lpF_ z1x8 zvo Tryz.f35 [1,0,1,2,2] 2
def zsg:Exit→S Un→Option (RF Un):=cxF_ z1x8 zvo Tryz.f35 [1,0,1,2] [.d]
def z15s(r:List Val):Option (RF Un):=fnF_ z1x8 zvo Tryz.f35 0 [.d] [.d (.v (.dat (U:=Un) Ty.val r))]
theorem z1zk(r:List Val):z15s r=(zj5 (z74 r (0:Int))).bind (zd zsg):=by kernel_rfl
theorem z15t(r:List Val)(v0:Int):zj5 (z74 r v0)=cndO (decide (v0<(↑r.length:Int))) (obO (0≤v0∧v0<(↑r.length:Int)) (cndO (!zc3 (r.getD v0.toNat z7)) (some (.ret,(z74 r v0))) (zj5 (z74 r (IntKind.i64.wrap (v0+1)))))) (some (.exit 0,(z74 r v0))):=lpQ_ (by kernel_rfl)
theorem z1dw(r:List Val)(v0:Int):zsg .ret (z74 r v0)=some (z9b (false)):=by kernel_rfl
theorem z1j5(r:List Val)(v0:Int):zsg (.exit 0) (z74 r v0)=some (z9b (true)):=by kernel_rfl
def ze0(r:List Val):Bool:=r.all z7x
theorem z1n6(r:List Val)(hr:WL .val r):z15s r=some (z9b (ze0 r)):=by
 rw[z1zk]
 exact z2x (L:=zj5) (st:=fun i=>z74 r i) (fun b=>some (z9b b)) (d:=z7) z7x hr.len
  (fun i x hi hx _=>by
   rw[z15t];simp only[z8,hi,decide_true,if_true,and_true,y5,hx,z18s]
   grind[z6,z7x])
  (by rw[z15t];simp[z8]) (fun i=>z1dw _ _) (fun i=>z1j5 _ _)
def zvp:FnC Un:=fnF1 (dL .val) fun r=>([],z9b (ze0 r))
theorem z15u:FnOK 35 zvp:=fnK1 zr (M:=z1x8) rfl ⟨z18t,trivial⟩ trivial trivial trivial trivial Tryz.func35 fun r=>GiF.r fun w _=>z1n6 r (wfA_ w 0)
def ztn:Mc Un:=mcF_ [(35,zvp)] [] [] [] []
def z142:Nat→NS:=nsF_ [(2,{ts:=bl 27 51,bs:=bl 27 0,nm:=[],cs:=true})] true
def z7o(l:List (List Val))(n:Int)(v0:Int):S Un:=(st 27 27 108 0 [(0,al .row l),(1,ai n),(4,ab false),(5,ai v0)] [] [])
def zpe:S Un→Option (EX Un):=lpF_ ztn z142 Tryz.f113 [1,0,1,2,2] 2
def zzl:Exit→S Un→Option (RF Un):=cxF_ ztn z142 Tryz.f113 [1,0,1,2] [.d]
def z1fm(l:List (List Val))(n:Int):Option (RF Un):=fnF_ ztn z142 Tryz.f113 0 [.d] [.d (.v (.dat (U:=Un) Ty.row l)),.d (.v (.s (.int .i64 n)))]
theorem z28i(l:List (List Val))(n:Int):z1fm l n=(zpe (z7o l n (0:Int))).bind (zd zzl):=by kernel_rfl
theorem z1fn(l:List (List Val))(n:Int)(v0:Int):zpe (z7o l n v0)=cndO (decide (v0<(↑l.length:Int))) (obO (0≤v0∧v0<(↑l.length:Int)) (cndO ((↑(List.length (l.getD v0.toNat [])):Int) !=n) (some (.ret,(z7o l n v0))) (obO (0≤v0∧v0<(↑l.length:Int)) (cndO (!ze0 (l.getD v0.toNat [])) (some (.ret,(z7o l n v0))) (zpe (z7o l n (IntKind.i64.wrap (v0+1)))))))) (some (.exit 0,(z7o l n v0))):=lpQ_ (by kernel_rfl)
theorem z1n7(l:List (List Val))(n:Int)(v0:Int):zzl .ret (z7o l n v0)=some (z9b (false)):=by kernel_rfl
theorem z1t9(l:List (List Val))(n:Int)(v0:Int):zzl (.exit 0) (z7o l n v0)=some (z9b (true)):=by kernel_rfl
def zoe(l:List (List Val))(n:Int):Bool:=l.all fun x=>decide ((x.length:Int)=n)&&ze0 x
theorem z1zl(l:List (List Val))(n:Int)(hl:WL .row l)(_hn:WI n):z1fm l n=some (z9b (zoe l n)):=by
 rw[z28i]
 exact z2x (L:=zpe) (st:=fun i=>z7o l n i) (fun b=>some (z9b b)) (d:=[]) (fun x=>decide ((x.length:Int)=n)&&ze0 x) hl.len
  (fun i x hi hx _=>by
   rw[z1fn];simp only[z8,hi,decide_true,if_true,and_true,y5,hx];rw[z6 (by omega),z6 (by omega)]
   grind)
  (by rw[z1fn];simp[z8]) (fun i=>z1n7 _ _ _) (fun i=>z1t9 _ _ _)
def z1n8:FnC Un:=fnF2 (dL .row) (dI .i64) fun l n=>([],z9b (zoe l n))
theorem z28j:FnOK 113 z1n8:=fnK2 zr z17 (M:=ztn) rfl ⟨z15u,trivial⟩ trivial trivial trivial trivial Tryz.func113 fun l n=>GiF.r fun w _=>z1zl l n (wfA_ w 0) (wfA_ w 1)
def z7p(l:List By)(n:Int)(v0:Int):S Un:=(st 27 27 108 0 [(0,al .by_ l),(1,ai n),(4,ab false),(5,ai v0)] [] [])
def zpf:S Un→Option (EX Un):=lpF_ z1f6 z142 Tryz.f116 [1,0,1,2,2] 2
def zzm:Exit→S Un→Option (RF Un):=cxF_ z1f6 z142 Tryz.f116 [1,0,1,2] [.d]
def z1fo(l:List By)(n:Int):Option (RF Un):=fnF_ z1f6 z142 Tryz.f116 0 [.d] [.d (.v (.dat (U:=Un) Ty.by_ l)),.d (.v (.s (.int .i64 n)))]
theorem z28k(l:List By)(n:Int):z1fo l n=(zpf (z7p l n (0:Int))).bind (zd zzm):=by kernel_rfl
theorem z1fp(l:List By)(n:Int)(v0:Int):zpf (z7p l n v0)=cndO (decide (v0<(↑l.length:Int))) (obO (0≤v0∧v0<(↑l.length:Int)) (cndO (decide ((l.getD v0.toNat zab).at_<0)) (some (.ret,(z7p l n v0))) (obO (0≤v0∧v0<(↑l.length:Int)) (cndO (decide ((l.getD v0.toNat zab).at_≥n)) (some (.ret,(z7p l n v0))) (zpf (z7p l n (IntKind.i64.wrap (v0+1)))))))) (some (.exit 0,(z7p l n v0))):=lpQ_ (by kernel_rfl)
theorem z1n9(l:List By)(n:Int)(v0:Int):zzm .ret (z7p l n v0)=some (z9b (false)):=by kernel_rfl
theorem z1ta(l:List By)(n:Int)(v0:Int):zzm (.exit 0) (z7p l n v0)=some (z9b (true)):=by kernel_rfl
def zvq(l:List By)(n:Int):Bool:=l.all fun k=>decide (0≤k.at_∧k.at_<n)
theorem z1zm(l:List By)(n:Int)(hl:WL .by_ l)(_hn:WI n):z1fo l n=some (z9b (zvq l n)):=by
 rw[z28k]
 exact z2x (L:=zpf) (st:=fun i=>z7p l n i) (fun b=>some (z9b b)) (d:=zab) (fun k=>decide (0≤k.at_∧k.at_<n)) hl.len
  (fun i x hi hx _=>by
   rw[z1fp];simp only[z8,hi,decide_true,if_true,and_true,y5,hx,decide_eq_true_eq];rw[z6 (by omega),z6 (by omega)]
   grind)
  (by rw[z1fp];simp[z8]) (fun i=>z1n9 _ _ _) (fun i=>z1ta _ _ _)
def z1na:FnC Un:=fnF2 (dL .by_) (dI .i64) fun l n=>([],z9b (zvq l n))
theorem z28l:FnOK 116 z1na:=fnK2 zr z17 (M:=z1f6) rfl trivial trivial trivial trivial trivial Tryz.func116 fun l n=>GiF.r fun w _=>z1zm l n (wfA_ w 0) (wfA_ w 1)
end
end B
end Go.Proofs.YtjfpbchdcbhfgaaGreat
