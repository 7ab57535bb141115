/- Part 7 of the proof: Sref03 Sr15w Sref15v. -/
import Derived.Test.YtjfpbchdcbhfgaaGreatNsy6
set_option linter.unusedVariables false
set_option linter.unusedSimpArgs false
set_option linter.defProp false
namespace Go.Proofs.YtjfpbchdcbhfgaaGreat
namespace B
open Go Go.RowKit
set_option maxRecDepth 100000
noncomputable section
attribute [local irreducible] aB bk zw br aK b9
def aji n K:
 aB av aN (zh Tryz.f73) (bG Tryz.f73.ntmps 0 [.d<|.v<|.s<|.int .i64 n]) (aK av Tryz.f73.results.toList [.d] K)=
(bv (decide (n≥(-1000000000000000:Int)))
 (K (bm<|decide<|n≤(1000000000000000:Int))<|bp<|decide<|n≤(1000000000000000:Int))
 (K (bm (false)) (bp (false)))):=by kernel_rfl
def ajj{n r}(h:D8 n=some r):Runs (aB av aN (zh Tryz.f73) (bG Tryz.f73.ntmps 0 [.d<|.v<|.s<|.int .i64 n])<|aK av Tryz.f73.results.toList [.d] fun rs os=>rs=bm r∧os=bp r):=by
 constructor;rw[aji n fun rs os=>rs=bm r∧os=bp r];rcases bJ h with⟨c1,h2⟩|⟨c1,h2⟩
 ·cases h2;exact(aZ c1 ⟨rfl,rfl⟩)
 ·cases h2;exact(aP (zq c1) ⟨rfl,rfl⟩)
def vM:aj 73 lj:=aU zn (M:=av) rfl trivial Tryz.func73 fun n=>fun _ _=>ajj<|TV n
def ajk a b K:
 aB av aN (zh Tryz.f83) (bG Tryz.f83.ntmps 0 [.d<|.v<|.s<|.int .i64 a,.d<|.v<|.s<|.int .i64 b]) (aK av Tryz.f83.results.toList [.d] K)=
(bv (decide (a<b))
 (K (bh<|(-1:Int))<|bi<|(-1:Int))
 (bv (decide (a>b))
  (K (bh<|(1:Int))<|bi<|(1:Int))
  (K (bh ((0:Int))) (bi ((0:Int)))))):=by kernel_rfl
def LU(a:Int)(b:Int):Option Int:=
 if(decide<|a<b)=true then
  some ((-1:Int))
 else
  if(decide<|a>b)=true then
   some ((1:Int))
  else
   some ((0:Int))
def ajl{a b r}(h:LU a b=some r):Runs (aB av aN (zh Tryz.f83) (bG Tryz.f83.ntmps 0 [.d<|.v<|.s<|.int .i64 a,.d<|.v<|.s<|.int .i64 b])<|aK av Tryz.f83.results.toList [.d] fun rs os=>rs=bh r∧os=bi r):=by
 constructor;rw[ajk a b fun rs os=>rs=bh r∧os=bi r];rcases bJ h with⟨c1,h2⟩|⟨c1,h2⟩
 ·cases h2;exact(aZ c1 ⟨rfl,rfl⟩)
 ·rcases bJ h2 with⟨c3,h4⟩|⟨c3,h4⟩
  ·cases h4;exact(aP (zq c1)<|aZ c3 ⟨rfl,rfl⟩)
  ·cases h4;exact(aP (zq c1)<|aP (zq c3) ⟨rfl,rfl⟩)
def ef(a:Int)(b:Int):Int:=
 if(decide<|a<b)=true then
  ((-1:Int))
 else
  if(decide<|a>b)=true then
   ((1:Int))
  else
   ((0:Int))
def ajm a b:LU a b=some (ef a b):=by grind[LU,ef]
def GI:au Un:=aD (dI .i64) (dI .i64) fun a b=>([],bh<|ef a b,bi<|ef a b)
def GJ:aj 83 GI:=aJ zn zn (M:=av) rfl trivial Tryz.func83 fun a b=>fun _ _=>ajl<|ajm a b
@[simp] theorem T4 a b:ef a b=cK a b:=by
 unfold ef cK;simp
def gh:Mc Un:=az [(83,GI)] [] [] [] []
def gW:Nat→NS:=aO [(2,{ts:=bl 39 51,bs:=bl 39 0,nm:=[],gb:=[],gs:=[]})] false
def mB(a:ByteArray)(b:ByteArray)(v0:Int):S Un:=(st 39 39 156 0 [(0,AV.one<|A.c<|C.s<|Value.string a),(1,AV.one<|A.c<|C.s<|Value.string b),(4,AV.one<|A.c<|C.s<|Value.int IntKind.i64 (0:Int)),(5,AV.one<|A.c<|C.s<|Value.int IntKind.i64 v0)] [] [])
def GK(a:ByteArray)(b:ByteArray)(v0:Int)(v1:Int):S Un:=(st 39 39 156 0 [(0,AV.one<|A.c<|C.s<|Value.string a),(1,AV.one<|A.c<|C.s<|Value.string b),(4,AV.one<|A.c<|C.s<|Value.int IntKind.i64 v1),(5,AV.one<|A.c<|C.s<|Value.int IntKind.i64 v0)] [] [])
def ajn a b K:
 aB gh gW (zh Tryz.f135) (bG Tryz.f135.ntmps 0 [.d<|.v<|cs a,.d<|.v<|cs b]) (aK gh Tryz.f135.results.toList [.d] K)=
(zw (gW 2) (aB gh gW<|sub (zh Tryz.f135) [1,0,1,2,2]) (bk gh gW (zh Tryz.f135) [1,0,1,2]<|aK gh Tryz.f135.results.toList [.d] K)<|mB a b (0:Int)):=by kernel_rfl
def GL a b v0 k Q:
 br (gW 2) (aB gh gW<|sub (zh Tryz.f135) [1,0,1,2,2]) Q (k+1) (mB a b v0)=
(bv (decide (v0<(↑a.size:Int)))
 (bv (decide (v0<(↑b.size:Int)))
  (((0:Int)≤v0∧v0<(↑a.size:Int))∧
  (((0:Int)≤v0∧v0<(↑b.size:Int))∧
  (bv ((↑(a.toList.getD v0.toNat (0:UInt8)).toNat:Int) !=(↑(b.toList.getD v0.toNat (0:UInt8)).toNat:Int))
   (((0:Int)≤v0∧v0<(↑a.size:Int))∧
   (((0:Int)≤v0∧v0<(↑b.size:Int))∧
   (Q .ret (GK a b v0 (ef (IntKind.i64.wrap (↑(a.toList.getD v0.toNat (0:UInt8)).toNat:Int)) (IntKind.i64.wrap (↑(b.toList.getD v0.toNat (0:UInt8)).toNat:Int)))))))
   (br (gW 2) (aB gh gW (sub (zh Tryz.f135) [1,0,1,2,2])) Q k (mB a b (IntKind.i64.wrap (v0+(1:Int))))))))
  (Q (.exit 0) (mB a b v0)))
 (Q (.exit 0) (mB a b v0))):=by kernel_rfl
def ajo a b v0 v1 K:
 bk gh gW (zh Tryz.f135) [1,0,1,2] (aK gh Tryz.f135.results.toList [.d] K) .ret (GK a b v0 v1)=
(K (bh v1)<|bi v1):=by kernel_rfl
def ajp a b v0 K:
 bk gh gW (zh Tryz.f135) [1,0,1,2] (aK gh Tryz.f135.results.toList [.d] K) (.exit 0) (mB a b v0)=
(K (bh<|ef (↑a.size:Int) (↑b.size:Int))<|bi<|ef (↑a.size:Int) (↑b.size:Int)):=by kernel_rfl
def vN(a:ByteArray)(b:ByteArray)(v:Int):Option ((Int) ⊕((Int×Int) ⊕(Int))):=
 if(decide<|v<(↑a.size:Int))=true then
  if(decide<|v<(↑b.size:Int))=true then
   if(0:Int)≤v∧v<(↑a.size:Int)then
    if(0:Int)≤v∧v<(↑b.size:Int)then
     if((↑(a.toList.getD v.toNat (0:UInt8)).toNat:Int) !=(↑(b.toList.getD v.toNat (0:UInt8)).toNat:Int))=true then
      if(0:Int)≤v∧v<(↑a.size:Int)then
       if(0:Int)≤v∧v<(↑b.size:Int)then
        some (.inr<|.inl (v,(ef (IntKind.i64.wrap (↑(a.toList.getD v.toNat (0:UInt8)).toNat:Int))<|IntKind.i64.wrap (↑(b.toList.getD v.toNat (0:UInt8)).toNat:Int))))
       else none
      else none
     else
      some (.inl<|IntKind.i64.wrap<|v+(1:Int))
    else none
   else none
  else
   some (.inr<|.inr v)
 else
  some (.inr<|.inr v)
def Bz(a:ByteArray)(b:ByteArray)(v:Int):Option ((Int×Int) ⊕(Int)):=gU (vN a b) v
def Qm a b v:Bz a b v=mw (Bz a b) (vN a b v):=zM _ _
def GM(a:ByteArray)(b:ByteArray)(r:(Int×Int) ⊕(Int))(Q:Exit→S Un→Prop):Prop:=match r with| .inl x=>Q .ret (GK a b x.1 x.2)| .inr x=>Q (.exit 0)<|mB a b x
def ajq{a b x Q}(h:Q .ret (GK a b x.1 x.2)):GM a b (.inl x) Q:=h
def ajr{a b x Q}(h:Q (.exit 0) (mB a b x)):GM a b (.inr x) Q:=h
def T5{a b v r}(h:Bz a b v=some r) Q(hQ:GM a b r Q):zw (gW 2) (aB gh gW<|sub (zh Tryz.f135) [1,0,1,2,2]) Q (mB a b v):=by
 refine@zN _ _ (vN a b) (fun v=>zw (gW 2) (aB gh gW<|sub (zh Tryz.f135) [1,0,1,2,2]) Q<|mB a b v) (fun r=>GM a b r Q) ?_ v r h hQ;intro v o h hI;rcases bJ h with⟨c1,h2⟩|⟨c1,h2⟩
 ·rcases bJ h2 with⟨c3,h4⟩|⟨c3,h4⟩
  ·obtain⟨c5,h6⟩:=jx h4;obtain⟨c7,h8⟩:=jx h6;rcases bJ h8 with⟨c9,h10⟩|⟨c9,h10⟩
   ·obtain⟨c11,h12⟩:=jx h10;obtain⟨c13,h14⟩:=jx h12;cases h14;exact gS 1<|dR (GL a b v 0 Q)<|aZ c1<|aZ c3<|And.intro c5<|And.intro c7<|aZ c9<|And.intro c11<|And.intro c13 hI
   ·cases h10;obtain⟨k15,hk16⟩:=DU hI;exact gS (k15+1)<|dR (GL a b v k15 Q)<|aZ c1<|aZ c3<|And.intro c5<|And.intro c7<|aP (zq c9) hk16
  ·cases h4;exact gS 1<|dR (GL a b v 0 Q)<|aZ c1<|aP (zq c3) hI
 ·cases h2;exact gS 1<|dR (GL a b v 0 Q)<|aP (zq c1) hI
def LV(a:ByteArray)(b:ByteArray):Option Int:=
 (Bz a b (0:Int))>>=fun o17=>match o17 with
  | .inl o18=>
   some o18.2
  | .inr o19=>
   some (ef (↑a.size:Int) (↑b.size:Int))
def ajs{a b r}(h:LV a b=some r):Runs (aB gh gW (zh Tryz.f135) (bG Tryz.f135.ntmps 0 [.d<|.v<|cs a,.d<|.v<|cs b])<|aK gh Tryz.f135.results.toList [.d] fun rs os=>rs=bh r∧os=bi r):=by
 constructor;rw[ajn a b fun rs os=>rs=bh r∧os=bi r];obtain⟨o20,ho21,h22⟩:=bind_some h;rcases o20 with o23|o24
 ·cases h22;exact(T5 ho21 _<|ajq<|dR (ajo a b o23.1 o23.2 _) ⟨rfl,rfl⟩)
 ·cases h22;exact(T5 ho21 _<|ajr<|dR (ajp a b o24 _) ⟨rfl,rfl⟩)
def oe(a b:ByteArray):Int:=gH a b
@[simp] theorem ajt a b:oe a b=gH a b:=by rfl
def aju a b(ha:cm a)(hb:cm b):∀(ra rb:List UInt8)(i:Nat),a.toList.drop i=ra→b.toList.drop i=rb→i≤a.size→i≤b.size→
 ∃o,Bz a b i=some o∧(match o with| .inl o=>o.2| .inr _=>cK a.size b.size)=bF ra rb:=by
 intro ra
 induction ra with
 |nil=>
  intro rb i h1 h2 h3 h4;have e1:=sN h1;have e2:=sN h2;rw[eK]at e1 e2;simp at e1;have hn:¬((i:Int)<a.size):=by omega
  refine⟨.inr i,by rw[Qm,vN];simp[hn],?_⟩;simp;cases rb with
  |nil=>simp at e2;unfold cK bF;omega
  |cons y rb=>simp at e2;unfold cK bF;omega
 |cons x ra ih=>
  intro rb i h1 h2 h3 h4;obtain⟨a1,a2,a3,_⟩:=d9 h1;rw[eK]at a1;have hp:(i:Int)<a.size:=by omega
  cases rb with
  |nil=>
   have e2:=sN h2;rw[eK]at e2;simp at e2;have hn:¬((i:Int)<b.size):=by omega
   refine⟨.inr i,by rw[Qm,vN];simp[*],?_⟩;simp;unfold cK bF;omega
  |cons y rb=>
   obtain⟨b1,b2,b3,_⟩:=d9 h2;rw[eK]at b1;have hq:(i:Int)<b.size:=by omega
   have hi:(0:Int)≤i:=by omega
   rw[Qm,vN];simp only[hp,hq,hi,decide_true,if_true,true_and,and_self,y5,a2,b2];by_cases hxy:x=y
   ·subst hxy;simp;rw[DV a1 ha];simpa only[bF,if_true,Br]using ih rb (i+1) a3 b3 (by omega) (by omega)
   ·have hne:((x.toNat:Int) !=(y.toNat:Int))=true:=by
     grind[UInt8.toNat_inj]
    have hx:=x.toNat_lt;have hy:=y.toNat_lt;refine⟨_,by rw[if_pos hne,DW],?_⟩;simp only[bF,hxy,if_false,T4];grind[zm]
def ajv a b(ha:cm a)(hb:cm b):LV a b=some (oe a b):=by
 obtain⟨o,ho,e⟩:=aju a b ha hb _ _ 0 rfl rfl (by omega) (by omega);unfold LV oe gH;rw[show(0:Int)=((0:Nat):Int)from rfl,ho];simp at e;rw[←e];cases o<;>simp
def T6:au Un:=aD cB cB fun a b=>([],bh<|oe a b,bi<|oe a b)
def T7:aj 135 T6:=aJ cN cN (M:=gh) rfl ⟨GJ,trivial⟩ Tryz.func135 fun a b=>fun w _=>ajs<|ajv a b (am w 0)<|am w 1
def gX:Nat→NS:=aO [(2,{ts:=bl 23 13,bs:=bl 23 0,nm:=[],gb:=[],gs:=[]})] false
def iR(s:ByteArray)(v0:Int):S Un:=(st 23 23 92 0 [(0,AV.one<|A.c<|C.s<|Value.string s),(2,AV.one<|A.c<|C.s<|Value.bool false),(3,AV.one<|A.c<|C.s<|Value.int IntKind.i64 v0)] [] [])
def ajw s K:
 aB av gX (zh Tryz.f74) (bG Tryz.f74.ntmps 0 [.d<|.v<|cs s]) (aK av Tryz.f74.results.toList [.d] K)=
(zw (gX 2) (aB av gX<|sub (zh Tryz.f74) [1,0,1,2,2]) (bk av gX (zh Tryz.f74) [1,0,1,2]<|aK av Tryz.f74.results.toList [.d] K)<|iR s (0:Int)):=by kernel_rfl
def GN s v0 k Q:
 br (gX 2) (aB av gX<|sub (zh Tryz.f74) [1,0,1,2,2]) Q (k+1) (iR s v0)=
(bv (decide (v0<(↑s.size:Int)))
 (((0:Int)≤v0∧v0<(↑s.size:Int))∧
 (bv (decide ((↑(s.toList.getD v0.toNat (0:UInt8)).toNat:Int)<(32:Int)))
  (Q .ret<|iR s v0)
  (((0:Int)≤v0∧v0<(↑s.size:Int))∧
  (bv (decide ((↑(s.toList.getD v0.toNat (0:UInt8)).toNat:Int)>(126:Int)))
   (Q .ret<|iR s v0)
   (br (gX 2) (aB av gX (sub (zh Tryz.f74) [1,0,1,2,2])) Q k (iR s (IntKind.i64.wrap (v0+(1:Int)))))))))
 (Q (.exit 0) (iR s v0))):=by kernel_rfl
def ajx s v0 K:
 bk av gX (zh Tryz.f74) [1,0,1,2] (aK av Tryz.f74.results.toList [.d] K) .ret (iR s v0)=
(K (bm false)<|bp false):=by kernel_rfl
def ajy s v0 K:
 bk av gX (zh Tryz.f74) [1,0,1,2] (aK av Tryz.f74.results.toList [.d] K) (.exit 0) (iR s v0)=
(K (bm<|decide<|(↑s.size:Int)≤(100:Int))<|bp<|decide<|(↑s.size:Int)≤(100:Int)):=by kernel_rfl
def BA(s:ByteArray)(v:Int):Option ((Int) ⊕((Int) ⊕(Int))):=
 if(decide<|v<(↑s.size:Int))=true then
  if(0:Int)≤v∧v<(↑s.size:Int)then
   if(decide<|(↑(s.toList.getD v.toNat (0:UInt8)).toNat:Int)<(32:Int))=true then
    some (.inr<|.inl v)
   else
    if(0:Int)≤v∧v<(↑s.size:Int)then
     if(decide<|(↑(s.toList.getD v.toNat (0:UInt8)).toNat:Int)>(126:Int))=true then
      some (.inr<|.inl v)
     else
      some (.inl<|IntKind.i64.wrap<|v+(1:Int))
    else none
  else none
 else
  some (.inr<|.inr v)
def BB(s:ByteArray)(v:Int):Option ((Int) ⊕(Int)):=gU (BA s) v
def T8 s v:BB s v=mw (BB s) (BA s v):=zM _ _
def GO(s:ByteArray)(r:(Int) ⊕(Int))(Q:Exit→S Un→Prop):Prop:=match r with| .inl x=>Q .ret (iR s x)| .inr x=>Q (.exit 0)<|iR s x
def ajz{s x Q}(h:Q .ret (iR s x)):GO s (.inl x) Q:=h
def ajA{s x Q}(h:Q (.exit 0) (iR s x)):GO s (.inr x) Q:=h
def T9{s v r}(h:BB s v=some r) Q(hQ:GO s r Q):zw (gX 2) (aB av gX<|sub (zh Tryz.f74) [1,0,1,2,2]) Q (iR s v):=by
 refine@zN _ _ (BA s) (fun v=>zw (gX 2) (aB av gX<|sub (zh Tryz.f74) [1,0,1,2,2]) Q<|iR s v) (fun r=>GO s r Q) ?_ v r h hQ;intro v o h hI;rcases bJ h with⟨c1,h2⟩|⟨c1,h2⟩
 ·obtain⟨c3,h4⟩:=jx h2;rcases bJ h4 with⟨c5,h6⟩|⟨c5,h6⟩
  ·cases h6;exact gS 1<|dR (GN s v 0 Q)<|aZ c1<|And.intro c3<|aZ c5 hI
  ·obtain⟨c7,h8⟩:=jx h6;rcases bJ h8 with⟨c9,h10⟩|⟨c9,h10⟩
   ·cases h10;exact gS 1<|dR (GN s v 0 Q)<|aZ c1<|And.intro c3<|aP (zq c5)<|And.intro c7<|aZ c9 hI
   ·cases h10;obtain⟨k11,hk12⟩:=DU hI;exact gS (k11+1)<|dR (GN s v k11 Q)<|aZ c1<|And.intro c3<|aP (zq c5)<|And.intro c7<|aP (zq c9) hk12
 ·cases h2;exact gS 1<|dR (GN s v 0 Q)<|aP (zq c1) hI
def LW(s:ByteArray):Option Bool:=
 (BB s (0:Int))>>=fun o13=>match o13 with
  | .inl o14=>
   some false
  | .inr o15=>
   some (decide<|(↑s.size:Int)≤(100:Int))
def ajB{s r}(h:LW s=some r):Runs (aB av gX (zh Tryz.f74) (bG Tryz.f74.ntmps 0 [.d<|.v<|cs s])<|aK av Tryz.f74.results.toList [.d] fun rs os=>rs=bm r∧os=bp r):=by
 constructor;rw[ajw s fun rs os=>rs=bm r∧os=bp r];obtain⟨o16,ho17,h18⟩:=bind_some h;rcases o16 with o19|o20
 ·cases h18;exact(T9 ho17 _<|ajz<|dR (ajx s o19 _) ⟨rfl,rfl⟩)
 ·cases h18;exact(T9 ho17 _<|ajA<|dR (ajy s o20 _) ⟨rfl,rfl⟩)
def p6(s:ByteArray):Bool:=uz s
@[simp] theorem ajC s:p6 s=uz s:=by rfl
def ajD s(hs:cm s):∀(r:List UInt8)(i:Nat),s.toList.drop i=r→
 ∃o,BB s i=some o∧(match o with| .inl _=>false| .inr _=>true)=r.all (fun b=>decide<|32≤b.toNat∧b.toNat≤126):=by
 intro r
 induction r with
 |nil=>
  intro i h1;have e1:=sN h1;rw[eK]at e1;simp at e1;have hn:¬((i:Int)<s.size):=by omega
  exact⟨.inr i,by rw[T8,BA];simp[hn],rfl⟩
 |cons x r ih=>
  intro i h1;obtain⟨a1,a2,a3,_⟩:=d9 h1;rw[eK]at a1;have hp:(i:Int)<s.size:=by omega
  have hi:(0:Int)≤i:=by omega
  rw[T8,BA];simp only[hp,hi,decide_true,if_true,and_self,y5,a2,decide_eq_true_eq,fb];by_cases c1:(x.toNat:Int)<32
  ·exact⟨_,by rw[if_pos c1,DW],by grind⟩
  ·rw[if_neg c1];by_cases c2:(x.toNat:Int)>126
   ·exact⟨_,by rw[if_pos c2,DW],by grind⟩
   ·rw[if_neg c2,DV a1 hs,Br];grind
def ajE s(hs:cm s):LW s=some (p6 s):=by
 obtain⟨o,ho,e⟩:=ajD s hs _ 0 rfl;unfold LW p6 uz;rw[show(0:Int)=((0:Nat):Int)from rfl,ho];simp only[P1]at e;rw[←e];cases o with
 |inl o=>simp
 |inr o=>simp;omega
def Ua:au Un:=aQ cB fun s=>([],bm<|p6 s,bp<|p6 s)
def ajF:aj 74 Ua:=aU cN (M:=av) rfl trivial Tryz.func74 fun s=>fun w _=>ajB<|ajE s<|am w 0
def BC:Mc Un:=az [(73,lj),(74,Ua)] [] [] [] []
def ajG(v:Val) K:
 aB BC aN (zh Tryz.f38) (bG Tryz.f38.ntmps 0 [.d<|.agg<|enc Ty.val v]) (aK BC Tryz.f38.results.toList [.d] K)=
(bv (v.kind==(0:Int))
 (bv (v.n==(0:Int))
  (K (bm<|v.s.toList==(ByteArray.mk #[]).toList)<|bp<|v.s.toList==(ByteArray.mk #[]).toList)
  (K (bm (false)) (bp (false))))
 (bv (v.kind==(1:Int))
  (bv (v.n==(0:Int))
   (K (bm<|v.s.toList==(ByteArray.mk #[]).toList)<|bp<|v.s.toList==(ByteArray.mk #[]).toList)
   (bv (v.n==(1:Int))
    (K (bm<|v.s.toList==(ByteArray.mk #[]).toList)<|bp<|v.s.toList==(ByteArray.mk #[]).toList)
    (K (bm (false)) (bp (false)))))
  (bv (v.kind==(2:Int))
   (bv (bf v.n)
    (K (bm<|v.s.toList==(ByteArray.mk #[]).toList)<|bp<|v.s.toList==(ByteArray.mk #[]).toList)
    (K (bm (false)) (bp (false))))
   (bv (v.kind==(3:Int))
    (bv (v.n==(0:Int))
     (K (bm<|p6 v.s)<|bp<|p6 v.s)
     (K (bm (false)) (bp (false))))
    (K (bm (false)) (bp (false))))))):=by kernel_rfl
def LX(v:Val):Option Bool:=
 if(v.kind==(0:Int))=true then
  if(v.n==(0:Int))=true then
   some (v.s.toList==(ByteArray.mk #[]).toList)
  else
   some false
 else
  if(v.kind==(1:Int))=true then
   if(v.n==(0:Int))=true then
    some (v.s.toList==(ByteArray.mk #[]).toList)
   else
    if(v.n==(1:Int))=true then
     some (v.s.toList==(ByteArray.mk #[]).toList)
    else
     some false
  else
   if(v.kind==(2:Int))=true then
    if(bf v.n)=true then
     some (v.s.toList==(ByteArray.mk #[]).toList)
    else
     some false
   else
    if(v.kind==(3:Int))=true then
     if(v.n==(0:Int))=true then
      some (p6 v.s)
     else
      some false
    else
     some false
def ajH{v r}(h:LX v=some r):Runs (aB BC aN (zh Tryz.f38) (bG Tryz.f38.ntmps 0 [.d<|.agg<|enc Ty.val v])<|aK BC Tryz.f38.results.toList [.d] fun rs os=>rs=bm r∧os=bp r):=by
 constructor;rw[ajG v fun rs os=>rs=bm r∧os=bp r];rcases bJ h with⟨c1,h2⟩|⟨c1,h2⟩
 ·rcases bJ h2 with⟨c3,h4⟩|⟨c3,h4⟩
  ·cases h4;exact(aZ c1<|aZ c3 ⟨rfl,rfl⟩)
  ·cases h4;exact(aZ c1<|aP (zq c3) ⟨rfl,rfl⟩)
 ·rcases bJ h2 with⟨c5,h6⟩|⟨c5,h6⟩
  ·rcases bJ h6 with⟨c7,h8⟩|⟨c7,h8⟩
   ·cases h8;exact(aP (zq c1)<|aZ c5<|aZ c7 ⟨rfl,rfl⟩)
   ·rcases bJ h8 with⟨c9,h10⟩|⟨c9,h10⟩
    ·cases h10;exact(aP (zq c1)<|aZ c5<|aP (zq c7)<|aZ c9 ⟨rfl,rfl⟩)
    ·cases h10;exact(aP (zq c1)<|aZ c5<|aP (zq c7)<|aP (zq c9) ⟨rfl,rfl⟩)
  ·rcases bJ h6 with⟨c11,h12⟩|⟨c11,h12⟩
   ·rcases bJ h12 with⟨c13,h14⟩|⟨c13,h14⟩
    ·cases h14;exact(aP (zq c1)<|aP (zq c5)<|aZ c11<|aZ c13 ⟨rfl,rfl⟩)
    ·cases h14;exact(aP (zq c1)<|aP (zq c5)<|aZ c11<|aP (zq c13) ⟨rfl,rfl⟩)
   ·rcases bJ h12 with⟨c15,h16⟩|⟨c15,h16⟩
    ·rcases bJ h16 with⟨c17,h18⟩|⟨c17,h18⟩
     ·cases h18;exact(aP (zq c1)<|aP (zq c5)<|aP (zq c11)<|aZ c15<|aZ c17 ⟨rfl,rfl⟩)
     ·cases h18;exact(aP (zq c1)<|aP (zq c5)<|aP (zq c11)<|aZ c15<|aP (zq c17) ⟨rfl,rfl⟩)
    ·cases h16;exact(aP (zq c1)<|aP (zq c5)<|aP (zq c11)<|aP (zq c15) ⟨rfl,rfl⟩)
@[simp] theorem LY v:jA v=fV v:=by rfl
def ajI(v:Val)(_hv:WS .val v):LX v=some (jA v):=by
 unfold LX jA fV;simp only[beq_iff_eq,TQ,fH,ajC];grind
def LZ:aj 38 zU:=aU zo (M:=BC) rfl ⟨vM,ajF,trivial⟩ Tryz.func38 fun v=>fun w _=>ajH<|ajI v<|am w 0
def sQ:Mc Un:=az [(83,GI),(135,T6)] [] [] [] []
def ajJ(a:Val)(b:Val) K:
 aB sQ aN (zh Tryz.f82) (bG Tryz.f82.ntmps 0 [.d<|.agg<|enc Ty.val a,.d<|.agg<|enc Ty.val b]) (aK sQ Tryz.f82.results.toList [.d] K)=
(bv (a.kind !=b.kind)
 (K (bh<|ef a.kind b.kind)<|bi<|ef a.kind b.kind)
 (bv (a.n !=b.n)
  (K (bh<|ef a.n b.n)<|bi<|ef a.n b.n)
  (K (bh (oe a.s b.s)) (bi (oe a.s b.s))))):=by kernel_rfl
def L0(a:Val)(b:Val):Option Int:=
 if(a.kind !=b.kind)=true then
  some (ef a.kind b.kind)
 else
  if(a.n !=b.n)=true then
   some (ef a.n b.n)
  else
   some (oe a.s b.s)
def ajK{a b r}(h:L0 a b=some r):Runs (aB sQ aN (zh Tryz.f82) (bG Tryz.f82.ntmps 0 [.d<|.agg<|enc Ty.val a,.d<|.agg<|enc Ty.val b])<|aK sQ Tryz.f82.results.toList [.d] fun rs os=>rs=bh r∧os=bi r):=by
 constructor;rw[ajJ a b fun rs os=>rs=bh r∧os=bi r];rcases bJ h with⟨c1,h2⟩|⟨c1,h2⟩
 ·cases h2;exact(aZ c1 ⟨rfl,rfl⟩)
 ·rcases bJ h2 with⟨c3,h4⟩|⟨c3,h4⟩
  ·cases h4;exact(aP (zq c1)<|aZ c3 ⟨rfl,rfl⟩)
  ·cases h4;exact(aP (zq c1)<|aP (zq c3) ⟨rfl,rfl⟩)
def cO(a b:Val):Int:=ordV a b
@[simp] theorem vO a b:cO a b=ordV a b:=by rfl
def ajL(a b:Val)(_ha:WS .val a)(_hb:WS .val b):L0 a b=some (cO a b):=by
 unfold L0 cO ordV;simp;grind
def BD:au Un:=aD (dS .val) (dS .val) fun a b=>([],bh<|cO a b,bi<|cO a b)
def GP:aj 82 BD:=aJ zo zo (M:=sQ) rfl ⟨GJ,T7,trivial⟩ Tryz.func82 fun a b=>fun w _=>ajK<|ajL a b (am w 0)<|am w 1
def gi:Mc Un:=az [(82,BD),(83,GI)] [] [] [] []
def gY:Nat→NS:=aO [(2,{ts:=bl 42 51,bs:=bl 42 0,nm:=[],gb:=[],gs:=[]})] false
def mC(a:List Val)(b:List Val)(v0:Int):S Un:=(st 42 42 168 0 [(0,AV.one<|A.c<|C.sl Ty.val a false),(1,AV.one<|A.c<|C.sl Ty.val b false),(4,AV.one<|A.c<|C.s<|Value.int IntKind.i64 (0:Int)),(5,AV.one<|A.c<|C.s<|Value.int IntKind.i64 v0)] [] [])
def GQ(a:List Val)(b:List Val)(v0:Int)(v1:Int):S Un:=(st 42 42 168 0 [(0,AV.one<|A.c<|C.sl Ty.val a false),(1,AV.one<|A.c<|C.sl Ty.val b false),(4,AV.one<|A.c<|C.s<|Value.int IntKind.i64 v1),(5,AV.one<|A.c<|C.s<|Value.int IntKind.i64 v0)] [] [])
def ajM(a:List Val)(b:List Val) K:
 aB gi gY (zh Tryz.f43) (bG Tryz.f43.ntmps 0 [.d<|.v<|.dat (U:=Un) Ty.val a,.d<|.v<|.dat (U:=Un) Ty.val b]) (aK gi Tryz.f43.results.toList [.d] K)=
(zw (gY 2) (aB gi gY<|sub (zh Tryz.f43) [1,0,1,2,2]) (bk gi gY (zh Tryz.f43) [1,0,1,2]<|aK gi Tryz.f43.results.toList [.d] K)<|mC a b (0:Int)):=by kernel_rfl
def GR a b v0 k Q:
 br (gY 2) (aB gi gY<|sub (zh Tryz.f43) [1,0,1,2,2]) Q (k+1) (mC a b v0)=
(bv (decide (v0<(↑a.length:Int)))
 (bv (decide (v0<(↑b.length:Int)))
  (((0:Int)≤v0∧v0<(↑a.length:Int))∧
  (((0:Int)≤v0∧v0<(↑b.length:Int))∧
  (bv (cO (a.getD v0.toNat z7) (b.getD v0.toNat z7) !=(0:Int))
   (((0:Int)≤v0∧v0<(↑a.length:Int))∧
   (((0:Int)≤v0∧v0<(↑b.length:Int))∧
   (Q .ret (GQ a b v0 (cO (a.getD v0.toNat z7) (b.getD v0.toNat z7))))))
   (br (gY 2) (aB gi gY (sub (zh Tryz.f43) [1,0,1,2,2])) Q k (mC a b (IntKind.i64.wrap (v0+(1:Int))))))))
  (Q (.exit 0) (mC a b v0)))
 (Q (.exit 0) (mC a b v0))):=by kernel_rfl
def ajN a b v0 v1 K:
 bk gi gY (zh Tryz.f43) [1,0,1,2] (aK gi Tryz.f43.results.toList [.d] K) .ret (GQ a b v0 v1)=
(K (bh v1)<|bi v1):=by kernel_rfl
def ajO a b v0 K:
 bk gi gY (zh Tryz.f43) [1,0,1,2] (aK gi Tryz.f43.results.toList [.d] K) (.exit 0) (mC a b v0)=
(K (bh<|ef (↑a.length:Int) (↑b.length:Int))<|bi<|ef (↑a.length:Int) (↑b.length:Int)):=by kernel_rfl
def vP(a:List Val)(b:List Val)(v:Int):Option ((Int) ⊕((Int×Int) ⊕(Int))):=
 if(decide<|v<(↑a.length:Int))=true then
  if(decide<|v<(↑b.length:Int))=true then
   if(0:Int)≤v∧v<(↑a.length:Int)then
    if(0:Int)≤v∧v<(↑b.length:Int)then
     if(cO (a.getD v.toNat z7) (b.getD v.toNat z7) !=(0:Int))=true then
      if(0:Int)≤v∧v<(↑a.length:Int)then
       if(0:Int)≤v∧v<(↑b.length:Int)then
        some (.inr<|.inl (v,(cO (a.getD v.toNat z7)<|b.getD v.toNat z7)))
       else none
      else none
     else
      some (.inl<|IntKind.i64.wrap<|v+(1:Int))
    else none
   else none
  else
   some (.inr<|.inr v)
 else
  some (.inr<|.inr v)
def BE(a:List Val)(b:List Val)(v:Int):Option ((Int×Int) ⊕(Int)):=gU (vP a b) v
def Qn a b v:BE a b v=mw (BE a b) (vP a b v):=zM _ _
def GS(a:List Val)(b:List Val)(r:(Int×Int) ⊕(Int))(Q:Exit→S Un→Prop):Prop:=match r with| .inl x=>Q .ret (GQ a b x.1 x.2)| .inr x=>Q (.exit 0)<|mC a b x
def ajP{a b x Q}(h:Q .ret (GQ a b x.1 x.2)):GS a b (.inl x) Q:=h
def ajQ{a b x Q}(h:Q (.exit 0) (mC a b x)):GS a b (.inr x) Q:=h
def zzt{a b v r}(h:BE a b v=some r) Q(hQ:GS a b r Q):zw (gY 2) (aB gi gY<|sub (zh Tryz.f43) [1,0,1,2,2]) Q (mC a b v):=by
 refine@zN _ _ (vP a b) (fun v=>zw (gY 2) (aB gi gY<|sub (zh Tryz.f43) [1,0,1,2,2]) Q<|mC a b v) (fun r=>GS a b r Q) ?_ v r h hQ;intro v o h hI;rcases bJ h with⟨c1,h2⟩|⟨c1,h2⟩
 ·rcases bJ h2 with⟨c3,h4⟩|⟨c3,h4⟩
  ·obtain⟨c5,h6⟩:=jx h4;obtain⟨c7,h8⟩:=jx h6;rcases bJ h8 with⟨c9,h10⟩|⟨c9,h10⟩
   ·obtain⟨c11,h12⟩:=jx h10;obtain⟨c13,h14⟩:=jx h12;cases h14;exact gS 1<|dR (GR a b v 0 Q)<|aZ c1<|aZ c3<|And.intro c5<|And.intro c7<|aZ c9<|And.intro c11<|And.intro c13 hI
   ·cases h10;obtain⟨k15,hk16⟩:=DU hI;exact gS (k15+1)<|dR (GR a b v k15 Q)<|aZ c1<|aZ c3<|And.intro c5<|And.intro c7<|aP (zq c9) hk16
  ·cases h4;exact gS 1<|dR (GR a b v 0 Q)<|aZ c1<|aP (zq c3) hI
 ·cases h2;exact gS 1<|dR (GR a b v 0 Q)<|aP (zq c1) hI
def Qo(a:List Val)(b:List Val):Option Int:=
 (BE a b (0:Int))>>=fun o17=>match o17 with
  | .inl o18=>
   some o18.2
  | .inr o19=>
   some (ef (↑a.length:Int) (↑b.length:Int))
def ajR{a b r}(h:Qo a b=some r):Runs (aB gi gY (zh Tryz.f43) (bG Tryz.f43.ntmps 0 [.d<|.v<|.dat (U:=Un) Ty.val a,.d<|.v<|.dat (U:=Un) Ty.val b])<|aK gi Tryz.f43.results.toList [.d] fun rs os=>rs=bh r∧os=bi r):=by
 constructor;rw[ajM a b fun rs os=>rs=bh r∧os=bi r];obtain⟨o20,ho21,h22⟩:=bind_some h;rcases o20 with o23|o24
 ·cases h22;exact(zzt ho21 _<|ajP<|dR (ajN a b o23.1 o23.2 _) ⟨rfl,rfl⟩)
 ·cases h22;exact(zzt ho21 _<|ajQ<|dR (ajO a b o24 _) ⟨rfl,rfl⟩)
def dA(a b:List Val):Int:=cC a b
@[simp] theorem Qp a b:dA a b=cC a b:=by rfl
def ajS(a b:List Val)(ha:WL .val a)(hb:WL .val b):∀(ra rb:List Val)(i:Nat),a.drop i=ra→b.drop i=rb→i≤a.length→i≤b.length→
 ∃o,BE a b i=some o∧(match o with| .inl o=>o.2| .inr _=>cK a.length b.length)=cC ra rb:=by
 intro ra
 induction ra with
 |nil=>
  intro rb i h1 h2 h3 h4;have e1:=sN h1;have e2:=sN h2;simp at e1;have hn:¬((i:Int)<a.length):=by omega
  refine⟨.inr i,by rw[Qn,vP];simp[hn],?_⟩;simp;cases rb with
  |nil=>simp at e2;unfold cK cC;omega
  |cons y rb=>simp at e2;unfold cK cC;omega
 |cons x ra ih=>
  intro rb i h1 h2 h3 h4;obtain⟨a1,a2,a3,_⟩:=d9 h1;have hp:(i:Int)<a.length:=by omega
  cases rb with
  |nil=>
   have e2:=sN h2;simp at e2;have hn:¬((i:Int)<b.length):=by omega
   refine⟨.inr i,by rw[Qn,vP];simp[*],?_⟩;simp;unfold cK cC;omega
  |cons y rb=>
   obtain⟨b1,b2,b3,_⟩:=d9 h2;have hq:(i:Int)<b.length:=by omega
   have hi:(0:Int)≤i:=by omega
   rw[Qn,vP];simp only[hp,hq,hi,decide_true,if_true,true_and,and_self,y5,a2,b2,bne_iff_ne,ne_eq,ite_not,vO];by_cases hxy:ordV x y=0
   ·rw[if_pos hxy,DV a1 ha.len];simpa only[cC,hxy,if_true,Br]using ih rb (i+1) a3 b3 (by omega) (by omega)
   simp_all[if_neg,DW,cC,if_false]
def ajT(a b:List Val)(ha:WL .val a)(hb:WL .val b):Qo a b=some (dA a b):=by
 obtain⟨o,ho,e⟩:=ajS a b ha hb _ _ 0 rfl rfl (by omega) (by omega);unfold Qo dA;rw[show(0:Int)=((0:Nat):Int)from rfl,ho];simp at e;rw[←e];cases o<;>simp
def BF:au Un:=aD (dL .val) (dL .val) fun a b=>([],bh<|dA a b,bi<|dA a b)
def GT:aj 43 BF:=aJ zi zi (M:=gi) rfl ⟨GP,GJ,trivial⟩ Tryz.func43 fun a b=>fun w _=>ajR<|ajT a b (am w 0)<|am w 1
def kT(r:Val):List (A Un):=[.agg<|jk Ty.val r]
def kU(_r:Val):List (Ob Un):=[]
def ajU n K:
 aB av aN (zh Tryz.f174) (bG Tryz.f174.ntmps 0 [.d<|.v<|.s<|.int .i64 n]) (aK av Tryz.f174.results.toList [.d] K)=
(K (kT<|{kind:=(2:Int),n:=n,s:=⟨#[]⟩})<|kU<|{kind:=(2:Int),n:=n,s:=⟨#[]⟩}):=by kernel_rfl
def Ub(n:Int):Option Val:=
 some ({kind:=(2:Int),n:=n,s:=⟨#[]⟩})
def ajV{n r}(h:Ub n=some r):Runs (aB av aN (zh Tryz.f174) (bG Tryz.f174.ntmps 0 [.d<|.v<|.s<|.int .i64 n])<|aK av Tryz.f174.results.toList [.d] fun rs os=>rs=kT r∧os=kU r):=by
 rw[ajU n fun rs os=>rs=kT r∧os=kU r];cases h;exact⟨rfl,rfl⟩
def ajW n:Ub n=some (zk n):=by rfl
def BG:au Un:=aQ (dI .i64) fun n=>([],kT<|zk n,kU<|zk n)
def D9:aj 174 BG:=aU zn (M:=av) rfl trivial Tryz.func174 fun n=>fun _ _=>ajV<|ajW n
end
end B
namespace B
open Go Go.RowKit
set_option maxRecDepth 100000
noncomputable section
attribute [local irreducible] aB bk zw br aK b9 aR bu bA
def ay(r:Int):RF Un:=([.c<|.s<|.int .i64 r],[])
def Uc(op:Int):Option (RF Un):=aw av aN Tryz.f59 0 [.d] [.d<|.v<|.s<|.int .i64 op]
def sR(op:Int):Option (RF Un):=af (op==5) (af (op==5) (some<|ay<|(2:Int))<|some<|ay<|(-1:Int))<|af (op==6) (af (op==6) (some<|ay<|(2:Int))<|some<|ay<|(-1:Int))<|af (op==9) (af (op==9) (some<|ay<|(2:Int))<|some<|ay<|(-1:Int))<|af (op==10) (af (op==10) (some<|ay<|(2:Int))<|some<|ay<|(-1:Int))<|af (op==11) (some<|ay<|(2:Int))<|some<|ay<|(-1:Int)
def L1(op:Int):Option (RF Un):=af (op==3) (af (op==3) (some<|ay<|(1:Int))<|sR op)<|af (op==4) (af (op==4) (some<|ay<|(1:Int))<|sR op)<|af (op==7) (af (op==7) (some<|ay<|(1:Int))<|sR op)<|af (op==8) (af (op==8) (some<|ay<|(1:Int))<|sR op)<|af (op==12) (af (op==12) (some<|ay<|(1:Int))<|sR op)<|af (op==13) (some<|ay<|(1:Int))<|sR op
def ajX(op):Uc op=af (op==1) (af (op==1) (some<|ay<|(0:Int))<|L1 op) (af (op==2) (some<|ay<|(0:Int))<|L1 op):=ah
def p7(op:Int):Int:=bD op
def eh(r:Rel):Int:=bQ r
theorem Ud op:p7 op=bD op:=by rfl
theorem og r:eh r=bQ r:=by rfl
theorem L2{β} a b(x y:Option β):af a (af a x y) (af b x y)=af (a||b) x y:=by cases a<;>cases b<;>rfl
def ajY op(_h:WI op):Uc op=some (ay<|p7 op):=by
 have e:∀x:Option (RF Un),(af (op==11) (af (op==11) (some<|ay<|(2:Int)) x) x)=af (op==11) (some<|ay<|(2:Int)) x:=fun x=>by cases op==11<;>rfl
 rw[ajX];unfold p7 L1 sR bD;simp only[e,L2];simp only[z8,iF,beq_iff_eq];grind
def L3:au Un:=aQ (dI .i64) fun op=>([],ay<|p7 op)
def Ue:aj 59 L3:=aU zn (M:=av) rfl trivial Tryz.func59 fun op=>GiF.r fun w _=>ajY op<|am w 0
def L4(m:Nat):au Un:=aQ (dS .rel) fun r=>bB r.ht m ([],ay<|eh r)
def Uf(m:Nat):Mc Un:=az [(59,L3),(19,L4 m)] [] [] [] []
def Ug(r:Rel):=eh<|Rel.mk (Rel.op<|r.kids.getD 0 za) (Rel.table<|r.kids.getD 0 za) (Rel.cols<|r.kids.getD 0 za) (Rel.kids<|r.kids.getD 0 za) (Rel.terms<|r.kids.getD 0 za) (Rel.aggs<|r.kids.getD 0 za) (Rel.keys<|r.kids.getD 0 za) (Rel.limit<|r.kids.getD 0 za) (Rel.skip<|r.kids.getD 0 za) (Rel.all<|r.kids.getD 0 za)<|Rel.rows<|r.kids.getD 0 za
def Uh(m:Nat)(r:Rel):Option (RF Un):=aw (Uf m) aN Tryz.f19 0 [.d] [.d<|.agg<|enc Ty.rel r]
def L5(m:Nat)(r:Rel):Option (RF Un):=ae ((0:Int)≤(0:Int)∧(0:Int)<(↑r.kids.length:Int))<|ae ((Rel.ids<|r.kids.getD 0 za).ht<m)<|ae ((0:Int)≤(1:Int)∧(1:Int)<(↑r.kids.length:Int))<|ae ((Rel.ids<|r.kids.getD 1 za).ht<m)<|some<|ay<|IntKind.i64.wrap<|eh (Rel.ids<|r.kids.getD 0 za)+eh (Rel.ids<|r.kids.getD 1 za)
def L6(m:Nat)(r:Rel):Option (RF Un):=af (r.op==7) (some<|ay<|IntKind.i64.wrap<|(↑r.terms.length:Int)+(↑r.aggs.length:Int))<|ae ((0:Int)≤(0:Int)∧(0:Int)<(↑r.kids.length:Int))<|ae ((Rel.ids<|r.kids.getD 0 za).ht<m)<|some<|ay<|Ug r
def L8(m:Nat)(r:Rel):Option (RF Un):=af (r.op==4) (some<|ay<|(↑r.terms.length:Int))<|af (r.op==5) (af (r.op==5) (L5 m r)<|L6 m r)<|af (r.op==6) (L5 m r)<|L6 m r
def ajZ(m r):Uh m r=af (decide<|p7 r.op<0) (some<|ay<|(0:Int)) (af (decide<|(↑r.kids.length:Int)<p7 r.op) (some<|ay<|(0:Int))<|af (r.op==1) (af (r.op==1) (some<|ay<|(↑r.cols.length:Int))<|L8 m r)<|af (r.op==2) (some<|ay<|(↑r.cols.length:Int))<|L8 m r):=ah
def aj0 m(r:Rel)(_hr:WS .rel r)(hm:r.ht<m+1):Uh m r=some (ay<|eh r):=by
 have k0:0<r.kids.length→(r.kids.getD 0 za).ht<m:=fun h=>by have:=Rel.ht_kid<|cG (d:=za) (l:=r.kids) h;omega
 have k1:1<r.kids.length→(r.kids.getD 1 za).ht<m:=fun h=>by have:=Rel.ht_kid<|cG (d:=za) (l:=r.kids) h;omega
 rw[ajZ];unfold L8;rw[L2,L2,og r,vL r];simp only[z8,beq_iff_eq,decide_eq_true_eq,Ud,iF];by_cases c1:bD r.op<0
 ·grind
 by_cases c2:(r.kids.length:Int)<bD r.op
 ·grind
 by_cases h1:r.op=1∨r.op=2
 ·grind
 have hn:=T3 c1 h1;by_cases h4:r.op=4
 ·grind
 have hl0:0<r.kids.length:=by omega
 have g0:=sP r.kids 0 hl0;by_cases h56:r.op=5∨r.op=6
 ·have ht:=Bx h56;have hl1:1<r.kids.length:=by omega
  have g1:=sP r.kids 1 hl1;unfold L5;grind[Rel.ids_eq,og,z6]
 ·unfold L6;rw[z8];by_cases h7:r.op=7
  ·grind
  simp_all[if_neg,Ug,ajh,Rel.ids_eq,og,z6]
abbrev Ui(m:Nat):Prop:=aj 19<|L4 m
def aj1(m:Nat)(hG:Ui m):aj 19 (L4<|m+1):=aU zo (M:=(Uf m)) rfl ⟨Ue,hG,trivial⟩ Tryz.func19 fun r=>GiF.r fun w o=>aj0 m r (am w 0)<|aA o 0
def Uj:∀m,Ui m
 |0=>rO
 |m+1=>aj1 m<|Uj m
def sS:au Un:=aQ (dS .rel) fun r=>([],ay<|eh r)
def BH:aj 19 sS:=D3 fun m=>(Uj m)
theorem zV{β} a b(x y:Option β):af a x (af b x y)=af (a||b) x y:=by cases a<;>rfl
def dU{α β:Type}{L:S Un→Option (EX Un)}{st:Int→S Un}{C}(R:Bool→Option β){l:List α}{d e} q(hl:l.length≤9223372036854775807)(step:∀(i:Nat)(x:α),(i:Int)<(l.length:Int)→l.getD i d=x→x∈l→L (st i)=if q x=true then L (st<|IntKind.i64.wrap<|(i:Int)+1)else some (.ret,st i))(stop:L (st (l.length:Int))=some (e,st (l.length:Int)))(r1:∀i:Int,C .ret (st i)=R false)(r2:∀i:Int,C e (st i)=R true):(L<|st 0).bind (zd C)=R (l.all q):=by
 have key:∀(r:List α)(i:Nat),l.drop i=r→i≤l.length→(L<|st i).bind (zd C)=R (r.all q):=by
  intro r
  induction r with
  |nil=>
   intro i hr hi;have:l.length≤i:=y1o.1 hr;have e:i=l.length:=by omega
   rw[e,stop];exact r2 _
  |cons x r ih=>
   intro i hr hi;have hlt:i<l.length:=by
    grind
   have hx:l.getD i d=x:=by
    have:=mg (xs:=l) (i:=i) (j:=0);grind
   have hm:x∈l:=by grind
   have hr2:l.drop (i+1)=r:=by grind[List.tail_drop]
   rw[step i x (by omega) hx hm,fb];cases hq:q x
   ·exact r1 _
   ·rw[if_pos rfl,zm<|by omega,dQ];grind
 grind
def cd(env:List Int)(n:Nat):Prop:=env.length+n≤8000000
def cg(r:Int×Int×Bool):RF Un:=([.c<|.s<|.int .i64 r.1,.c<|.s<|.int .i64 r.2.1,.c<|.s<|.bool r.2.2],[])
def aV:Nat→NS:=aO [] true
def Uk(name:ByteArray):Option (RF Un):=aw av aV Tryz.f104 0 [.d,.d,.d] [.d<|.v<|cs name]
theorem aj2(name):Uk name=af (name.toList==(ByteArray.mk #[108,101,110,103,116,104]).toList) (some<|cg ((1:Int),(1:Int),true)) (af (name.toList==(ByteArray.mk #[108,111,119,101,114]).toList) (some<|cg ((1:Int),(1:Int),true))<|af (name.toList==(ByteArray.mk #[117,112,112,101,114]).toList) (some<|cg ((1:Int),(1:Int),true))<|af (name.toList==(ByteArray.mk #[97,98,115]).toList) (some<|cg ((1:Int),(1:Int),true))<|af (name.toList==(ByteArray.mk #[110,117,108,108,105,102]).toList) (some<|cg ((2:Int),(2:Int),true))<|af (name.toList==(ByteArray.mk #[99,111,97,108,101,115,99,101]).toList) (some<|cg ((1:Int),(1099511627776:Int),true))<|some<|cg ((0:Int),(0:Int),false)):=ah
def sU(name:ByteArray):Int×Int×Bool:=
 if(name.toList==(ByteArray.mk #[(108:UInt8),(101:UInt8),(110:UInt8),(103:UInt8),(116:UInt8),(104:UInt8)]).toList)=true then
  ((1:Int),(1:Int),true)
 else
  if(name.toList==(ByteArray.mk #[(108:UInt8),(111:UInt8),(119:UInt8),(101:UInt8),(114:UInt8)]).toList)=true then
   ((1:Int),(1:Int),true)
  else
   if(name.toList==(ByteArray.mk #[(117:UInt8),(112:UInt8),(112:UInt8),(101:UInt8),(114:UInt8)]).toList)=true then
    ((1:Int),(1:Int),true)
   else
    if(name.toList==(ByteArray.mk #[(97:UInt8),(98:UInt8),(115:UInt8)]).toList)=true then
     ((1:Int),(1:Int),true)
    else
     if(name.toList==(ByteArray.mk #[(110:UInt8),(117:UInt8),(108:UInt8),(108:UInt8),(105:UInt8),(102:UInt8)]).toList)=true then
      ((2:Int),(2:Int),true)
     else
      if(name.toList==(ByteArray.mk #[(99:UInt8),(111:UInt8),(97:UInt8),(108:UInt8),(101:UInt8),(115:UInt8),(99:UInt8),(101:UInt8)]).toList)=true then
       ((1:Int),(1099511627776:Int),true)
      else
       ((0:Int),(0:Int),false)
def aj3 name:Uk name=some (cg<|sU name):=by grind[aj2,sU,z8]
def Ul:au Un:=aQ cB fun name=>([],cg<|sU name)
def aj4:aj 104 Ul:=aU cN (M:=av) rfl trivial Tryz.func104 fun name=>GiF.r fun _ _=>aj3 name
def Um:Mc Un:=az [(104,Ul)] [] [] [] []
def Uo(t:Term):Option (RF Un):=aw Um aV Tryz.f56 0 [.d,.d,.d] [.d<|.agg<|enc Ty.term t]
def aj5(t):Uo t=af (t.op==1) (some<|cg ((0:Int),(0:Int),true)) (af (t.op==2) (some<|cg ((0:Int),(0:Int),true))<|af (t.op==26) (some<|cg ((0:Int),(0:Int),true))<|af (t.op==27) (some<|cg ((0:Int),(0:Int),true))<|af (t.op==3) (some<|cg ((1:Int),(1:Int),true))<|af (t.op==4) (some<|cg ((1:Int),(1:Int),true))<|af (t.op==19) (some<|cg ((1:Int),(1:Int),true))<|af (t.op==28) (some<|cg ((1:Int),(1:Int),true))<|af (t.op==5) (some<|cg ((2:Int),(2:Int),true))<|af (t.op==6) (some<|cg ((2:Int),(2:Int),true))<|af (t.op==7) (some<|cg ((2:Int),(2:Int),true))<|af (t.op==8) (some<|cg ((2:Int),(2:Int),true))<|af (t.op==9) (some<|cg ((2:Int),(2:Int),true))<|af (t.op==10) (some<|cg ((2:Int),(2:Int),true))<|af (t.op==11) (some<|cg ((2:Int),(2:Int),true))<|af (t.op==12) (some<|cg ((2:Int),(2:Int),true))<|af (t.op==13) (some<|cg ((2:Int),(2:Int),true))<|af (t.op==14) (some<|cg ((2:Int),(2:Int),true))<|af (t.op==15) (some<|cg ((2:Int),(2:Int),true))<|af (t.op==16) (some<|cg ((2:Int),(2:Int),true))<|af (t.op==17) (some<|cg ((2:Int),(2:Int),true))<|af (t.op==18) (some<|cg ((2:Int),(2:Int),true))<|af (t.op==20) (some<|cg ((2:Int),(2:Int),true))<|af (t.op==22) (some<|cg ((3:Int),(3:Int),true))<|af (t.op==21) (some<|cg ((2:Int),(1099511627776:Int),true))<|af (t.op==23) (some<|cg ((2:Int),(1099511627776:Int),true))<|af (t.op==24) (some<|cg ((sU t.name).fst,(sU t.name).snd.fst,(sU t.name).snd.snd))<|some<|cg ((0:Int),(0:Int),false)):=ah
def mD(t:Term):Int×Int×Bool:=
 if t.op=1∨t.op=2∨t.op=26∨t.op=27 then(0,0,true)
 else if t.op=3∨t.op=4∨t.op=19∨t.op=28 then(1,1,true)
 else if t.op=5∨t.op=6∨t.op=7∨t.op=8∨t.op=9∨t.op=10∨t.op=11∨t.op=12∨t.op=13∨t.op=14∨t.op=15∨t.op=16∨t.op=17∨t.op=18∨t.op=20 then(2,2,true)
 else if t.op=22 then(3,3,true)
 else if t.op=21∨t.op=23 then(2,1099511627776,true)
 else if t.op=24 then sU t.name
 else(0,0,false)
def aj6(t:Term)(_ht:WS .term t):Uo t=some (cg<|mD t):=by
 rw[aj5];unfold mD;simp only[zV];simp only[z8,iF,beq_iff_eq];grind
def Up:au Un:=aQ (dS .term) fun t=>([],cg<|mD t)
def aj7:aj 56 Up:=aU zo (M:=Um) rfl ⟨aj4,trivial⟩ Tryz.func56 fun t=>GiF.r fun w _=>aj6 t<|am w 0
def Uq(t:Term):Option (RF Un):=aw av aV Tryz.f57 0 [.d] [.d<|.agg<|enc Ty.term t]
def aj8(t):Uq t=af (t.op==26) (some<|ay<|(1:Int)) (af (t.op==27) (some<|ay<|(1:Int))<|af (t.op==28) (some<|ay<|(1:Int))<|some<|ay<|(0:Int)):=ah
def sV(t:Term):Int:=if t.op=26∨t.op=27∨t.op=28 then 1 else 0
def aj9(t:Term)(_ht:WS .term t):Uq t=some (ay<|sV t):=by
 rw[aj8];unfold sV;simp only[z8,iF,beq_iff_eq];grind
def Ur:au Un:=aQ (dS .term) fun t=>([],ay<|sV t)
def aka:aj 57 Ur:=aU zo (M:=av) rfl trivial Tryz.func57 fun t=>GiF.r fun w _=>aj9 t<|am w 0
def uA:Mc Un:=az [(38,zU)] [] [] [] []
def ak(r:Bool):RF Un:=([.c<|.s<|.bool r],[])
def Us(t:Term)(env:List Int):Option (RF Un):=aw uA aV Tryz.f58 0 [.d] [.d<|.agg<|enc Ty.term t,.d<|.v<|.dat (U:=Un) Ty.int env]
def akb(t env):Us t env=af (decide<|t.type<0) (some<|ak false) (af (decide<|t.type>3) (some<|ak false)<|af (t.op==1) (some<|ak<|jA t.v)<|af (t.op==2) (af (decide<|t.depth≥0) (af (decide<|t.depth<(↑env.length:Int)) (af (decide<|t.at_≥0) (ae (0≤t.depth∧t.depth<(↑env.length:Int))<|some<|ak<|decide<|t.at_<env.getD t.depth.toNat (0:Int))<|some<|ak false)<|some<|ak false)<|some<|ak false)<|some<|ak true):=ah
def uB(t:Term)(env:List Int):Bool:=decide (0≤t.type∧t.type≤3)&&(if t.op=1 then fV t.v else if t.op=2 then decide (0≤t.depth∧t.depth<(env.length:Int)∧0≤t.at_∧t.at_<env.getD t.depth.toNat 0)else true)
def akc(t:Term)(env:List Int)(_ht:WS .term t)(_he:WL .int env):Us t env=some (ak<|uB t env):=by
 rw[akb];unfold uB;simp only[z8,beq_iff_eq,decide_eq_true_eq,LY];by_cases h0:t.type<0
 ·grind
 by_cases h3:t.type>3
 ·grind
 by_cases h1:t.op=1
 ·grind
 by_cases h2:t.op=2
 ·by_cases d1:t.depth≥0
  ·by_cases d2:t.depth<(env.length:Int)
   ·by_cases d3:t.at_≥0
    all_goals simp_all[if_pos,z6,decide_eq_true,decide_eq_false,if_neg]
   grind
  grind
 grind
def Ut:au Un:=aD (dS .term) (dL .int) fun t env=>([],ak<|uB t env)
def akd:aj 58 Ut:=aJ zo zi (M:=uA) rfl ⟨LZ,trivial⟩ Tryz.func58 fun t env=>GiF.r fun w _=>akc t env (am w 0)<|am w 1
def Uu:Mc Un:=az [(19,sS)] [] [] [] []
def gZ(r:List Int):RF Un:=([.c<|.sl (U:=Un) Ty.int r false],[])
def Uv(r:Rel)(env:List Int):Option (RF Un):=aw Uu aV Tryz.f112 0 [.d] [.d<|.agg<|enc Ty.rel r,.d<|.v<|.dat (U:=Un) Ty.int env]
def Ea(r:Rel)(env:List Int):Option (RF Un):=ae (([eh<|Rel.ids<|r.kids.getD 0 za].length+env.length)*(8:Nat)≤ze)<|some<|gZ<|eh (Rel.ids<|r.kids.getD 0 za)::env
def L9(r:Rel)(env:List Int):Option (RF Un):=af (decide<|(↑r.kids.length:Int)>(1:Int)) (ae ((0:Int)≤(1:Int)∧(1:Int)<(↑r.kids.length:Int))<|ae (([IntKind.i64.wrap<|eh (Rel.ids<|r.kids.getD 0 za)+eh (Rel.ids<|r.kids.getD 1 za)].length+env.length)*(8:Nat)≤ze)<|some<|gZ<|IntKind.i64.wrap (eh (Rel.ids<|r.kids.getD 0 za)+eh (Rel.ids<|r.kids.getD 1 za))::env)<|Ea r env
def Eb(env:List Int):Option (RF Un):=ae (([(0:Int)].length+env.length)*(8:Nat)≤ze)<|some<|gZ<|(0:Int)::env
def Ma(r:Rel)(env:List Int):Option (RF Un):=af (decide<|(↑r.kids.length:Int)>(1:Int)) (ae ((0:Int)≤(1:Int)∧(1:Int)<(↑r.kids.length:Int))<|ae (([IntKind.i64.wrap<|(0:Int)+eh (Rel.ids<|r.kids.getD 1 za)].length+env.length)*(8:Nat)≤ze)<|some<|gZ<|IntKind.i64.wrap ((0:Int)+eh (Rel.ids<|r.kids.getD 1 za))::env)<|Eb env
def ake(r env):Uv r env=af (decide<|(↑r.kids.length:Int)>(0:Int)) (ae ((0:Int)≤(0:Int)∧(0:Int)<(↑r.kids.length:Int))<|af (r.op==5) (L9 r env)<|af (r.op==6) (L9 r env)<|Ea r env) (af (r.op==5) (Ma r env)<|af (r.op==6) (Ma r env)<|Eb env):=ah
def Mb(r:Rel):Int:=if r.kids.length>0 then bQ (r.kids.getD 0 za)else 0
def fg(r:Rel):Int:=if(r.op=5∨r.op=6)∧r.kids.length>1 then IntKind.i64.wrap (Mb r+bQ (r.kids.getD 1 za))else Mb r
def iS(r:Rel)(env:List Int):List Int:=fg r::env
def akf(r:Rel)(env:List Int)(_hr:WS .rel r)(_he:WL .int env)(h:cd env 1):Uv r env=some (gZ<|iS r env):=by
 unfold cd at h;rw[ake];unfold Ea L9 Eb Ma Eb Ea;simp only[zV,Rel.ids_eq,og];simp only[z8,iF,beq_iff_eq,decide_eq_true_eq];unfold iS fg Mb;by_cases h0:r.kids.length>0
 ·rw[if_pos<|by omega,if_pos h0,z6<|by omega];by_cases h5:r.op=5∨r.op=6
  ·rw[if_pos h5];by_cases h1:r.kids.length>1
   ·rw[if_pos<|by omega,if_pos ⟨h5,h1⟩,z6<|by omega,z6<|by grind[ze,List.length_singleton]]
   ·rw[if_neg<|by omega,if_neg fun e=>h1 e.2,z6<|by grind[ze,List.length_singleton]]
  ·rw[if_neg h5,if_neg fun e=>h5 e.1,z6<|by grind[ze,List.length_singleton]]
 ·rw[if_neg<|by omega,if_neg h0,if_neg<|show¬((r.op=5∨r.op=6)∧r.kids.length>1)from fun e=>by omega];split
  ·rw[if_neg<|by omega,z6<|by grind[ze,List.length_singleton]]
  grind[z6,ze,List.length_singleton]
def Uw:au Un:=aD (dS .rel) (dL .int) fun r env=>([cd env 1],gZ<|iS r env)
def akg:aj 112 Uw:=aJ zo zi (M:=Uu) rfl ⟨BH,trivial⟩ Tryz.func112 fun r env=>GiF.r fun w o=>akf r env (am w 0) (am w 1)<|aA o 0
def Md:Nat→NS:=aO [(2,{ts:=bl 16 13,bs:=bl 16 0,nm:=[],cs:=true})] true
def p8(r:List Val)(v0:Int):S Un:=(st 16 16 64 0 [(0,al .val r),(2,ab false),(3,ai v0)] [] [])
def GU:S Un→Option (EX Un):=aC uA Md Tryz.f35 [1,0,1,2,2] 2
def Qq:Exit→S Un→Option (RF Un):=aE uA Md Tryz.f35 [1,0,1,2] [.d]
def Ux(r:List Val):Option (RF Un):=aw uA Md Tryz.f35 0 [.d] [.d<|.v<|.dat (U:=Un) Ty.val r]
def akh(r):Ux r=(GU<|p8 r (0:Int)).bind (zd Qq):=ah
def Uy(r v0):GU (p8 r v0)=af (decide<|v0<(↑r.length:Int)) (ae (0≤v0∧v0<(↑r.length:Int))<|af (!jA (r.getD v0.toNat z7)) (some (.ret,(p8 r v0)))<|GU<|p8 r<|IntKind.i64.wrap<|v0+1) (some (.exit 0,(p8 r v0))):=aF
def aki(r v0):Qq .ret (p8 r v0)=some (ak false):=ah
def akj(r v0):Qq (.exit 0) (p8 r v0)=some (ak true):=ah
def sW(r:List Val):Bool:=r.all fV
def akk(r:List Val)(hr:WL .val r):Ux r=some (ak<|sW r):=by
 rw[akh]
 exact dU (L:=GU) (st:=fun i=>p8 r i) (fun b=>some<|ak b) (d:=z7) fV hr.len
  (fun i x hi hx _=>by
   rw[Uy];simp only[z8,hi,decide_true,if_true,and_true,y5,hx,LY]
   grind[z6,fV])
  (by rw[Uy];simp[z8]) (fun i=>aki _ _) (fun i=>akj _ _)
def Uz:au Un:=aQ (dL .val) fun r=>([],ak<|sW r)
def UA:aj 35 Uz:=aU zi (M:=uA) rfl ⟨LZ,trivial⟩ Tryz.func35 fun r=>GiF.r fun w _=>akk r<|am w 0
def py:Mc Un:=az [(35,Uz)] [] [] [] []
def uC:Nat→NS:=aO [(2,{ts:=bl 27 51,bs:=bl 27 0,nm:=[],cs:=true})] true
def oh(l:List (List Val))(n:Int)(v0:Int):S Un:=(st 27 27 108 0 [(0,al .row l),(1,ai n),(4,ab false),(5,ai v0)] [] [])
def GV:S Un→Option (EX Un):=aC py uC Tryz.f113 [1,0,1,2,2] 2
def Me:Exit→S Un→Option (RF Un):=aE py uC Tryz.f113 [1,0,1,2] [.d]
def UB(l:List (List Val))(n:Int):Option (RF Un):=aw py uC Tryz.f113 0 [.d] [.d<|.v<|.dat (U:=Un) Ty.row l,.d<|.v<|.s<|.int .i64 n]
def akl(l n):UB l n=(GV<|oh l n (0:Int)).bind (zd Me):=ah
def UC(l n v0):GV (oh l n v0)=af (decide<|v0<(↑l.length:Int)) (ae (0≤v0∧v0<(↑l.length:Int))<|af ((↑(List.length<|l.getD v0.toNat []):Int) !=n) (some (.ret,(oh l n v0)))<|ae (0≤v0∧v0<(↑l.length:Int))<|af (!sW (l.getD v0.toNat [])) (some (.ret,(oh l n v0)))<|GV<|oh l n<|IntKind.i64.wrap<|v0+1) (some (.exit 0,(oh l n v0))):=aF
def akm(l n v0):Me .ret (oh l n v0)=some (ak false):=ah
def akn(l n v0):Me (.exit 0) (oh l n v0)=some (ak true):=ah
def vQ(l:List (List Val))(n:Int):Bool:=l.all fun x=>decide ((x.length:Int)=n)&&sW x
def ako(l:List (List Val)) n(hl:WL .row l)(_hn:WI n):UB l n=some (ak<|vQ l n):=by
 rw[akl]
 exact dU (L:=GV) (st:=fun i=>oh l n i) (fun b=>some<|ak b) (d:=[]) (fun x=>decide ((x.length:Int)=n)&&sW x) hl.len
  (fun i x hi hx _=>by
   rw[UC];simp only[z8,hi,decide_true,if_true,and_true,y5,hx];rw[z6<|by omega,z6<|by omega]
   grind)
  (by rw[UC];simp[z8]) (fun i=>akm _ _ _) (fun i=>akn _ _ _)
def UD:au Un:=aD (dL .row) (dI .i64) fun l n=>([],ak<|vQ l n)
def akp:aj 113 UD:=aJ zi zn (M:=py) rfl ⟨UA,trivial⟩ Tryz.func113 fun l n=>GiF.r fun w _=>ako l n (am w 0)<|am w 1
def oi(l:List By)(n:Int)(v0:Int):S Un:=(st 27 27 108 0 [(0,al .by_ l),(1,ai n),(4,ab false),(5,ai v0)] [] [])
def GW:S Un→Option (EX Un):=aC av uC Tryz.f116 [1,0,1,2,2] 2
def Mf:Exit→S Un→Option (RF Un):=aE av uC Tryz.f116 [1,0,1,2] [.d]
def UE(l:List By)(n:Int):Option (RF Un):=aw av uC Tryz.f116 0 [.d] [.d<|.v<|.dat (U:=Un) Ty.by_ l,.d<|.v<|.s<|.int .i64 n]
def akq(l n):UE l n=(GW<|oi l n (0:Int)).bind (zd Mf):=ah
def UF(l n v0):GW (oi l n v0)=af (decide<|v0<(↑l.length:Int)) (ae (0≤v0∧v0<(↑l.length:Int))<|af (decide<|(l.getD v0.toNat cD).at_<0) (some (.ret,(oi l n v0)))<|ae (0≤v0∧v0<(↑l.length:Int))<|af (decide<|(l.getD v0.toNat cD).at_≥n) (some (.ret,(oi l n v0)))<|GW<|oi l n<|IntKind.i64.wrap<|v0+1) (some (.exit 0,(oi l n v0))):=aF
def akr(l n v0):Mf .ret (oi l n v0)=some (ak false):=ah
def aks(l n v0):Mf (.exit 0) (oi l n v0)=some (ak true):=ah
def zW(l:List By)(n:Int):Bool:=l.all fun k=>decide<|0≤k.at_∧k.at_<n
def akt(l:List By) n(hl:WL .by_ l)(_hn:WI n):UE l n=some (ak<|zW l n):=by
 rw[akq]
 exact dU (L:=GW) (st:=fun i=>oi l n i) (fun b=>some<|ak b) (d:=cD) (fun k=>decide<|0≤k.at_∧k.at_<n) hl.len
  (fun i x hi hx _=>by
   rw[UF];simp only[z8,hi,decide_true,if_true,and_true,y5,hx,decide_eq_true_eq];rw[z6<|by omega,z6<|by omega]
   grind)
  (by rw[UF];simp[z8]) (fun i=>akr _ _ _) (fun i=>aks _ _ _)
def UG:au Un:=aD (dL .by_) (dI .i64) fun l n=>([],ak<|zW l n)
def aku:aj 116 UG:=aJ zi zn (M:=av) rfl trivial Tryz.func116 fun l n=>GiF.r fun w _=>akt l n (am w 0)<|am w 1
end
end B
end Go.Proofs.YtjfpbchdcbhfgaaGreat
