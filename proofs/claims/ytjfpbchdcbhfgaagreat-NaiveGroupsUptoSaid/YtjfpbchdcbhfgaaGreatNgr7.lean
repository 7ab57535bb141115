/- Part 7 of the proof: Sref03 Sr15w Sref15v Sref15r. -/
import Derived.Test.YtjfpbchdcbhfgaaGreatNgr6
set_option linter.unusedVariables false
set_option linter.unusedSimpArgs false
namespace Go.Proofs.YtjfpbchdcbhfgaaGreat
namespace B
open Go Go.RowKit
set_option maxRecDepth 100000
noncomputable section
attribute [local irreducible] awp ctxK zx z1f retQ z1l
theorem z2bf(n:Int)(K:List (A Un)→List (Ob Un)→Prop):
  awp z1bz z23b (zk Tryz.f73) (z3c Tryz.f73.ntmps 0 [.d (.v (.s (.int .i64 n)))]) (retQ z1bz Tryz.f73.results.toList [.d] K)=
(cnd (decide (n≥(-1000000000000000:Int)))
 (K (zt1 (decide (n≤(1000000000000000:Int)))) (zt2 (decide (n≤(1000000000000000:Int)))))
 (K (zt1 (false)) (zt2 (false)))):=by kernel_rfl
theorem z27q{n:Int}{r:Bool}(h:z15r n=some r):Runs (awp z1bz z23b (zk Tryz.f73) (z3c Tryz.f73.ntmps 0 [.d (.v (.s (.int .i64 n)))]) (retQ z1bz Tryz.f73.results.toList [.d] fun rs os=>rs=zt1 r∧os=zt2 r)):=by
 constructor;rw[z2bf n (fun rs os=>rs=zt1 r∧os=zt2 r)];rcases z1n h with⟨c1,h2⟩|⟨c1,h2⟩
 ·cases h2;exact(z2d c1 ⟨rfl,rfl⟩)
 ·cases h2;exact(z14 (zt c1) ⟨rfl,rfl⟩)
theorem z2bh:FnOK 73 zbj:=fnK1 z1a (M:=z1bz) rfl trivial trivial trivial trivial trivial Tryz.func73 fun n=>fun _ _=>z27q (z2bb n)
def z39:Nat→NS:=nsF_ [(2,{ts:=[true,false,true,true,false,false,false,false,false,false,false,false,false,false,false,false,false,false,false,false,false,false,false],bs:=[false,false,false,false,false,false,false,false,false,false,false,false,false,false,false,false,false,false,false,false,false,false,false],nm:=[],gb:=[],gs:=[]})] false
def z35(s:ByteArray)(v0:Int):S Un:=(st 23 23 92 0 [(0,AV.one (A.c (C.s (Value.string s)))),(2,AV.one (A.c (C.s (Value.bool false)))),(3,AV.one (A.c (C.s (Value.int IntKind.i64 v0))))] [] [])
theorem z1ym(s:ByteArray)(K:List (A Un)→List (Ob Un)→Prop):
  awp z1bz z39 (zk Tryz.f74) (z3c Tryz.f74.ntmps 0 [.d (.v (cs s))]) (retQ z1bz Tryz.f74.results.toList [.d] K)=
(zx (z39 2) (awp z1bz z39 (sub (zk Tryz.f74) [1,0,1,2,2])) (ctxK z1bz z39 (zk Tryz.f74) [1,0,1,2] (retQ z1bz Tryz.f74.results.toList [.d] K)) (z35 s (0:Int))):=by kernel_rfl
theorem zk9(s:ByteArray)(v0:Int)(k:Nat)(Q:Exit→S Un→Prop):
  z1f (z39 2) (awp z1bz z39 (sub (zk Tryz.f74) [1,0,1,2,2])) Q (k+1) (z35 s v0)=
(cnd (decide (v0<(↑s.size:Int)))
 (((0:Int)≤v0∧v0<(↑s.size:Int))∧
 (cnd (decide ((↑(s.toList.getD v0.toNat (0:UInt8)).toNat:Int)<(32:Int)))
  (Q .ret (z35 s v0))
  (((0:Int)≤v0∧v0<(↑s.size:Int))∧
  (cnd (decide ((↑(s.toList.getD v0.toNat (0:UInt8)).toNat:Int)>(126:Int)))
   (Q .ret (z35 s v0))
   (z1f (z39 2) (awp z1bz z39 (sub (zk Tryz.f74) [1,0,1,2,2])) Q k (z35 s (IntKind.i64.wrap (v0+(1:Int)))))))))
 (Q (.exit 0) (z35 s v0))):=by kernel_rfl
theorem z1fl(s:ByteArray)(v0:Int)(K:List (A Un)→List (Ob Un)→Prop):
  ctxK z1bz z39 (zk Tryz.f74) [1,0,1,2] (retQ z1bz Tryz.f74.results.toList [.d] K) .ret (z35 s v0)=
(K (zt1 (false)) (zt2 (false))):=by kernel_rfl
theorem z1j6(s:ByteArray)(v0:Int)(K:List (A Un)→List (Ob Un)→Prop):
  ctxK z1bz z39 (zk Tryz.f74) [1,0,1,2] (retQ z1bz Tryz.f74.results.toList [.d] K) (.exit 0) (z35 s v0)=
(K (zt1 (decide ((↑s.size:Int)≤(100:Int)))) (zt2 (decide ((↑s.size:Int)≤(100:Int))))):=by kernel_rfl
def zex(s:ByteArray)(v:Int):Option ((Int) ⊕((Int) ⊕(Int))):=
  if(decide (v<(↑s.size:Int)))=true then
   if(0:Int)≤v∧v<(↑s.size:Int)then
    if(decide ((↑(s.toList.getD v.toNat (0:UInt8)).toNat:Int)<(32:Int)))=true then
     some (.inr (.inl v))
    else
     if(0:Int)≤v∧v<(↑s.size:Int)then
      if(decide ((↑(s.toList.getD v.toNat (0:UInt8)).toNat:Int)>(126:Int)))=true then
       some (.inr (.inl v))
      else
       some (.inl (IntKind.i64.wrap (v+(1:Int))))
     else none
   else none
  else
   some (.inr (.inr v))
def zey(s:ByteArray)(v:Int):Option ((Int) ⊕(Int)):=zg0 (zex s) v
theorem zv6(s:ByteArray)(v:Int):zey s v=zv5 (zey s) (zex s v):=z1ff _ _
def zka(s:ByteArray)(r:(Int) ⊕(Int))(Q:Exit→S Un→Prop):Prop:=match r with| .inl x=>Q .ret (z35 s x)| .inr x=>Q (.exit 0) (z35 s x)
theorem z1fm{s:ByteArray}{x:Int}{Q:Exit→S Un→Prop}(h:Q .ret (z35 s x)):zka s (.inl x) Q:=h
theorem z1j7{s:ByteArray}{x:Int}{Q:Exit→S Un→Prop}(h:Q (.exit 0) (z35 s x)):zka s (.inr x) Q:=h
theorem zt6{s:ByteArray}{v:Int}{r:(Int) ⊕(Int)}(h:zey s v=some r)(Q:Exit→S Un→Prop)(hQ:zka s r Q):zx (z39 2) (awp z1bz z39 (sub (zk Tryz.f74) [1,0,1,2,2])) Q (z35 s v):=by
 refine@z1fg _ _ (zex s) (fun v=>zx (z39 2) (awp z1bz z39 (sub (zk Tryz.f74) [1,0,1,2,2])) Q (z35 s v)) (fun r=>zka s r Q) ?_ v r h hQ;intro v o h hI;rcases z1n h with⟨c1,h2⟩|⟨c1,h2⟩
 ·obtain⟨c3,h4⟩:=zyo h2;rcases z1n h4 with⟨c5,h6⟩|⟨c5,h6⟩
  ·cases h6;exact zev 1 (mpr (zk9 s v 0 Q) (z2d c1 (And.intro c3 (z2d c5 hI))))
  ·obtain⟨c7,h8⟩:=zyo h6;rcases z1n h8 with⟨c9,h10⟩|⟨c9,h10⟩
   ·cases h10;exact zev 1 (mpr (zk9 s v 0 Q) (z2d c1 (And.intro c3 (z14 (zt c5) (And.intro c7 (z2d c9 hI))))))
   ·cases h10;obtain⟨k11,hk12⟩:=z1iy hI;exact zev (k11+1) (mpr (zk9 s v k11 Q) (z2d c1 (And.intro c3 (z14 (zt c5) (And.intro c7 (z14 (zt c9) hk12))))))
 ·cases h2;exact zev 1 (mpr (zk9 s v 0 Q) (z14 (zt c1) hI))
def zt7(s:ByteArray):Option (Bool):=
  (zey s (0:Int))>>=fun o13=>match o13 with
   | .inl o14=>
     some (false)
   | .inr o15=>
     some (decide ((↑s.size:Int)≤(100:Int)))
theorem z1ux{s:ByteArray}{r:Bool}(h:zt7 s=some r):Runs (awp z1bz z39 (zk Tryz.f74) (z3c Tryz.f74.ntmps 0 [.d (.v (cs s))]) (retQ z1bz Tryz.f74.results.toList [.d] fun rs os=>rs=zt1 r∧os=zt2 r)):=by
 constructor;rw[z1ym s (fun rs os=>rs=zt1 r∧os=zt2 r)];obtain⟨o16,ho17,h18⟩:=bind_some h;rcases o16 with o19|o20
 ·cases h18;exact(zt6 ho17 _ (z1fm (mpr (z1fl s o19 _) ⟨rfl,rfl⟩)))
 ·cases h18;exact(zt6 ho17 _ (z1j7 (mpr (z1j6 s o20 _) ⟨rfl,rfl⟩)))
def zd1(s:ByteArray):Bool:=zyr s
@[simp] theorem z1yn(s:ByteArray):zd1 s=zyr s:=by rfl
theorem z1p1(s:ByteArray)(hs:WStr s):∀(r:List UInt8)(i:Nat),s.toList.drop i=r→
  ∃o,zey s i=some o∧(match o with| .inl _=>false| .inr _=>true)=r.all (fun b=>decide (32≤b.toNat∧b.toNat≤126)):=by
 intro r
 induction r with
 |nil=>
  intro i h1;have e1:=z2f0 h1;rw[z58]at e1;simp at e1;have hn:¬((i:Int)<s.size):=by omega
  exact⟨.inr i,by rw[zv6,zex];simp[hn],rfl⟩
 |cons x r ih=>
  intro i h1;obtain⟨a1,a2,a3,_⟩:=z55 h1;rw[z58]at a1;have hp:(i:Int)<s.size:=by omega
  have hi:(0:Int)≤i:=by omega
  rw[zv6,zex];simp only[hp,hi,decide_true,if_true,and_self,y5,a2,decide_eq_true_eq,y1i];by_cases c1:(x.toNat:Int)<32
  ·exact⟨_,by rw[if_pos c1,z1su],by grind⟩
  ·rw[if_neg c1];by_cases c2:(x.toNat:Int)>126
   ·exact⟨_,by rw[if_pos c2,z1su],by grind⟩
   ·rw[if_neg c2,z1st a1 hs,z15n];grind
theorem z1p2(s:ByteArray)(hs:WStr s):zt7 s=some (zd1 s):=by
 obtain⟨o,ho,e⟩:=z1p1 s hs _ 0 rfl;unfold zt7 zd1 zyr;rw[show(0:Int)=((0:Nat):Int)from rfl,ho];simp only[y42]at e;rw[←e];cases o with
 |inl o=>simp
 |inr o=>simp;omega
def z1c2:FnC Un:=fnF1 dStr fun s=>([],zt1 (zd1 s),zt2 (zd1 s))
theorem z1yo:FnOK 74 z1c2:=fnK1 z4l (M:=z1bz) rfl trivial trivial trivial trivial trivial Tryz.func74 fun s=>fun w _=>z1ux (z1p2 s (wfA_ w 0))
def zh8:Mc Un:=mcF_ [(73,zbj),(74,z1c2)] [] [] [] []
theorem z1yp(v:Val)(K:List (A Un)→List (Ob Un)→Prop):
  awp zh8 z23b (zk Tryz.f38) (z3c Tryz.f38.ntmps 0 [.d (.agg (enc Ty.val v))]) (retQ zh8 Tryz.f38.results.toList [.d] K)=
(cnd (v.kind==(0:Int))
 (cnd (v.n==(0:Int))
  (K (zt1 (v.s.toList==(ByteArray.mk #[]).toList)) (zt2 (v.s.toList==(ByteArray.mk #[]).toList)))
  (K (zt1 (false)) (zt2 (false))))
 (cnd (v.kind==(1:Int))
  (cnd (v.n==(0:Int))
   (K (zt1 (v.s.toList==(ByteArray.mk #[]).toList)) (zt2 (v.s.toList==(ByteArray.mk #[]).toList)))
   (cnd (v.n==(1:Int))
    (K (zt1 (v.s.toList==(ByteArray.mk #[]).toList)) (zt2 (v.s.toList==(ByteArray.mk #[]).toList)))
    (K (zt1 (false)) (zt2 (false)))))
  (cnd (v.kind==(2:Int))
   (cnd (z1q v.n)
    (K (zt1 (v.s.toList==(ByteArray.mk #[]).toList)) (zt2 (v.s.toList==(ByteArray.mk #[]).toList)))
    (K (zt1 (false)) (zt2 (false))))
   (cnd (v.kind==(3:Int))
    (cnd (v.n==(0:Int))
     (K (zt1 (zd1 v.s)) (zt2 (zd1 v.s)))
     (K (zt1 (false)) (zt2 (false))))
    (K (zt1 (false)) (zt2 (false))))))):=by kernel_rfl
def zt8(v:Val):Option (Bool):=
  if(v.kind==(0:Int))=true then
   if(v.n==(0:Int))=true then
    some (v.s.toList==(ByteArray.mk #[]).toList)
   else
    some (false)
  else
   if(v.kind==(1:Int))=true then
    if(v.n==(0:Int))=true then
     some (v.s.toList==(ByteArray.mk #[]).toList)
    else
     if(v.n==(1:Int))=true then
      some (v.s.toList==(ByteArray.mk #[]).toList)
     else
      some (false)
   else
    if(v.kind==(2:Int))=true then
     if(z1q v.n)=true then
      some (v.s.toList==(ByteArray.mk #[]).toList)
     else
      some (false)
    else
     if(v.kind==(3:Int))=true then
      if(v.n==(0:Int))=true then
       some (zd1 v.s)
      else
       some (false)
     else
      some (false)
theorem z1uy{v:Val}{r:Bool}(h:zt8 v=some r):Runs (awp zh8 z23b (zk Tryz.f38) (z3c Tryz.f38.ntmps 0 [.d (.agg (enc Ty.val v))]) (retQ zh8 Tryz.f38.results.toList [.d] fun rs os=>rs=zt1 r∧os=zt2 r)):=by
 constructor;rw[z1yp v (fun rs os=>rs=zt1 r∧os=zt2 r)];rcases z1n h with⟨c1,h2⟩|⟨c1,h2⟩
 ·rcases z1n h2 with⟨c3,h4⟩|⟨c3,h4⟩
  ·cases h4;exact(z2d c1 (z2d c3 ⟨rfl,rfl⟩))
  ·cases h4;exact(z2d c1 (z14 (zt c3) ⟨rfl,rfl⟩))
 ·rcases z1n h2 with⟨c5,h6⟩|⟨c5,h6⟩
  ·rcases z1n h6 with⟨c7,h8⟩|⟨c7,h8⟩
   ·cases h8;exact(z14 (zt c1) (z2d c5 (z2d c7 ⟨rfl,rfl⟩)))
   ·rcases z1n h8 with⟨c9,h10⟩|⟨c9,h10⟩
    ·cases h10;exact(z14 (zt c1) (z2d c5 (z14 (zt c7) (z2d c9 ⟨rfl,rfl⟩))))
    ·cases h10;exact(z14 (zt c1) (z2d c5 (z14 (zt c7) (z14 (zt c9) ⟨rfl,rfl⟩))))
  ·rcases z1n h6 with⟨c11,h12⟩|⟨c11,h12⟩
   ·rcases z1n h12 with⟨c13,h14⟩|⟨c13,h14⟩
    ·cases h14;exact(z14 (zt c1) (z14 (zt c5) (z2d c11 (z2d c13 ⟨rfl,rfl⟩))))
    ·cases h14;exact(z14 (zt c1) (z14 (zt c5) (z2d c11 (z14 (zt c13) ⟨rfl,rfl⟩))))
   ·rcases z1n h12 with⟨c15,h16⟩|⟨c15,h16⟩
    ·rcases z1n h16 with⟨c17,h18⟩|⟨c17,h18⟩
     ·cases h18;exact(z14 (zt c1) (z14 (zt c5) (z14 (zt c11) (z2d c15 (z2d c17 ⟨rfl,rfl⟩)))))
     ·cases h18;exact(z14 (zt c1) (z14 (zt c5) (z14 (zt c11) (z2d c15 (z14 (zt c17) ⟨rfl,rfl⟩)))))
    ·cases h16;exact(z14 (zt c1) (z14 (zt c5) (z14 (zt c11) (z14 (zt c15) ⟨rfl,rfl⟩))))
@[simp] theorem z15u(v:Val):zbk v=z7o v:=by rfl
theorem z1p3(v:Val)(_hv:WS .val v):zt8 v=some (zbk v):=by
 unfold zt8 zbk z7o;simp only[beq_iff_eq,z1yd,zx2,z1yn];grind
theorem z15v:FnOK 38 z12w:=fnK1 zr (M:=zh8) rfl ⟨z2bh,z1yo,trivial⟩ trivial trivial trivial trivial Tryz.func38 fun v=>fun w _=>z1uy (z1p3 v (wfA_ w 0))
end
end B
namespace B
open Go Go.RowKit
set_option maxRecDepth 100000
noncomputable section
attribute [local irreducible] awp ctxK zx z1f retQ z1l awf ctxF z1k
def z2e(r:Int):RF Un:=([.c (.s (.int .i64 r))],[])
def z1c4(op:Int):Option (RF Un):=fnF_ z1bz z23b Tryz.f59 0 [.d] [.d (.v (.s (.int .i64 op)))]
def zbm(op:Int):Option (RF Un):=cndO (op==5) (cndO (op==5) (some (z2e ((2:Int)))) (some (z2e ((-1:Int))))) (cndO (op==6) (cndO (op==6) (some (z2e ((2:Int)))) (some (z2e ((-1:Int))))) (cndO (op==9) (cndO (op==9) (some (z2e ((2:Int)))) (some (z2e ((-1:Int))))) (cndO (op==10) (cndO (op==10) (some (z2e ((2:Int)))) (some (z2e ((-1:Int))))) (cndO (op==11) (some (z2e ((2:Int)))) (some (z2e ((-1:Int))))))))
def zx6(op:Int):Option (RF Un):=cndO (op==3) (cndO (op==3) (some (z2e ((1:Int)))) (zbm op)) (cndO (op==4) (cndO (op==4) (some (z2e ((1:Int)))) (zbm op)) (cndO (op==7) (cndO (op==7) (some (z2e ((1:Int)))) (zbm op)) (cndO (op==8) (cndO (op==8) (some (z2e ((1:Int)))) (zbm op)) (cndO (op==12) (cndO (op==12) (some (z2e ((1:Int)))) (zbm op)) (cndO (op==13) (some (z2e ((1:Int)))) (zbm op))))))
theorem z23e(op:Int):z1c4 op=cndO (op==1) (cndO (op==1) (some (z2e ((0:Int)))) (zx6 op)) (cndO (op==2) (some (z2e ((0:Int)))) (zx6 op)):=by kernel_rfl
def zf0(op:Int):Int:=z3n op
def z2p(r:Rel):Int:=z29 r
theorem z1c5(op:Int):zf0 op=z3n op:=by rfl
theorem z9z(r:Rel):z2p r=z29 r:=by rfl
theorem z1fn{β:Type}(a b:Bool)(x y:Option β):cndO a (cndO a x y) (cndO b x y)=cndO (a||b) x y:=by cases a<;>cases b<;>rfl
theorem z1uz(op:Int)(_h:WI op):z1c4 op=some (z2e (zf0 op)):=by
 have e:∀x:Option (RF Un),(cndO (op==11) (cndO (op==11) (some (z2e ((2:Int)))) x) x)=cndO (op==11) (some (z2e ((2:Int)))) x:=fun x=>by cases op==11<;>rfl
 rw[z23e];unfold zf0 zx6 zbm z3n;simp only[e,z1fn];simp only[z8,y1f,beq_iff_eq];grind
def z11h:FnC Un:=fnF1 (dI .i64) fun op=>([],z2e (zf0 op))
theorem z1c6:FnOK 59 z11h:=fnK1 z1a (M:=z1bz) rfl trivial trivial trivial trivial trivial Tryz.func59 fun op=>GiF.r fun w _=>z1uz op (wfA_ w 0)
def zt9(m:Nat):FnC Un:=fnF1 (dS .rel) fun r=>z2m (r.ht) m ([],z2e (z2p r))
def z1c7(m:Nat):Mc Un:=mcF_ [(59,z11h),(19,zt9 m)] [] [] [] []
def z15w(r:Rel):=z2p (Rel.mk (Rel.op (r.kids.getD 0 za)) (Rel.table (r.kids.getD 0 za)) (Rel.cols (r.kids.getD 0 za)) (Rel.kids (r.kids.getD 0 za)) (Rel.terms (r.kids.getD 0 za)) (Rel.aggs (r.kids.getD 0 za)) (Rel.keys (r.kids.getD 0 za)) (Rel.limit (r.kids.getD 0 za)) (Rel.skip (r.kids.getD 0 za)) (Rel.all (r.kids.getD 0 za)) (Rel.rows (r.kids.getD 0 za)))
def z15x(m:Nat)(r:Rel):Option (RF Un):=fnF_ (z1c7 m) z23b Tryz.f19 0 [.d] [.d (.agg (enc Ty.rel r))]
def zta(m:Nat)(r:Rel):Option (RF Un):=obO ((0:Int)≤(0:Int)∧(0:Int)<(↑r.kids.length:Int)) (obO ((Rel.ids (r.kids.getD 0 za)).ht<m) (obO ((0:Int)≤(1:Int)∧(1:Int)<(↑r.kids.length:Int)) (obO ((Rel.ids (r.kids.getD 1 za)).ht<m) (some (z2e (IntKind.i64.wrap (z2p (Rel.ids (r.kids.getD 0 za))+z2p (Rel.ids (r.kids.getD 1 za)))))))))
def ztb(m:Nat)(r:Rel):Option (RF Un):=cndO (r.op==7) (some (z2e (IntKind.i64.wrap ((↑r.terms.length:Int)+(↑r.aggs.length:Int))))) (obO ((0:Int)≤(0:Int)∧(0:Int)<(↑r.kids.length:Int)) (obO ((Rel.ids (r.kids.getD 0 za)).ht<m) (some (z2e (z15w r)))))
def ztc(m:Nat)(r:Rel):Option (RF Un):=cndO (r.op==4) (some (z2e ((↑r.terms.length:Int)))) (cndO (r.op==5) (cndO (r.op==5) (zta m r) (ztb m r)) (cndO (r.op==6) (zta m r) (ztb m r)))
theorem z1yq(m:Nat)(r:Rel):z15x m r=cndO (decide (zf0 r.op<0)) (some (z2e ((0:Int)))) (cndO (decide ((↑r.kids.length:Int)<zf0 r.op)) (some (z2e ((0:Int)))) (cndO (r.op==1) (cndO (r.op==1) (some (z2e ((↑r.cols.length:Int)))) (ztc m r)) (cndO (r.op==2) (some (z2e ((↑r.cols.length:Int)))) (ztc m r)))):=by kernel_rfl
theorem z1p4(m:Nat)(r:Rel)(_hr:WS .rel r)(hm:r.ht<m+1):z15x m r=some (z2e (z2p r)):=by
 have k0:0<r.kids.length→(r.kids.getD 0 za).ht<m:=fun h=>by have:=Rel.ht_kid (z8f (d:=za) (l:=r.kids) h);omega
 have k1:1<r.kids.length→(r.kids.getD 1 za).ht<m:=fun h=>by have:=Rel.ht_kid (z8f (d:=za) (l:=r.kids) h);omega
 rw[z1yq];unfold ztc;rw[z1fn,z1fn,z9z r,zjn r];simp only[z8,beq_iff_eq,decide_eq_true_eq,z1c5,y1f];by_cases c1:z3n r.op<0
 ·grind
 by_cases c2:(r.kids.length:Int)<z3n r.op
 ·grind
 by_cases h1:r.op=1∨r.op=2
 ·grind
 have hn:=z2be c1 h1;by_cases h4:r.op=4
 ·grind
 have hl0:0<r.kids.length:=by omega
 have g0:=zbl r.kids 0 hl0;by_cases h56:r.op=5∨r.op=6
 ·have ht:=z15s h56;have hl1:1<r.kids.length:=by omega
  have g1:=zbl r.kids 1 hl1;unfold zta;grind[Rel.ids_eq,z9z,z6]
 ·unfold ztb;rw[z8];by_cases h7:r.op=7
  ·grind
  simp_all[if_neg,z15w,z2hi,Rel.ids_eq,z9z,z6]
abbrev z1c8(m:Nat):Prop:=FnOK 19 (zt9 m)
theorem z1v0(m:Nat)(hG:z1c8 m):FnOK 19 (zt9 (m+1)):=fnK1 zr (M:=(z1c7 m)) rfl ⟨z1c6,hG,trivial⟩ trivial trivial trivial trivial Tryz.func19 fun r=>GiF.r fun w o=>z1p4 m r (wfA_ w 0) (obA_ o 0)
theorem zv7:∀m,z1c8 m
 |0=>fnZ1
 |m+1=>z1v0 m (zv7 m)
def zbn:FnC Un:=fnF1 (dS .rel) fun r=>([],z2e (z2p r))
theorem zf1:FnOK 19 zbn:=fnA1 fun m=>(zv7 m)
end
end B
namespace B
open Go Go.RowKit
set_option maxRecDepth 100000
noncomputable section
attribute [local irreducible] awp ctxK zx z1f retQ z1l awf ctxF z1k
theorem zyt{β:Type}(a b:Bool)(x y:Option β):cndO a x (cndO b x y)=cndO (a||b) x y:=by cases a<;>rfl
theorem z2w{α β:Type}{L:S Un→Option (EX Un)}{st:Int→S Un}{C:Exit→S Un→Option β}(R:Bool→Option β){l:List α}{d:α}{e:Exit}(q:α→Bool)(hl:l.length≤9223372036854775807)
  (step:∀(i:Nat)(x:α),(i:Int)<(l.length:Int)→l.getD i d=x→x∈l→L (st i)=if q x=true then L (st (IntKind.i64.wrap ((i:Int)+1)))else some (.ret,st i))
  (stop:L (st (l.length:Int))=some (e,st (l.length:Int)))(r1:∀i:Int,C .ret (st i)=R false)(r2:∀i:Int,C e (st i)=R true):(L (st 0)).bind (ze C)=R (l.all q):=by
 have key:∀(r:List α)(i:Nat),l.drop i=r→i≤l.length→(L (st i)).bind (ze C)=R (r.all q):=by
  intro r
  induction r with
  |nil=>
   intro i hr hi;have:l.length≤i:=y1n.1 hr;have e:i=l.length:=by omega
   rw[e,stop];exact r2 _
  |cons x r ih=>
   intro i hr hi;have hlt:i<l.length:=by
    grind
   have hx:l.getD i d=x:=by
    have:=y24 (xs:=l) (i:=i) (j:=0);grind
   have hm:x∈l:=by grind
   have hr2:l.drop (i+1)=r:=by grind[List.tail_drop]
   rw[step i x (by omega) hx hm,y1i];cases hq:q x
   ·exact r1 _
   ·rw[if_pos rfl,z1u (by omega),y1c];grind
 grind
def z2o(env:List Int)(n:Nat):Prop:=env.length+n≤8000000
def z7e(r:Int×Int×Bool):RF Un:=([.c (.s (.int .i64 r.1)),.c (.s (.int .i64 r.2.1)),.c (.s (.bool r.2.2))],[])
def z23g:Nat→NS:=nsF_ [] true
def z15y(name:ByteArray):Option (RF Un):=fnF_ z1bz z23g Tryz.f104 0 [.d,.d,.d] [.d (.v (cs name))]
theorem z1yr(name:ByteArray):z15y name=cndO (name.toList==(ByteArray.mk #[108,101,110,103,116,104]).toList) (some (z7e ((1:Int),(1:Int),true))) (cndO (name.toList==(ByteArray.mk #[108,111,119,101,114]).toList) (some (z7e ((1:Int),(1:Int),true))) (cndO (name.toList==(ByteArray.mk #[117,112,112,101,114]).toList) (some (z7e ((1:Int),(1:Int),true))) (cndO (name.toList==(ByteArray.mk #[97,98,115]).toList) (some (z7e ((1:Int),(1:Int),true))) (cndO (name.toList==(ByteArray.mk #[110,117,108,108,105,102]).toList) (some (z7e ((2:Int),(2:Int),true))) (cndO (name.toList==(ByteArray.mk #[99,111,97,108,101,115,99,101]).toList) (some (z7e ((1:Int),(1099511627776:Int),true))) (some (z7e ((0:Int),(0:Int),false)))))))):=by kernel_rfl
def zf2(name:ByteArray):Int×Int×Bool:=
  if(name.toList==(ByteArray.mk #[(108:UInt8),(101:UInt8),(110:UInt8),(103:UInt8),(116:UInt8),(104:UInt8)]).toList)=true then
   ((1:Int),(1:Int),true)
  else
   if(name.toList==(ByteArray.mk #[(108:UInt8),(111:UInt8),(119:UInt8),(101:UInt8),(114:UInt8)]).toList)=true then
    ((1:Int),(1:Int),true)
   else
    if(name.toList==(ByteArray.mk #[(117:UInt8),(112:UInt8),(112:UInt8),(101:UInt8),(114:UInt8)]).toList)=true then
     ((1:Int),(1:Int),true)
    else
     if(name.toList==(ByteArray.mk #[(97:UInt8),(98:UInt8),(115:UInt8)]).toList)=true then
      ((1:Int),(1:Int),true)
     else
      if(name.toList==(ByteArray.mk #[(110:UInt8),(117:UInt8),(108:UInt8),(108:UInt8),(105:UInt8),(102:UInt8)]).toList)=true then
       ((2:Int),(2:Int),true)
      else
       if(name.toList==(ByteArray.mk #[(99:UInt8),(111:UInt8),(97:UInt8),(108:UInt8),(101:UInt8),(115:UInt8),(99:UInt8),(101:UInt8)]).toList)=true then
        ((1:Int),(1099511627776:Int),true)
       else
        ((0:Int),(0:Int),false)
theorem z1ys(name:ByteArray):z15y name=some (z7e (zf2 name)):=by grind[z1yr,zf2,z8]
def z1ca:FnC Un:=fnF1 dStr fun name=>([],z7e (zf2 name))
theorem z1yt:FnOK 104 z1ca:=fnK1 z4l (M:=z1bz) rfl trivial trivial trivial trivial trivial Tryz.func104 fun name=>GiF.r fun _ _=>z1ys name
def z1yu:Mc Un:=mcF_ [(104,z1ca)] [] [] [] []
def z1t0(t:Term):Option (RF Un):=fnF_ z1yu z23g Tryz.f56 0 [.d,.d,.d] [.d (.agg (enc Ty.term t))]
theorem z2bi(t:Term):z1t0 t=cndO (t.op==1) (some (z7e ((0:Int),(0:Int),true))) (cndO (t.op==2) (some (z7e ((0:Int),(0:Int),true))) (cndO (t.op==26) (some (z7e ((0:Int),(0:Int),true))) (cndO (t.op==27) (some (z7e ((0:Int),(0:Int),true))) (cndO (t.op==3) (some (z7e ((1:Int),(1:Int),true))) (cndO (t.op==4) (some (z7e ((1:Int),(1:Int),true))) (cndO (t.op==19) (some (z7e ((1:Int),(1:Int),true))) (cndO (t.op==28) (some (z7e ((1:Int),(1:Int),true))) (cndO (t.op==5) (some (z7e ((2:Int),(2:Int),true))) (cndO (t.op==6) (some (z7e ((2:Int),(2:Int),true))) (cndO (t.op==7) (some (z7e ((2:Int),(2:Int),true))) (cndO (t.op==8) (some (z7e ((2:Int),(2:Int),true))) (cndO (t.op==9) (some (z7e ((2:Int),(2:Int),true))) (cndO (t.op==10) (some (z7e ((2:Int),(2:Int),true))) (cndO (t.op==11) (some (z7e ((2:Int),(2:Int),true))) (cndO (t.op==12) (some (z7e ((2:Int),(2:Int),true))) (cndO (t.op==13) (some (z7e ((2:Int),(2:Int),true))) (cndO (t.op==14) (some (z7e ((2:Int),(2:Int),true))) (cndO (t.op==15) (some (z7e ((2:Int),(2:Int),true))) (cndO (t.op==16) (some (z7e ((2:Int),(2:Int),true))) (cndO (t.op==17) (some (z7e ((2:Int),(2:Int),true))) (cndO (t.op==18) (some (z7e ((2:Int),(2:Int),true))) (cndO (t.op==20) (some (z7e ((2:Int),(2:Int),true))) (cndO (t.op==22) (some (z7e ((3:Int),(3:Int),true))) (cndO (t.op==21) (some (z7e ((2:Int),(1099511627776:Int),true))) (cndO (t.op==23) (some (z7e ((2:Int),(1099511627776:Int),true))) (cndO (t.op==24) (some (z7e ((zf2 t.name).fst,(zf2 t.name).snd.fst,(zf2 t.name).snd.snd))) (some (z7e ((0:Int),(0:Int),false))))))))))))))))))))))))))))):=by kernel_rfl
def zh9(t:Term):Int×Int×Bool:=
 if t.op=1∨t.op=2∨t.op=26∨t.op=27 then(0,0,true)
 else if t.op=3∨t.op=4∨t.op=19∨t.op=28 then(1,1,true)
 else if t.op=5∨t.op=6∨t.op=7∨t.op=8∨t.op=9∨t.op=10∨t.op=11∨t.op=12∨t.op=13∨t.op=14∨t.op=15∨t.op=16∨t.op=17∨t.op=18∨t.op=20 then(2,2,true)
 else if t.op=22 then(3,3,true)
 else if t.op=21∨t.op=23 then(2,1099511627776,true)
 else if t.op=24 then zf2 t.name
 else(0,0,false)
theorem z23h(t:Term)(_ht:WS .term t):z1t0 t=some (z7e (zh9 t)):=by
 rw[z2bi];unfold zh9;simp only[zyt];simp only[z8,y1f,beq_iff_eq];grind
def z1yv:FnC Un:=fnF1 (dS .term) fun t=>([],z7e (zh9 t))
theorem z2bj:FnOK 56 z1yv:=fnK1 zr (M:=z1yu) rfl ⟨z1yt,trivial⟩ trivial trivial trivial trivial Tryz.func56 fun t=>GiF.r fun w _=>z23h t (wfA_ w 0)
def z1cb(t:Term):Option (RF Un):=fnF_ z1bz z23g Tryz.f57 0 [.d] [.d (.agg (enc Ty.term t))]
theorem z23i(t:Term):z1cb t=cndO (t.op==26) (some (z2e ((1:Int)))) (cndO (t.op==27) (some (z2e ((1:Int)))) (cndO (t.op==28) (some (z2e ((1:Int)))) (some (z2e ((0:Int)))))):=by kernel_rfl
def zj6(t:Term):Int:=if t.op=26∨t.op=27∨t.op=28 then 1 else 0
theorem z1v1(t:Term)(_ht:WS .term t):z1cb t=some (z2e (zj6 t)):=by
 rw[z23i];unfold zj6;simp only[z8,y1f,beq_iff_eq];grind
def z1ja:FnC Un:=fnF1 (dS .term) fun t=>([],z2e (zj6 t))
theorem z23j:FnOK 57 z1ja:=fnK1 zr (M:=z1bz) rfl trivial trivial trivial trivial trivial Tryz.func57 fun t=>GiF.r fun w _=>z1v1 t (wfA_ w 0)
def z1t1:Mc Un:=mcF_ [(38,z12w)] [] [] [] []
def z8z(r:Bool):RF Un:=([.c (.s (.bool r))],[])
def z1jb(t:Term)(env:List Int):Option (RF Un):=fnF_ z1t1 z23g Tryz.f58 0 [.d] [.d (.agg (enc Ty.term t)),.d (.v (.dat (U:=Un) Ty.int env))]
theorem z27t(t:Term)(env:List Int):z1jb t env=cndO (decide (t.type<0)) (some (z8z (false))) (cndO (decide (t.type>3)) (some (z8z (false))) (cndO (t.op==1) (some (z8z (zbk t.v))) (cndO (t.op==2) (cndO (decide (t.depth≥0)) (cndO (decide (t.depth<(↑env.length:Int))) (cndO (decide (t.at_≥0)) (obO (0≤t.depth∧t.depth<(↑env.length:Int)) (some (z8z (decide (t.at_<env.getD t.depth.toNat (0:Int)))))) (some (z8z (false)))) (some (z8z (false)))) (some (z8z (false)))) (some (z8z (true)))))):=by kernel_rfl
def zsm(t:Term)(env:List Int):Bool:=decide (0≤t.type∧t.type≤3)&&(if t.op=1 then z7o t.v else if t.op=2 then decide (0≤t.depth∧t.depth<(env.length:Int)∧0≤t.at_∧t.at_<env.getD t.depth.toNat 0)else true)
theorem z1yw(t:Term)(env:List Int)(_ht:WS .term t)(_he:WL .int env):z1jb t env=some (z8z (zsm t env)):=by
 rw[z27t];unfold zsm;simp only[z8,beq_iff_eq,decide_eq_true_eq,z15u];by_cases h0:t.type<0
 ·grind
 by_cases h3:t.type>3
 ·grind
 by_cases h1:t.op=1
 ·grind
 by_cases h2:t.op=2
 ·by_cases d1:t.depth≥0
  ·by_cases d2:t.depth<(env.length:Int)
   ·by_cases d3:t.at_≥0
    all_goals simp_all[if_pos,z6,decide_eq_true,decide_eq_false,if_neg]
   grind
  grind
 grind
def z1t2:FnC Un:=fnF2 (dS .term) (dL .int) fun t env=>([],z8z (zsm t env))
theorem z27u:FnOK 58 z1t2:=fnK2 zr z11 (M:=z1t1) rfl ⟨z15v,trivial⟩ trivial trivial trivial trivial Tryz.func58 fun t env=>GiF.r fun w _=>z1yw t env (wfA_ w 0) (wfA_ w 1)
def z1yx:Mc Un:=mcF_ [(19,zbn)] [] [] [] []
def zmt(r:List Int):RF Un:=([.c (.sl (U:=Un) Ty.int r false)],[])
def z1t3(r:Rel)(env:List Int):Option (RF Un):=fnF_ z1yx z23g Tryz.f112 0 [.d] [.d (.agg (enc Ty.rel r)),.d (.v (.dat (U:=Un) Ty.int env))]
def zv8(r:Rel)(env:List Int):Option (RF Un):=obO (([z2p (Rel.ids (r.kids.getD 0 za))].length+env.length)*(8:Nat)≤zi) (some (zmt (z2p (Rel.ids (r.kids.getD 0 za))::env)))
def z15z(r:Rel)(env:List Int):Option (RF Un):=cndO (decide ((↑r.kids.length:Int)>(1:Int))) (obO ((0:Int)≤(1:Int)∧(1:Int)<(↑r.kids.length:Int)) (obO (([IntKind.i64.wrap (z2p (Rel.ids (r.kids.getD 0 za))+z2p (Rel.ids (r.kids.getD 1 za)))].length+env.length)*(8:Nat)≤zi) (some (zmt (IntKind.i64.wrap (z2p (Rel.ids (r.kids.getD 0 za))+z2p (Rel.ids (r.kids.getD 1 za)))::env))))) (zv8 r env)
def zv9(env:List Int):Option (RF Un):=obO (([(0:Int)].length+env.length)*(8:Nat)≤zi) (some (zmt ((0:Int)::env)))
def z160(r:Rel)(env:List Int):Option (RF Un):=cndO (decide ((↑r.kids.length:Int)>(1:Int))) (obO ((0:Int)≤(1:Int)∧(1:Int)<(↑r.kids.length:Int)) (obO (([IntKind.i64.wrap ((0:Int)+z2p (Rel.ids (r.kids.getD 1 za)))].length+env.length)*(8:Nat)≤zi) (some (zmt (IntKind.i64.wrap ((0:Int)+z2p (Rel.ids (r.kids.getD 1 za)))::env))))) (zv9 env)
theorem z2bl(r:Rel)(env:List Int):z1t3 r env=cndO (decide ((↑r.kids.length:Int)>(0:Int))) (obO ((0:Int)≤(0:Int)∧(0:Int)<(↑r.kids.length:Int)) (cndO (r.op==5) (z15z r env) (cndO (r.op==6) (z15z r env) (zv8 r env)))) (cndO (r.op==5) (z160 r env) (cndO (r.op==6) (z160 r env) (zv9 env))):=by kernel_rfl
def z27v(r:Rel):Int:=if r.kids.length>0 then z29 (r.kids.getD 0 za)else 0
def z8s(r:Rel):Int:=if(r.op=5∨r.op=6)∧r.kids.length>1 then IntKind.i64.wrap (z27v r+z29 (r.kids.getD 1 za))else z27v r
def zb2(r:Rel)(env:List Int):List Int:=z8s r::env
theorem z23k(r:Rel)(env:List Int)(_hr:WS .rel r)(_he:WL .int env)(h:z2o env 1):z1t3 r env=some (zmt (zb2 r env)):=by
 unfold z2o at h;rw[z2bl];unfold zv8 z15z zv9 z160 zv9 zv8;simp only[zyt,Rel.ids_eq,z9z];simp only[z8,y1f,beq_iff_eq,decide_eq_true_eq];unfold zb2 z8s z27v;by_cases h0:r.kids.length>0
 ·rw[if_pos (by omega),if_pos h0,z6 (by omega)];by_cases h5:r.op=5∨r.op=6
  ·rw[if_pos h5];by_cases h1:r.kids.length>1
   ·rw[if_pos (by omega),if_pos ⟨h5,h1⟩,z6 (by omega),z6 (by grind[zi,List.length_singleton])]
   ·rw[if_neg (by omega),if_neg (fun e=>h1 e.2),z6 (by grind[zi,List.length_singleton])]
  ·rw[if_neg h5,if_neg (fun e=>h5 e.1),z6 (by grind[zi,List.length_singleton])]
 ·rw[if_neg (by omega),if_neg h0,if_neg (show¬((r.op=5∨r.op=6)∧r.kids.length>1)from fun e=>by omega)];split
  ·rw[if_neg (by omega),z6 (by grind[zi,List.length_singleton])]
  grind[z6,zi,List.length_singleton]
def z1yy:FnC Un:=fnF2 (dS .rel) (dL .int) fun r env=>([z2o env 1],zmt (zb2 r env))
theorem z2bm:FnOK 112 z1yy:=fnK2 zr z11 (M:=z1yx) rfl ⟨zf1,trivial⟩ trivial trivial trivial trivial Tryz.func112 fun r env=>GiF.r fun w o=>z23k r env (wfA_ w 0) (wfA_ w 1) (obA_ o 0)
def ztd:Nat→NS:=nsF_ [(2,{ts:=bl 16 13,bs:=bl 16 0,nm:=[],cs:=true})] true
def z6v(r:List Val)(v0:Int):S Un:=(st 16 16 64 0 [(0,al .val r),(2,ab false),(3,ai v0)] [] [])
def zi0:S Un→Option (EX Un):=lpF_ z1t1 ztd Tryz.f35 [1,0,1,2,2] 2
def zqg:Exit→S Un→Option (RF Un):=cxF_ z1t1 ztd Tryz.f35 [1,0,1,2] [.d]
def z12x(r:List Val):Option (RF Un):=fnF_ z1t1 ztd Tryz.f35 0 [.d] [.d (.v (.dat (U:=Un) Ty.val r))]
theorem z1v2(r:List Val):z12x r=(zi0 (z6v r (0:Int))).bind (ze zqg):=by kernel_rfl
theorem z12y(r:List Val)(v0:Int):zi0 (z6v r v0)=cndO (decide (v0<(↑r.length:Int))) (obO (0≤v0∧v0<(↑r.length:Int)) (cndO (!zbk (r.getD v0.toNat z7)) (some (.ret,(z6v r v0))) (zi0 (z6v r (IntKind.i64.wrap (v0+1)))))) (some (.exit 0,(z6v r v0))):=lpQ_ (by kernel_rfl)
theorem z1as(r:List Val)(v0:Int):zqg .ret (z6v r v0)=some (z8z (false)):=by kernel_rfl
theorem z1fo(r:List Val)(v0:Int):zqg (.exit 0) (z6v r v0)=some (z8z (true)):=by kernel_rfl
def zd8(r:List Val):Bool:=r.all z7o
theorem z1jc(r:List Val)(hr:WL .val r):z12x r=some (z8z (zd8 r)):=by
 rw[z1v2]
 exact z2w (L:=zi0) (st:=fun i=>z6v r i) (fun b=>some (z8z b)) (d:=z7) z7o hr.len
  (fun i x hi hx _=>by
   rw[z12y];simp only[z8,hi,decide_true,if_true,and_true,y5,hx,z15u]
   grind[z6,z7o])
  (by rw[z12y];simp[z8]) (fun i=>z1as _ _) (fun i=>z1fo _ _)
def zte:FnC Un:=fnF1 (dL .val) fun r=>([],z8z (zd8 r))
theorem z12z:FnOK 35 zte:=fnK1 z11 (M:=z1t1) rfl ⟨z15v,trivial⟩ trivial trivial trivial trivial Tryz.func35 fun r=>GiF.r fun w _=>z1jc r (wfA_ w 0)
def zrk:Mc Un:=mcF_ [(35,zte)] [] [] [] []
def z11i:Nat→NS:=nsF_ [(2,{ts:=bl 27 51,bs:=bl 27 0,nm:=[],cs:=true})] true
def z7f(l:List (List Val))(n:Int)(v0:Int):S Un:=(st 27 27 108 0 [(0,al .row l),(1,ai n),(4,ab false),(5,ai v0)] [] [])
def zno:S Un→Option (EX Un):=lpF_ zrk z11i Tryz.f113 [1,0,1,2,2] 2
def zx7:Exit→S Un→Option (RF Un):=cxF_ zrk z11i Tryz.f113 [1,0,1,2] [.d]
def z1cc(l:List (List Val))(n:Int):Option (RF Un):=fnF_ zrk z11i Tryz.f113 0 [.d] [.d (.v (.dat (U:=Un) Ty.row l)),.d (.v (.s (.int .i64 n)))]
theorem z23l(l:List (List Val))(n:Int):z1cc l n=(zno (z7f l n (0:Int))).bind (ze zx7):=by kernel_rfl
theorem z1cd(l:List (List Val))(n:Int)(v0:Int):zno (z7f l n v0)=cndO (decide (v0<(↑l.length:Int))) (obO (0≤v0∧v0<(↑l.length:Int)) (cndO ((↑(List.length (l.getD v0.toNat [])):Int) !=n) (some (.ret,(z7f l n v0))) (obO (0≤v0∧v0<(↑l.length:Int)) (cndO (!zd8 (l.getD v0.toNat [])) (some (.ret,(z7f l n v0))) (zno (z7f l n (IntKind.i64.wrap (v0+1)))))))) (some (.exit 0,(z7f l n v0))):=lpQ_ (by kernel_rfl)
theorem z1jd(l:List (List Val))(n:Int)(v0:Int):zx7 .ret (z7f l n v0)=some (z8z (false)):=by kernel_rfl
theorem z1p5(l:List (List Val))(n:Int)(v0:Int):zx7 (.exit 0) (z7f l n v0)=some (z8z (true)):=by kernel_rfl
def zmu(l:List (List Val))(n:Int):Bool:=l.all fun x=>decide ((x.length:Int)=n)&&zd8 x
theorem z1v3(l:List (List Val))(n:Int)(hl:WL .row l)(_hn:WI n):z1cc l n=some (z8z (zmu l n)):=by
 rw[z23l]
 exact z2w (L:=zno) (st:=fun i=>z7f l n i) (fun b=>some (z8z b)) (d:=[]) (fun x=>decide ((x.length:Int)=n)&&zd8 x) hl.len
  (fun i x hi hx _=>by
   rw[z1cd];simp only[z8,hi,decide_true,if_true,and_true,y5,hx];rw[z6 (by omega),z6 (by omega)]
   grind)
  (by rw[z1cd];simp[z8]) (fun i=>z1jd _ _ _) (fun i=>z1p5 _ _ _)
def z1je:FnC Un:=fnF2 (dL .row) (dI .i64) fun l n=>([],z8z (zmu l n))
theorem z23m:FnOK 113 z1je:=fnK2 z11 z1a (M:=zrk) rfl ⟨z12z,trivial⟩ trivial trivial trivial trivial Tryz.func113 fun l n=>GiF.r fun w _=>z1v3 l n (wfA_ w 0) (wfA_ w 1)
def z7g(l:List By)(n:Int)(v0:Int):S Un:=(st 27 27 108 0 [(0,al .by_ l),(1,ai n),(4,ab false),(5,ai v0)] [] [])
def znp:S Un→Option (EX Un):=lpF_ z1bz z11i Tryz.f116 [1,0,1,2,2] 2
def zx8:Exit→S Un→Option (RF Un):=cxF_ z1bz z11i Tryz.f116 [1,0,1,2] [.d]
def z1ce(l:List By)(n:Int):Option (RF Un):=fnF_ z1bz z11i Tryz.f116 0 [.d] [.d (.v (.dat (U:=Un) Ty.by_ l)),.d (.v (.s (.int .i64 n)))]
theorem z23n(l:List By)(n:Int):z1ce l n=(znp (z7g l n (0:Int))).bind (ze zx8):=by kernel_rfl
theorem z1cf(l:List By)(n:Int)(v0:Int):znp (z7g l n v0)=cndO (decide (v0<(↑l.length:Int))) (obO (0≤v0∧v0<(↑l.length:Int)) (cndO (decide ((l.getD v0.toNat z9w).at_<0)) (some (.ret,(z7g l n v0))) (obO (0≤v0∧v0<(↑l.length:Int)) (cndO (decide ((l.getD v0.toNat z9w).at_≥n)) (some (.ret,(z7g l n v0))) (znp (z7g l n (IntKind.i64.wrap (v0+1)))))))) (some (.exit 0,(z7g l n v0))):=lpQ_ (by kernel_rfl)
theorem z1jf(l:List By)(n:Int)(v0:Int):zx8 .ret (z7g l n v0)=some (z8z (false)):=by kernel_rfl
theorem z1p6(l:List By)(n:Int)(v0:Int):zx8 (.exit 0) (z7g l n v0)=some (z8z (true)):=by kernel_rfl
def ztf(l:List By)(n:Int):Bool:=l.all fun k=>decide (0≤k.at_∧k.at_<n)
theorem z1v4(l:List By)(n:Int)(hl:WL .by_ l)(_hn:WI n):z1ce l n=some (z8z (ztf l n)):=by
 rw[z23n]
 exact z2w (L:=znp) (st:=fun i=>z7g l n i) (fun b=>some (z8z b)) (d:=z9w) (fun k=>decide (0≤k.at_∧k.at_<n)) hl.len
  (fun i x hi hx _=>by
   rw[z1cf];simp only[z8,hi,decide_true,if_true,and_true,y5,hx,decide_eq_true_eq];rw[z6 (by omega),z6 (by omega)]
   grind)
  (by rw[z1cf];simp[z8]) (fun i=>z1jf _ _ _) (fun i=>z1p6 _ _ _)
def z1jg:FnC Un:=fnF2 (dL .by_) (dI .i64) fun l n=>([],z8z (ztf l n))
theorem z23o:FnOK 116 z1jg:=fnK2 z11 z1a (M:=z1bz) rfl trivial trivial trivial trivial trivial Tryz.func116 fun l n=>GiF.r fun w _=>z1v4 l n (wfA_ w 0) (wfA_ w 1)
end
end B
namespace B
open Go Go.RowKit
set_option maxRecDepth 100000
noncomputable section
attribute [local irreducible] awp ctxK zx z1f retQ z1l awf ctxF z1k
def z36(r:Rel):Option (RF Un):=fnF_ z1bz z23g Tryz.f65 0 [.d] [.d (.agg (enc Ty.rel r))]
def z37(r:Rel):Bool:=
 (!(r.op==1)&& !(r.table.toList==(ByteArray.mk #[]).toList))||(!(r.op==2)&&decide (0<r.rows.length))||(!(r.op==3||r.op==4||r.op==5||r.op==6||r.op==7)&&decide (0<r.terms.length))||
 (!(r.op==7)&&decide (0<r.aggs.length))||(!(r.op==12)&&decide (0<r.keys.length))||(!(r.op==9||r.op==10||r.op==11)&&r.all)||(!(r.op==13)&&(!(r.limit==0)|| !(r.skip==0)))
theorem zsn{R:Bool→RF Un}(a p x:Bool){X:Option (RF Un)}(h:X=some (R x)):cndO a (cndO p (some (R true)) X) X=some (R ((a&&p)||x)):=by subst h;cases a<;>cases p<;>cases x<;>rfl
def spX(g p:Bool)(X:Option (RF Un)):Option (RF Un):=cndO g (cndO p (some (z8z true)) X) X
def spT(g1 g2 g3 g4 g5 g6 g7 tb rw_ tm ag ky al li sk:Bool):Option (RF Un):=spX g1 tb (spX g2 rw_ (spX g3 tm (spX g4 ag (spX g5 ky (spX g6 al (cndO g7 (cndO li (some (z8z true)) (some (z8z sk))) (some (z8z false))))))))
theorem zc5(g1 g2 g3 g4 g5 g6 g7 tb rw_ tm ag ky al li sk:Bool):spT g1 g2 g3 g4 g5 g6 g7 tb rw_ tm ag ky al li sk=some (z8z ((g1&&tb)||((g2&&rw_)||((g3&&tm)||((g4&&ag)||((g5&&ky)||((g6&&al)||(g7&&(li||sk))))))))):=by
 have z:cndO g7 (cndO li (some (z8z true)) (some (z8z sk))) (some (z8z false))=some (z8z (g7&&(li||sk))):=by cases g7<;>cases li<;>rfl
 exact zsn _ _ _ (zsn _ _ _ (zsn _ _ _ (zsn _ _ _ (zsn _ _ _ (zsn _ _ _ z)))))
theorem z2ja(table:ByteArray)(cols:List Col)(kids:List Rel)(terms:List Term)(aggs:List Agg)(keys:List By)(limit skip:Int)(all:Bool)(rows:List (List Val)):z36 (.mk 1 table cols kids terms aggs keys limit skip all rows)=spT false true true true true true true (!(table.toList==(ByteArray.mk #[]).toList)) (decide ((rows.length:Int)>0)) (decide ((terms.length:Int)>0)) (decide ((aggs.length:Int)>0)) (decide ((keys.length:Int)>0)) all (limit !=0) (skip !=0):=by kernel_rfl
theorem z2jb(table:ByteArray)(cols:List Col)(kids:List Rel)(terms:List Term)(aggs:List Agg)(keys:List By)(limit skip:Int)(all:Bool)(rows:List (List Val)):z36 (.mk 2 table cols kids terms aggs keys limit skip all rows)=spT true false true true true true true (!(table.toList==(ByteArray.mk #[]).toList)) (decide ((rows.length:Int)>0)) (decide ((terms.length:Int)>0)) (decide ((aggs.length:Int)>0)) (decide ((keys.length:Int)>0)) all (limit !=0) (skip !=0):=by kernel_rfl
theorem z2jc(table:ByteArray)(cols:List Col)(kids:List Rel)(terms:List Term)(aggs:List Agg)(keys:List By)(limit skip:Int)(all:Bool)(rows:List (List Val)):z36 (.mk 3 table cols kids terms aggs keys limit skip all rows)=spT true true false true true true true (!(table.toList==(ByteArray.mk #[]).toList)) (decide ((rows.length:Int)>0)) (decide ((terms.length:Int)>0)) (decide ((aggs.length:Int)>0)) (decide ((keys.length:Int)>0)) all (limit !=0) (skip !=0):=by kernel_rfl
theorem z2jd(table:ByteArray)(cols:List Col)(kids:List Rel)(terms:List Term)(aggs:List Agg)(keys:List By)(limit skip:Int)(all:Bool)(rows:List (List Val)):z36 (.mk 4 table cols kids terms aggs keys limit skip all rows)=spT true true false true true true true (!(table.toList==(ByteArray.mk #[]).toList)) (decide ((rows.length:Int)>0)) (decide ((terms.length:Int)>0)) (decide ((aggs.length:Int)>0)) (decide ((keys.length:Int)>0)) all (limit !=0) (skip !=0):=by kernel_rfl
theorem z2je(table:ByteArray)(cols:List Col)(kids:List Rel)(terms:List Term)(aggs:List Agg)(keys:List By)(limit skip:Int)(all:Bool)(rows:List (List Val)):z36 (.mk 5 table cols kids terms aggs keys limit skip all rows)=spT true true false true true true true (!(table.toList==(ByteArray.mk #[]).toList)) (decide ((rows.length:Int)>0)) (decide ((terms.length:Int)>0)) (decide ((aggs.length:Int)>0)) (decide ((keys.length:Int)>0)) all (limit !=0) (skip !=0):=by kernel_rfl
theorem z2jf(table:ByteArray)(cols:List Col)(kids:List Rel)(terms:List Term)(aggs:List Agg)(keys:List By)(limit skip:Int)(all:Bool)(rows:List (List Val)):z36 (.mk 6 table cols kids terms aggs keys limit skip all rows)=spT true true false true true true true (!(table.toList==(ByteArray.mk #[]).toList)) (decide ((rows.length:Int)>0)) (decide ((terms.length:Int)>0)) (decide ((aggs.length:Int)>0)) (decide ((keys.length:Int)>0)) all (limit !=0) (skip !=0):=by kernel_rfl
theorem z2jg(table:ByteArray)(cols:List Col)(kids:List Rel)(terms:List Term)(aggs:List Agg)(keys:List By)(limit skip:Int)(all:Bool)(rows:List (List Val)):z36 (.mk 7 table cols kids terms aggs keys limit skip all rows)=spT true true false false true true true (!(table.toList==(ByteArray.mk #[]).toList)) (decide ((rows.length:Int)>0)) (decide ((terms.length:Int)>0)) (decide ((aggs.length:Int)>0)) (decide ((keys.length:Int)>0)) all (limit !=0) (skip !=0):=by kernel_rfl
theorem z2jh(table:ByteArray)(cols:List Col)(kids:List Rel)(terms:List Term)(aggs:List Agg)(keys:List By)(limit skip:Int)(all:Bool)(rows:List (List Val)):z36 (.mk 8 table cols kids terms aggs keys limit skip all rows)=spT true true true true true true true (!(table.toList==(ByteArray.mk #[]).toList)) (decide ((rows.length:Int)>0)) (decide ((terms.length:Int)>0)) (decide ((aggs.length:Int)>0)) (decide ((keys.length:Int)>0)) all (limit !=0) (skip !=0):=by kernel_rfl
theorem z2ji(table:ByteArray)(cols:List Col)(kids:List Rel)(terms:List Term)(aggs:List Agg)(keys:List By)(limit skip:Int)(all:Bool)(rows:List (List Val)):z36 (.mk 9 table cols kids terms aggs keys limit skip all rows)=spT true true true true true false true (!(table.toList==(ByteArray.mk #[]).toList)) (decide ((rows.length:Int)>0)) (decide ((terms.length:Int)>0)) (decide ((aggs.length:Int)>0)) (decide ((keys.length:Int)>0)) all (limit !=0) (skip !=0):=by kernel_rfl
theorem z2hj(table:ByteArray)(cols:List Col)(kids:List Rel)(terms:List Term)(aggs:List Agg)(keys:List By)(limit skip:Int)(all:Bool)(rows:List (List Val)):z36 (.mk 10 table cols kids terms aggs keys limit skip all rows)=spT true true true true true false true (!(table.toList==(ByteArray.mk #[]).toList)) (decide ((rows.length:Int)>0)) (decide ((terms.length:Int)>0)) (decide ((aggs.length:Int)>0)) (decide ((keys.length:Int)>0)) all (limit !=0) (skip !=0):=by kernel_rfl
theorem z2hk(table:ByteArray)(cols:List Col)(kids:List Rel)(terms:List Term)(aggs:List Agg)(keys:List By)(limit skip:Int)(all:Bool)(rows:List (List Val)):z36 (.mk 11 table cols kids terms aggs keys limit skip all rows)=spT true true true true true false true (!(table.toList==(ByteArray.mk #[]).toList)) (decide ((rows.length:Int)>0)) (decide ((terms.length:Int)>0)) (decide ((aggs.length:Int)>0)) (decide ((keys.length:Int)>0)) all (limit !=0) (skip !=0):=by kernel_rfl
theorem z2hl(table:ByteArray)(cols:List Col)(kids:List Rel)(terms:List Term)(aggs:List Agg)(keys:List By)(limit skip:Int)(all:Bool)(rows:List (List Val)):z36 (.mk 12 table cols kids terms aggs keys limit skip all rows)=spT true true true true false true true (!(table.toList==(ByteArray.mk #[]).toList)) (decide ((rows.length:Int)>0)) (decide ((terms.length:Int)>0)) (decide ((aggs.length:Int)>0)) (decide ((keys.length:Int)>0)) all (limit !=0) (skip !=0):=by kernel_rfl
theorem z2hm(table:ByteArray)(cols:List Col)(kids:List Rel)(terms:List Term)(aggs:List Agg)(keys:List By)(limit skip:Int)(all:Bool)(rows:List (List Val)):z36 (.mk 13 table cols kids terms aggs keys limit skip all rows)=spT true true true true true true false (!(table.toList==(ByteArray.mk #[]).toList)) (decide ((rows.length:Int)>0)) (decide ((terms.length:Int)>0)) (decide ((aggs.length:Int)>0)) (decide ((keys.length:Int)>0)) all (limit !=0) (skip !=0):=by kernel_rfl
def zso(r:Rel):Prop:=0≤z3n r.op
theorem z1p7(r:Rel)(_hr:WS .rel r)(h:zso r):z36 r=some (z8z (z37 r)):=by
 have hop:r.op=1∨r.op=2∨r.op=3∨r.op=4∨r.op=5∨r.op=6∨r.op=7∨r.op=8∨r.op=9∨r.op=10∨r.op=11∨r.op=12∨r.op=13:=by
  grind[zso,z3n]
 cases r with
 |mk op table cols kids terms aggs keys limit skip all rows=>
  rcases hop with rfl|rfl|rfl|rfl|rfl|rfl|rfl|rfl|rfl|rfl|rfl|rfl|rfl
  ·rw[z2ja,zc5];unfold z37;simp;grind
  ·rw[z2jb,zc5];unfold z37;simp;grind
  ·rw[z2jc,zc5];unfold z37;simp;grind
  ·rw[z2jd,zc5];unfold z37;simp;grind
  ·rw[z2je,zc5];unfold z37;simp;grind
  ·rw[z2jf,zc5];unfold z37;simp;grind
  ·rw[z2jg,zc5];unfold z37;simp;grind
  ·rw[z2jh,zc5];unfold z37;simp;grind
  ·rw[z2ji,zc5];unfold z37;simp;grind
  ·rw[z2hj,zc5];unfold z37;simp;grind
  ·rw[z2hk,zc5];unfold z37;simp;grind
  ·rw[z2hl,zc5];unfold z37;simp;grind
  ·rw[z2hm,zc5];unfold z37;simp;grind
def z1ch:FnC Un:=fnF1 (dS .rel) fun r=>([zso r],z8z (z37 r))
theorem z1yz:FnOK 65 z1ch:=fnK1 zr (M:=z1bz) rfl trivial trivial trivial trivial trivial Tryz.func65 fun r=>GiF.r fun w o=>z1p7 r (wfA_ w 0) (obA_ o 0)
def ztg(t:Term)(env:List Int):Bool:=(zh9 t).2.2 &&decide (¬(t.kids.length:Int)<(zh9 t).1)&&decide (¬(t.kids.length:Int)>(zh9 t).2.1)&&decide ((t.sub.length:Int)=zj6 t)&&zsm t env
def zyu(r:Rel):Bool:=decide (¬z3n r.op<0)&&decide ((r.kids.length:Int)=z3n r.op)&& !z37 r
def z1a0(a:Agg):Bool:=((a.name.toList==(ByteArray.mk #[99,111,117,110,116]).toList)||(a.name.toList==(ByteArray.mk #[115,117,109]).toList)||(a.name.toList==(ByteArray.mk #[109,105,110]).toList)||(a.name.toList==(ByteArray.mk #[109,97,120]).toList))&&decide (a.t.length≤1)&&(decide (a.t.length≠0)||((a.name.toList==(ByteArray.mk #[99,111,117,110,116]).toList)&& !a.distinct))
mutual
def zdn:Term→List Int→Bool
 | .mk op v depth at_ name kids sub type,env=>ztg (.mk op v depth at_ name kids sub type) env&&z51 kids env&&(decide (sub.length≠1)||(zdo sub env&&(op==27||z29 (sub.getD 0 za)==1)))
def z51:List Term→List Int→Bool
 |[],_=>true
 |t::l,env=>zdn t env&&z51 l env
def z1a1:Agg→List Int→Bool
 | .mk name distinct t,env=>z1a0 (.mk name distinct t)&&z51 t env
def zyv:List Agg→List Int→Bool
 |[],_=>true
 |a::l,env=>z1a1 a env&&zyv l env
def zke:Rel→List Int→Bool
  | .mk op table cols kids terms aggs keys limit skip all rows,env=>zyu (.mk op table cols kids terms aggs keys limit skip all rows)&&zdo kids env&&decide ((cols.length:Int)=z29 (.mk op table cols kids terms aggs keys limit skip all rows))&&
    (if op=1 then !(table.toList==(ByteArray.mk #[]).toList)
     else if op=2 then zmu rows cols.length
     else if op=3∨op=6 then decide (terms.length=1)&&z51 terms (z8s (.mk op table cols kids terms aggs keys limit skip all rows)::env)
     else if op=4 then z51 terms (z8s (.mk op table cols kids terms aggs keys limit skip all rows)::env)
     else if op=5 then decide (terms.length≤1)&&z51 terms (z8s (.mk op table cols kids terms aggs keys limit skip all rows)::env)
     else if op=7 then z51 terms (z8s (.mk op table cols kids terms aggs keys limit skip all rows)::env)&&zyv aggs (z8s (.mk op table cols kids terms aggs keys limit skip all rows)::env)
     else if op=9∨op=10∨op=11 then z29 (kids.getD 0 za)==z29 (kids.getD 1 za)
     else if op=12 then ztf keys (z29 (.mk op table cols kids terms aggs keys limit skip all rows))
     else if op=13 then decide (-1≤limit∧limit≤1000000000000000∧0≤skip∧skip≤1000000000000000)
     else true)
def zdo:List Rel→List Int→Bool
 |[],_=>true
 |r::l,env=>zke r env&&zdo l env
end
def zdp(r:Rel)(env:List Int):Bool:=
 if r.op=1 then !(r.table.toList==(ByteArray.mk #[]).toList)
 else if r.op=2 then zmu r.rows r.cols.length
 else if r.op=3∨r.op=6 then decide (r.terms.length=1)&&z51 r.terms (z8s r::env)
 else if r.op=4 then z51 r.terms (z8s r::env)
 else if r.op=5 then decide (r.terms.length≤1)&&z51 r.terms (z8s r::env)
 else if r.op=7 then z51 r.terms (z8s r::env)&&zyv r.aggs (z8s r::env)
 else if r.op=9∨r.op=10∨r.op=11 then z29 (r.kids.getD 0 za)==z29 (r.kids.getD 1 za)
 else if r.op=12 then ztf r.keys (z29 r)
 else if r.op=13 then decide (-1≤r.limit∧r.limit≤1000000000000000∧0≤r.skip∧r.skip≤1000000000000000)
 else true
theorem z1t4(t:Term)(env:List Int):zdn t env=(ztg t env&&z51 t.kids env&&(decide (t.sub.length≠1)||(zdo t.sub env&&(t.op==27||z29 (t.sub.getD 0 za)==1)))):=by cases t;rfl
theorem z1z0(a:Agg)(env:List Int):z1a1 a env=(z1a0 a&&z51 a.t env):=by cases a;rfl
theorem z1z1(r:Rel)(env:List Int):zke r env=(zyu r&&zdo r.kids env&&decide ((r.cols.length:Int)=z29 r)&&zdp r env):=by cases r;rfl
theorem ze1:∀(l:List Term)(env:List Int),z51 l env=l.all fun t=>zdn t env
 |[],_=>rfl
 |t::l,env=>by simp only[z51,y1i,ze1 l env]
theorem z11k:∀(l:List Agg)(env:List Int),zyv l env=l.all fun t=>z1a1 t env
 |[],_=>rfl
 |t::l,env=>by simp only[zyv,y1i,z11k l env]
theorem zrm:∀(l:List Rel)(env:List Int),zdo l env=l.all fun t=>zke t env
 |[],_=>rfl
 |t::l,env=>by simp only[zdo,y1i,zrm l env]
def z161(r:Rel):Prop:=(r.op=9∨r.op=10∨r.op=11)→2≤r.kids.length
def za0(t:Term)(env:List Int):Bool:=zdn t env
def zc6(l:List Term)(env:List Int):Bool:=z51 l env
def z11l(l:List Agg)(env:List Int):Bool:=zyv l env
def z1fp(r:Rel)(env:List Int):Bool:=zdp r env
def z9h(r:Rel)(env:List Int):Bool:=zke r env
def znq(m:Nat):FnC Un:=fnF2 (dS .term) (dL .int) fun t env=>z2m (3*t.ht) m ([z2o env t.ht],z8z (za0 t env))
def zrn(m:Nat):FnC Un:=fnF2 (dL .term) (dL .int) fun l env=>z2m (3*htTs l+1) m ([z2o env (htTs l)],z8z (zc6 l env))
def zx9(m:Nat):FnC Un:=fnF2 (dL .agg) (dL .int) fun l env=>z2m (3*htAs l) m ([z2o env (htAs l)],z8z (z11l l env))
def zxa(m:Nat):FnC Un:=fnF2 (dS .rel) (dL .int) fun r env=>z2m (3*r.ht+1) m ([z2o env r.ht,z161 r],z8z (z1fp r env))
def zro(m:Nat):FnC Un:=fnF2 (dS .rel) (dL .int) fun r env=>z2m (3*r.ht+2) m ([z2o env r.ht],z8z (z9h r env))
def zrp(m:Nat):Mc Un:=mcF_ [(56,z1yv),(57,z1ja),(58,z1t2),(18,znq m),(33,zro m),(19,zbn)] [] [] [] []
def z11m:Nat→NS:=nsF_ [(5,{ts:=bl 83 278,bs:=bl 83 4,nm:=[],cs:=true})] true
def z7h(t:Term)(env:List Int)(v0:Int):S Un:=(st 83 83 332 0 [(1,al .int env),(2,ax 2),(4,ab false),(8,ai v0)] [(2,bg .term t)] [])
def znr(m:Nat):S Un→Option (EX Un):=lpF_ (zrp m) z11m Tryz.f18 [1,1,1,0,1,2,2] 5
def zha(m:Nat):Exit→S Un→Option (RF Un):=cxF_ (zrp m) z11m Tryz.f18 [1,1,1,0,1,2] [.d]
def z1ci(m:Nat)(t:Term)(env:List Int):Option (RF Un):=fnF_ (zrp m) z11m Tryz.f18 0 [.d] [.d (.agg (enc Ty.term t)),.d (.v (.dat (U:=Un) Ty.int env))]
theorem z23q(m:Nat)(t:Term)(env:List Int):z1ci m t env=cndO (!(zh9 (Term.ids t)).snd.snd) (some (z8z (false))) (cndO (decide ((↑t.kids.length:Int)<(zh9 (Term.ids t)).fst)) (some (z8z (false))) (cndO (decide ((↑t.kids.length:Int)>(zh9 (Term.ids t)).snd.fst)) (some (z8z (false))) (cndO ((↑t.sub.length:Int) !=zj6 (Term.ids t)) (some (z8z (false))) (cndO (!zsm (Term.ids t) env) (some (z8z (false))) ((znr m (z7h t env (0:Int))).bind (ze (zha m))))))):=by kernel_rfl
theorem z1cj(m:Nat)(t:Term)(env:List Int)(v0:Int):znr m (z7h t env v0)=cndO (decide (v0<(↑t.kids.length:Int))) (obO (0≤v0∧v0<(↑t.kids.length:Int)) (obO ((3:Nat)*(Term.ids (t.kids.getD v0.toNat zb)).ht<m) (obO (z2o env (Term.ids (t.kids.getD v0.toNat zb)).ht) (cndO (!za0 (Term.ids (t.kids.getD v0.toNat zb)) env) (some (.ret,(z7h t env v0))) (znr m (z7h t env (IntKind.i64.wrap (v0+1)))))))) (some (.exit 0,(z7h t env v0))):=lpQ_ (by kernel_rfl)
theorem z1jh(m:Nat)(t:Term)(env:List Int)(v0:Int):zha m .ret (z7h t env v0)=some (z8z (false)):=by kernel_rfl
theorem z1p8(m:Nat)(t:Term)(env:List Int)(v0:Int):zha m (.exit 0) (z7h t env v0)=cndO ((↑t.sub.length:Int)==(1:Int)) (obO ((0:Int)≤(0:Int)∧(0:Int)<(↑t.sub.length:Int)) (obO ((3:Nat)*(Rel.ids (t.sub.getD 0 za)).ht+(2:Nat)<m) (obO (z2o env (Rel.ids (t.sub.getD 0 za)).ht) (cndO (z9h (Rel.ids (t.sub.getD 0 za)) env) (cndO (t.op==27) (some (z8z (true))) (obO ((0:Int)≤(0:Int)∧(0:Int)<(↑t.sub.length:Int)) (some (z8z (z2p (Rel.ids (t.sub.getD 0 za))==1))))) (some (z8z (false))))))) (some (z8z (true))):=by kernel_rfl
theorem z23r(m:Nat)(t:Term)(env:List Int)(hm:3*t.ht<m+1)(h:env.length+t.ht≤8000000)(i:Int):zha m (.exit 0) (z7h t env i)=some (z8z (decide (t.sub.length≠1)||(zdo t.sub env&&(t.op==27||z29 (t.sub.getD 0 za)==1)))):=by
 rw[z1p8,z8];by_cases h1:t.sub.length=1
 ·obtain⟨s,hs⟩:∃s,t.sub=[s]:=by
   match hk:t.sub,h1 with
   |[s],_=>simp
  have hht:s.ht<t.ht:=Term.ht_sub (by grind);have hg:t.sub.getD 0 za=s:=by grind
  rw[if_pos (by grind),hg,decide_eq_false (fun e=>e h1),y3n];simp only[Rel.ids_eq];rw[z6 (by omega),z6 (by omega),z6 (show z2o env s.ht by grind[z2o])];have hr:zdo t.sub env=z9h s env:=by rw[hs];simp only[zdo,Bool.and_true];rfl
  rw[hr,z9z];cases z9h s env
  ·rfl
  ·rw[z8,if_pos rfl,y1c,z8];cases t.op==27
   all_goals simp_all[if_neg,z6,y3n]
 grind
theorem z1v5(m:Nat)(t:Term)(env:List Int)(_ht:WS .term t)(_he:WL .int env)(hm:3*t.ht<m+1)(h:z2o env t.ht):z1ci m t env=some (z8z (za0 t env)):=by
 have hk:WL .term t.kids:=_ht.term_kids
 have lp:=z2w (L:=znr m) (st:=fun i=>z7h t env i) (C:=zha m) (e:=.exit 0) (fun b=>some (z8z (b&&(decide (t.sub.length≠1)||(zdo t.sub env&&(t.op==27||z29 (t.sub.getD 0 za)==1)))))) (d:=zb) (fun k=>za0 k env) hk.len
  (fun i x hi hx hmem=>by
   have hht:=Term.ht_kid hmem;rw[z1cj];simp only[z8,hi,decide_true,if_true,and_true,y5,hx,Term.ids_eq]
   grind[z6,z2o,za0])
  (by rw[z1cj];simp[z8]) (fun i=>by rw[z1jh,y1v]) (fun i=>by rw[z23r m t env hm h,y1c])
 have e:za0 t env=(ztg t env&&(t.kids.all (fun k=>za0 k env)&&(decide (t.sub.length≠1)||(zdo t.sub env&&(t.op==27||z29 (t.sub.getD 0 za)==1))))):=by
  show zdn t env=_;rw[z1t4,ze1,y3o];rfl
 rw[z23q,e];simp only[Term.ids_eq];unfold ztg;generalize zh9 t=o;cases o.2.2
 ·rfl
 simp only[z8,decide_eq_true_eq,y48,y1c];grind
abbrev zjo(m:Nat):Prop:=FnOK 18 (znq m)∧FnOK 114 (zrn m)∧FnOK 115 (zx9 m)∧FnOK 66 (zxa m)∧FnOK 33 (zro m)
theorem z1z2(m:Nat)(hG:zjo m):FnOK 18 (znq (m+1)):=fnK2 zr z11 (M:=(zrp m)) rfl ⟨z2bj,z23j,z27u,hG.1,hG.2.2.2.2,zf1,trivial⟩ trivial trivial trivial trivial Tryz.func18 fun t env=>GiF.r fun w o=>z1v5 m t env (wfA_ w 0) (wfA_ w 1) (obA_ o 0) (obA_ o 1)
def zva(m:Nat):Mc Un:=mcF_ [(18,znq m)] [] [] [] []
def z162:Nat→NS:=nsF_ [(2,{ts:=bl 19 51,bs:=bl 19 0,nm:=[],cs:=true})] true
def zb3(l:List Term)(env:List Int)(v0:Int):S Un:=(st 19 19 76 0 [(0,al .term l),(1,al .int env),(4,ab false),(5,ai v0)] [] [])
def zrq(m:Nat):S Un→Option (EX Un):=lpF_ (zva m) z162 Tryz.f114 [1,0,1,2,2] 2
def z11n(m:Nat):Exit→S Un→Option (RF Un):=cxF_ (zva m) z162 Tryz.f114 [1,0,1,2] [.d]
def z1ji(m:Nat)(l:List Term)(env:List Int):Option (RF Un):=fnF_ (zva m) z162 Tryz.f114 0 [.d] [.d (.v (.dat (U:=Un) Ty.term l)),.d (.v (.dat (U:=Un) Ty.int env))]
theorem z27w(m:Nat)(l:List Term)(env:List Int):z1ji m l env=(zrq m (zb3 l env (0:Int))).bind (ze (z11n m)):=by kernel_rfl
theorem z1jj(m:Nat)(l:List Term)(env:List Int)(v0:Int):zrq m (zb3 l env v0)=cndO (decide (v0<(↑l.length:Int))) (obO (0≤v0∧v0<(↑l.length:Int)) (obO ((3:Nat)*(Term.ids (l.getD v0.toNat zb)).ht<m) (obO (z2o env (Term.ids (l.getD v0.toNat zb)).ht) (cndO (!za0 (Term.ids (l.getD v0.toNat zb)) env) (some (.ret,(zb3 l env v0))) (zrq m (zb3 l env (IntKind.i64.wrap (v0+1)))))))) (some (.exit 0,(zb3 l env v0))):=lpQ_ (by kernel_rfl)
theorem z1p9(m:Nat)(l:List Term)(env:List Int)(v0:Int):z11n m .ret (zb3 l env v0)=some (z8z (false)):=by kernel_rfl
theorem z1v6(m:Nat)(l:List Term)(env:List Int)(v0:Int):z11n m (.exit 0) (zb3 l env v0)=some (z8z (true)):=by kernel_rfl
theorem z1z3(m:Nat)(l:List Term)(env:List Int)(hl:WL .term l)(_he:WL .int env)(hm:3*htTs l+1<m+1)(h:z2o env (htTs l)):z1ji m l env=some (z8z (zc6 l env)):=by
 have e:zc6 l env=l.all fun t=>za0 t env:=ze1 l env;rw[z27w,e]
 exact z2w (L:=zrq m) (st:=fun i=>zb3 l env i) (fun b=>some (z8z b)) (d:=zb) (fun t=>za0 t env) hl.len
  (fun i x hi hx hmem=>by
   have hht:=zbi hmem;rw[z1jj];simp only[z8,hi,decide_true,if_true,and_true,y5,hx,Term.ids_eq]
   grind[z6,z2o,za0])
  (by rw[z1jj];simp[z8]) (fun i=>z1p9 _ _ _ _) (fun i=>z1v6 _ _ _ _)
theorem z23s(m:Nat)(hG:zjo m):FnOK 114 (zrn (m+1)):=fnK2 z11 z11 (M:=(zva m)) rfl ⟨hG.1,trivial⟩ trivial trivial trivial trivial Tryz.func114 fun l env=>GiF.r fun w o=>z1z3 m l env (wfA_ w 0) (wfA_ w 1) (obA_ o 0) (obA_ o 1)
def zrr(m:Nat):Mc Un:=mcF_ [(114,zrn m)] [] [] [] []
def z11o:Nat→NS:=nsF_ [(2,{ts:=bl 61 51,bs:=bl 61 0,nm:=[],cs:=true})] true
def z3o(l:List Agg)(env:List Int)(v0:Int):S Un:=(st 61 61 244 0 [(0,al .agg l),(1,al .int env),(4,ab false),(5,ai v0)] [] [])
def zhb(m:Nat):S Un→Option (EX Un):=lpF_ (zrr m) z11o Tryz.f115 [1,0,1,2,2] 2
def zxb(m:Nat):Exit→S Un→Option (RF Un):=cxF_ (zrr m) z11o Tryz.f115 [1,0,1,2] [.d]
def z1ck(m:Nat)(l:List Agg)(env:List Int):Option (RF Un):=fnF_ (zrr m) z11o Tryz.f115 0 [.d] [.d (.v (.dat (U:=Un) Ty.agg l)),.d (.v (.dat (U:=Un) Ty.int env))]
theorem z23t(m:Nat)(l:List Agg)(env:List Int):z1ck m l env=(zhb m (z3o l env (0:Int))).bind (ze (zxb m)):=by kernel_rfl
def zns(m:Nat)(l:List Agg)(env:List Int)(v0:Int):Option (EX Un):=obO ((3:Nat)*htTs (Agg.t (l.getD v0.toNat zo))+(1:Nat)<m) (obO (z2o env (htTs (Agg.t (l.getD v0.toNat zo)))) (cndO (!zc6 (Agg.t (l.getD v0.toNat zo)) env) (some (.ret,(z3o l env v0))) (zhb m (z3o l env (IntKind.i64.wrap (v0+1))))))
def zhc(m:Nat)(l:List Agg)(env:List Int)(v0:Int):Option (EX Un):=cndO (decide ((↑(Agg.t (l.getD v0.toNat zo)).length:Int)>(1:Int))) (some (.ret,(z3o l env v0))) (cndO ((↑(Agg.t (l.getD v0.toNat zo)).length:Int)==(0:Int)) (cndO (!(Agg.name (l.getD v0.toNat zo)).toList ==(ByteArray.mk #[99,111,117,110,116]).toList) (some (.ret,(z3o l env v0))) (cndO (Agg.distinct (l.getD v0.toNat zo)) (some (.ret,(z3o l env v0))) (zns m l env v0))) (zns m l env v0))
theorem z1cl(m:Nat)(l:List Agg)(env:List Int)(v0:Int):zhb m (z3o l env v0)=cndO (decide (v0<(↑l.length:Int))) (obO (0≤v0∧v0<(↑l.length:Int)) (cndO (!(Agg.name (l.getD v0.toNat zo)).toList ==(ByteArray.mk #[99,111,117,110,116]).toList) (cndO (!(Agg.name (l.getD v0.toNat zo)).toList ==(ByteArray.mk #[115,117,109]).toList) (cndO (!(Agg.name (l.getD v0.toNat zo)).toList ==(ByteArray.mk #[109,105,110]).toList) (cndO (!(Agg.name (l.getD v0.toNat zo)).toList ==(ByteArray.mk #[109,97,120]).toList) (some (.ret,(z3o l env v0))) (zhc m l env v0)) (zhc m l env v0)) (zhc m l env v0)) (zhc m l env v0))) (some (.exit 0,(z3o l env v0))):=lpQ_ (by kernel_rfl)
theorem z1jk(m:Nat)(l:List Agg)(env:List Int)(v0:Int):zxb m .ret (z3o l env v0)=some (z8z (false)):=by kernel_rfl
theorem z1pa(m:Nat)(l:List Agg)(env:List Int)(v0:Int):zxb m (.exit 0) (z3o l env v0)=some (z8z (true)):=by kernel_rfl
theorem z1v7(m:Nat)(l:List Agg)(env:List Int)(hl:WL .agg l)(_he:WL .int env)(hm:3*htAs l<m+1)(h:z2o env (htAs l)):z1ck m l env=some (z8z (z11l l env)):=by
 have e:z11l l env=l.all fun t=>z1a1 t env:=z11k l env;rw[z23t,e]
 exact z2w (L:=zhb m) (st:=fun i=>z3o l env i) (fun b=>some (z8z b)) (d:=zo) (fun t=>z1a1 t env) hl.len
  (fun i x hi hx hmem=>by
   have hht:=z11c hmem;have hax:x.ht=htTs x.t+1:=by cases x;rfl
   have key:zns m l env (i:Int)=if zc6 x.t env=true then zhb m (z3o l env (IntKind.i64.wrap ((i:Int)+1)))else some (.ret,z3o l env (i:Int)):=by
    unfold zns;grind[Int.toNat_natCast,z6,z2o,htTs,z8,zc6]
   have e2:z1a1 x env=(z1a0 x&&zc6 x.t env):=z1z0 x env;rw[z1cl,e2];unfold zhc;simp only[y5,hx,key];unfold z1a0;generalize zc6 x.t env=q;generalize(x.name.toList==(ByteArray.mk #[99,111,117,110,116]).toList)=n1;generalize(x.name.toList==(ByteArray.mk #[115,117,109]).toList)=n2;generalize(x.name.toList==(ByteArray.mk #[109,105,110]).toList)=n3;generalize(x.name.toList==(ByteArray.mk #[109,97,120]).toList)=n4;rw[z8,if_pos (decide_eq_true hi),z6 (by omega)];by_cases c1:x.t.length≤1
   ·have d1:decide ((x.t.length:Int)>1)=false:=decide_eq_false (by omega);rw[d1,decide_eq_true c1];by_cases c0:x.t.length=0
    ·have d0:((x.t.length:Int)==0)=true:=by grind
     rw[d0,decide_eq_false (fun e=>e c0)];cases n1<;>cases n2<;>cases n3<;>cases n4<;>cases x.distinct<;>cases q<;>rfl
    ·have d0:((x.t.length:Int)==0)=false:=by grind
     rw[d0,decide_eq_true c0];cases n1<;>cases n2<;>cases n3<;>cases n4<;>cases q<;>rfl
   ·have d1:decide ((x.t.length:Int)>1)=true:=decide_eq_true (by omega);rw[d1,decide_eq_false c1]
    cases n1<;>cases n2<;>cases n3<;>cases n4<;>rfl)
  (by rw[z1cl];simp[z8]) (fun i=>z1jk _ _ _ _) (fun i=>z1pa _ _ _ _)
theorem z1z4(m:Nat)(hG:zjo m):FnOK 115 (zx9 (m+1)):=fnK2 z11 z11 (M:=(zrr m)) rfl ⟨hG.2.1,trivial⟩ trivial trivial trivial trivial Tryz.func115 fun l env=>GiF.r fun w o=>z1v7 m l env (wfA_ w 0) (wfA_ w 1) (obA_ o 0) (obA_ o 1)
def z1jl(m:Nat):Mc Un:=mcF_ [(112,z1yy),(113,z1je),(114,zrn m),(115,zx9 m),(19,zbn),(116,z1jg)] [] [] [] []
def z1cm(m:Nat)(r:Rel)(env:List Int):Option (RF Un):=fnF_ (z1jl m) z23g Tryz.f66 0 [.d] [.d (.agg (enc Ty.rel r)),.d (.v (.dat (U:=Un) Ty.int env))]
def zhd(m:Nat)(r:Rel)(env:List Int):Option (RF Un):=obO ((3:Nat)*htTs r.terms+(1:Nat)<m) (obO (z2o (zb2 (Rel.ids r) env) (htTs r.terms)) (some (z8z (zc6 r.terms (zb2 (Rel.ids r) env)))))
def zxc(m:Nat)(r:Rel)(env:List Int):Option (RF Un):=cndO ((↑r.terms.length:Int)==(1:Int)) (zhd m r env) (some (z8z (false)))
def znt(r:Rel):Option (RF Un):=obO ((0:Int)≤(0:Int)∧(0:Int)<(↑r.kids.length:Int)) (obO ((0:Int)≤(1:Int)∧(1:Int)<(↑r.kids.length:Int)) (some (z8z (z2p (Rel.ids (r.kids.getD 0 za))==z2p (Rel.ids (r.kids.getD 1 za))))))
theorem z23u(m:Nat)(r:Rel)(env:List Int):z1cm m r env=obO (z2o env (1:Nat)) (cndO (r.op==1) (some (z8z (!r.table.toList==(ByteArray.mk #[]).toList))) (cndO (r.op==2) (some (z8z (zmu r.rows (↑r.cols.length:Int)))) (cndO (r.op==3) (zxc m r env) (cndO (r.op==6) (zxc m r env) (cndO (r.op==4) (zhd m r env) (cndO (r.op==5) (cndO (decide ((↑r.terms.length:Int)≤(1:Int))) (zhd m r env) (some (z8z (false)))) (cndO (r.op==7) (obO ((3:Nat)*htTs r.terms+(1:Nat)<m) (obO (z2o (zb2 (Rel.ids r) env) (htTs r.terms)) (cndO (zc6 r.terms (zb2 (Rel.ids r) env)) (obO ((3:Nat)*htAs r.aggs<m) (obO (z2o (zb2 (Rel.ids r) env) (htAs r.aggs)) (some (z8z (z11l r.aggs (zb2 (Rel.ids r) env)))))) (some (z8z (false)))))) (cndO (r.op==9) (znt r) (cndO (r.op==10) (znt r) (cndO (r.op==11) (znt r) (cndO (r.op==12) (some (z8z (ztf r.keys (z2p (Rel.ids r))))) (cndO (r.op==13) (cndO (decide (r.limit≥(-1:Int))) (cndO (decide (r.limit≤1000000000000000)) (cndO (decide (r.skip≥0)) (some (z8z (decide (r.skip≤1000000000000000)))) (some (z8z (false)))) (some (z8z (false)))) (some (z8z (false)))) (some (z8z (true))))))))))))))):=by kernel_rfl
theorem z1v8(m:Nat)(r:Rel)(env:List Int)(_hr:WS .rel r)(_he:WL .int env)(hm:3*r.ht+1<m+1)(h:z2o env r.ht)(hk:z161 r):z1cm m r env=some (z8z (z1fp r env)):=by
 have hh:htTs r.terms+1≤r.ht∧htAs r.aggs+1≤r.ht:=by cases r;grind[Rel.ht,Rel.terms_mk,Rel.aggs_mk]
 have o1:z2o env 1:=by grind[z2o]
 have o2:z2o (zb2 r env) (htTs r.terms):=by grind[z2o,zb2,List.length_cons]
 have o3:z2o (zb2 r env) (htAs r.aggs):=by grind[z2o,zb2,List.length_cons]
 have t1:zhd m r env=some (z8z (z51 r.terms (z8s r::env))):=by
  unfold zhd;simp only[Rel.ids_eq];rw[z6 (by omega),z6 o2];rfl
 rw[z23u,z6 o1];unfold zxc znt;simp only[zyt,Rel.ids_eq,z9z];simp only[z8,y1f,beq_iff_eq,decide_eq_true_eq];show _=some (z8z (zdp r env));unfold zdp;by_cases h1:r.op=1
 ·grind
 rw[if_neg h1,if_neg h1];by_cases h2:r.op=2
 ·grind
 rw[if_neg h2,if_neg h2];by_cases h3:r.op=3∨r.op=6
 ·by_cases hl:r.terms.length=1
  all_goals grind
 rw[if_neg (by omega),if_neg h3];by_cases h4:r.op=4
 ·grind
 rw[if_neg h4,if_neg h4];by_cases h5:r.op=5
 ·grind
 rw[if_neg h5,if_neg h5];by_cases h7:r.op=7
 ·rw[if_pos h7,if_pos h7,z6 (by omega),z6 o2];have e:zc6 r.terms (zb2 r env)=z51 r.terms (z8s r::env):=rfl;rw[e];cases z51 r.terms (z8s r::env)
  ·rfl
  ·rw[if_pos rfl,z6 (by omega),z6 o3];rfl
 rw[if_neg h7,if_neg h7];by_cases h9:r.op=9∨r.op=10∨r.op=11
 ·have:=hk h9;rw[if_pos (by omega),if_pos h9,z6 (by omega),z6 (by omega)]
 grind
theorem z1z5(m:Nat)(hG:zjo m):FnOK 66 (zxa (m+1)):=fnK2 zr z11 (M:=(z1jl m)) rfl ⟨z2bm,z23m,hG.2.1,hG.2.2.1,zf1,z23o,trivial⟩ trivial trivial trivial trivial Tryz.func66 fun r env=>GiF.r fun w o=>z1v8 m r env (wfA_ w 0) (wfA_ w 1) (obA_ o 0) (obA_ o 1) (obA_ o 2)
def zvb(m:Nat):Mc Un:=mcF_ [(59,z11h),(65,z1ch),(33,zro m),(19,zbn),(66,zxa m)] [] [] [] []
def z163:Nat→NS:=nsF_ [(4,{ts:=bl 49 54,bs:=bl 49 4,nm:=[],cs:=true})] true
def z8t(r:Rel)(env:List Int)(v0:Int):S Un:=(st 49 49 196 0 [(1,al .int env),(2,ax 2),(4,ab false),(5,ai v0)] [(2,bg .rel r)] [])
def zrs(m:Nat):S Un→Option (EX Un):=lpF_ (zvb m) z163 Tryz.f33 [1,1,0,1,2,2] 4
def zkg(m:Nat):Exit→S Un→Option (RF Un):=cxF_ (zvb m) z163 Tryz.f33 [1,1,0,1,2] [.d]
def z1jm(m:Nat)(r:Rel)(env:List Int):Option (RF Un):=fnF_ (zvb m) z163 Tryz.f33 0 [.d] [.d (.agg (enc Ty.rel r)),.d (.v (.dat (U:=Un) Ty.int env))]
theorem z27y(m:Nat)(r:Rel)(env:List Int):z1jm m r env=cndO (decide (zf0 r.op<0)) (some (z8z (false))) (cndO ((↑r.kids.length:Int) !=zf0 r.op) (some (z8z (false))) (obO (zso (Rel.ids r)) (cndO (z37 (Rel.ids r)) (some (z8z (false))) ((zrs m (z8t r env (0:Int))).bind (ze (zkg m)))))):=by kernel_rfl
theorem z1jn(m:Nat)(r:Rel)(env:List Int)(v0:Int):zrs m (z8t r env v0)=cndO (decide (v0<(↑r.kids.length:Int))) (obO (0≤v0∧v0<(↑r.kids.length:Int)) (obO ((3:Nat)*(Rel.ids (r.kids.getD v0.toNat za)).ht+(2:Nat)<m) (obO (z2o env (Rel.ids (r.kids.getD v0.toNat za)).ht) (cndO (!z9h (Rel.ids (r.kids.getD v0.toNat za)) env) (some (.ret,(z8t r env v0))) (zrs m (z8t r env (IntKind.i64.wrap (v0+1)))))))) (some (.exit 0,(z8t r env v0))):=lpQ_ (by kernel_rfl)
theorem z1pb(m:Nat)(r:Rel)(env:List Int)(v0:Int):zkg m .ret (z8t r env v0)=some (z8z (false)):=by kernel_rfl
theorem z1v9(m:Nat)(r:Rel)(env:List Int)(v0:Int):zkg m (.exit 0) (z8t r env v0)=cndO ((↑r.cols.length:Int)==z2p (Rel.ids r)) (obO ((3:Nat)*(Rel.ids r).ht+(1:Nat)<m) (obO (z2o env (Rel.ids r).ht) (obO (z161 (Rel.ids r)) (some (z8z (z1fp (Rel.ids r) env)))))) (some (z8z (false))):=by kernel_rfl
theorem z27z(m:Nat)(r:Rel)(env:List Int)(hm:3*r.ht+2<m+1)(h:z2o env r.ht)(hk:z161 r)(i:Int):zkg m (.exit 0) (z8t r env i)=some (z8z (decide ((r.cols.length:Int)=z29 r)&&zdp r env)):=by
 rw[z1v9,z8];simp only[Rel.ids_eq,z9z];by_cases h1:(r.cols.length:Int)=z29 r
 ·rw[if_pos (by grind),z6 (by omega),z6 h,z6 hk,decide_eq_true h1,y1c];rfl
 grind
theorem z1z6(m:Nat)(r:Rel)(env:List Int)(_hr:WS .rel r)(_he:WL .int env)(hm:3*r.ht+2<m+1)(h:z2o env r.ht):z1jm m r env=some (z8z (z9h r env)):=by
 have hkl:WL .rel r.kids:=_hr.rel_kids;have e:z9h r env=(zyu r&&(r.kids.all (fun k=>z9h k env)&&(decide ((r.cols.length:Int)=z29 r)&&zdp r env))):=by
  show zke r env=_;rw[z1z1,zrm,y3o,y3o];rfl
 rw[z27y,e];simp only[Rel.ids_eq,z8,decide_eq_true_eq,z1c5];unfold zyu;by_cases c1:z3n r.op<0
 ·grind
 by_cases c2:(r.kids.length:Int)=z3n r.op
 ·have hok:z161 r:=fun h9=>by
   have:z3n r.op=2:=by
    rcases h9 with h9|h9|h9<;>rw[h9]<;>rfl
   omega
  have lp:=z2w (L:=zrs m) (st:=fun i=>z8t r env i) (C:=zkg m) (e:=.exit 0) (fun b=>some (z8z (b&&(decide ((r.cols.length:Int)=z29 r)&&zdp r env)))) (d:=za) (fun k=>z9h k env) hkl.len
   (fun i x hi hx hmem=>by
    have hht:=Rel.ht_kid hmem;rw[z1jn];simp only[z8,hi,decide_true,if_true,and_true,y5,hx,Rel.ids_eq]
    grind[z6,z2o,z9h])
   (by rw[z1jn];simp[z8]) (fun i=>by rw[z1pb,y1v]) (fun i=>by simp_all[z27z,y1c])
  rw[if_neg (by grind),decide_eq_true c2,z6 (show zso r by grind[zso]),lp];grind
 grind
theorem z23v(m:Nat)(hG:zjo m):FnOK 33 (zro (m+1)):=fnK2 zr z11 (M:=(zvb m)) rfl ⟨z1c6,z1yz,hG.2.2.2.2,zf1,hG.2.2.2.1,trivial⟩ trivial trivial trivial trivial Tryz.func33 fun r env=>GiF.r fun w o=>z1z6 m r env (wfA_ w 0) (wfA_ w 1) (obA_ o 0) (obA_ o 1)
theorem zah:∀m,zjo m
 |0=>⟨fnZ2,fnZ2,fnZ2,fnZ2,fnZ2⟩
 |m+1=>⟨z1z2 m (zah m),z23s m (zah m),z1z4 m (zah m),z1z5 m (zah m),z23v m (zah m)⟩
def z1t5:FnC Un:=fnF2 (dS .rel) (dL .int) fun r env=>([z2o env r.ht],z8z (z9h r env))
theorem z280:FnOK 33 z1t5:=fnA2 fun m=>(zah m).2.2.2.2
end
end B
end Go.Proofs.YtjfpbchdcbhfgaaGreat
