/- Part 7 of the proof: Sref03 Sr15w Sref15v Sref15r. -/
import Derived.Test.YtjfpbchdcbhfgaaGreatNas6
set_option linter.unusedVariables false
set_option linter.unusedSimpArgs false
namespace Go.Proofs.YtjfpbchdcbhfgaaGreat
namespace B
open Go Go.RowKit
set_option maxRecDepth 100000
noncomputable section
attribute [local irreducible] awp ctxK zx z1d retQ z1o
theorem z2b7 (n:Int) (K:List (A Un)→List (Ob Un)→Prop) :
  awp z1c5 z239 (zi Tryz.f73) (z39 Tryz.f73.ntmps 0 [.d (.v (.s (.int .i64 n)))]) (retQ z1c5 Tryz.f73.results.toList [.d] K) =
(cnd (decide (n≥(-1000000000000000:Int)))
 (K (zsy (decide (n≤(1000000000000000:Int)))) (zsz (decide (n≤(1000000000000000:Int)))))
 (K (zsy (false)) (zsz (false)))):=by kernel_rfl
theorem z27l {n:Int} {r:Bool} (h:z15v n=some r) : Runs (awp z1c5 z239 (zi Tryz.f73) (z39 Tryz.f73.ntmps 0 [.d (.v (.s (.int .i64 n)))]) (retQ z1c5 Tryz.f73.results.toList [.d] fun rs os=>rs=zsy r∧os=zsz r)):=by
 constructor;rw[z2b7 n (fun rs os=>rs=zsy r∧os=zsz r)];rcases z1n h with ⟨c1,h2⟩ | ⟨c1,h2⟩
 ·cases h2;exact (z2b c1 ⟨rfl,rfl⟩)
 ·cases h2;exact (z12 (zq c1) ⟨rfl,rfl⟩)
theorem z2b9 : FnOK 73 zbg:=fnK1 z1a (M:=z1c5) rfl trivial trivial trivial trivial trivial Tryz.func73 fun n=>fun _ _=>z27l (z2b3 n)
def z34 : Nat→NS:=nsF_ [(2,{ ts:=[true,false,true,true,false,false,false,false,false,false,false,false,false,false,false,false,false,false,false,false,false,false,false],bs:=[false,false,false,false,false,false,false,false,false,false,false,false,false,false,false,false,false,false,false,false,false,false,false],nm:=[],gb:=[],gs:=[] })] false
def z2z (s:ByteArray) (v0:Int) : S Un:=(st 23 23 92 0 [(0,AV.one (A.c (C.s (Value.string s)))),(2,AV.one (A.c (C.s (Value.bool false)))),(3,AV.one (A.c (C.s (Value.int IntKind.i64 v0))))] [] [])
theorem z1yp (s:ByteArray) (K:List (A Un)→List (Ob Un)→Prop) :
  awp z1c5 z34 (zi Tryz.f74) (z39 Tryz.f74.ntmps 0 [.d (.v (cs s))]) (retQ z1c5 Tryz.f74.results.toList [.d] K) =
(zx (z34 2) (awp z1c5 z34 (sub (zi Tryz.f74) [1,0,1,2,2])) (ctxK z1c5 z34 (zi Tryz.f74) [1,0,1,2] (retQ z1c5 Tryz.f74.results.toList [.d] K)) (z2z s (0:Int))):=by kernel_rfl
theorem zkb (s:ByteArray) (v0:Int) (k:Nat) (Q:Exit→S Un→Prop) :
  z1d (z34 2) (awp z1c5 z34 (sub (zi Tryz.f74) [1,0,1,2,2])) Q (k+1) (z2z s v0) =
(cnd (decide (v0<(↑s.size:Int)))
 (((0:Int)≤v0∧v0<(↑s.size:Int)) ∧
 (cnd (decide ((↑(s.toList.getD v0.toNat (0:UInt8)).toNat:Int)<(32:Int)))
  (Q .ret (z2z s v0))
  (((0:Int)≤v0∧v0<(↑s.size:Int)) ∧
  (cnd (decide ((↑(s.toList.getD v0.toNat (0:UInt8)).toNat:Int) > (126:Int)))
   (Q .ret (z2z s v0))
   (z1d (z34 2) (awp z1c5 z34 (sub (zi Tryz.f74) [1,0,1,2,2])) Q k (z2z s (IntKind.i64.wrap (v0+(1:Int)))))))))
 (Q (.exit 0) (z2z s v0))):=by kernel_rfl
theorem z1fq (s:ByteArray) (v0:Int) (K:List (A Un)→List (Ob Un)→Prop) :
  ctxK z1c5 z34 (zi Tryz.f74) [1,0,1,2] (retQ z1c5 Tryz.f74.results.toList [.d] K) .ret (z2z s v0) =
(K (zsy (false)) (zsz (false))):=by kernel_rfl
theorem z1jc (s:ByteArray) (v0:Int) (K:List (A Un)→List (Ob Un)→Prop) :
  ctxK z1c5 z34 (zi Tryz.f74) [1,0,1,2] (retQ z1c5 Tryz.f74.results.toList [.d] K) (.exit 0) (z2z s v0) =
(K (zsy (decide ((↑s.size:Int)≤(100:Int)))) (zsz (decide ((↑s.size:Int)≤(100:Int))))):=by kernel_rfl
def zf1 (s:ByteArray) (v:Int) : Option ((Int) ⊕ ((Int) ⊕ (Int))) :=
  if (decide (v<(↑s.size:Int)))=true then
   if (0:Int)≤v∧v<(↑s.size:Int) then
    if (decide ((↑(s.toList.getD v.toNat (0:UInt8)).toNat:Int)<(32:Int)))=true then
     some (.inr (.inl v))
    else
     if (0:Int)≤v∧v<(↑s.size:Int) then
      if (decide ((↑(s.toList.getD v.toNat (0:UInt8)).toNat:Int) > (126:Int)))=true then
       some (.inr (.inl v))
      else
       some (.inl (IntKind.i64.wrap (v+(1:Int))))
     else none
   else none
  else
   some (.inr (.inr v))
def zf2 (s:ByteArray) (v:Int) : Option ((Int) ⊕ (Int)):=zg2 (zf1 s) v
theorem zv8 (s:ByteArray) (v:Int) : zf2 s v=zv7 (zf2 s) (zf1 s v):=z1fk _ _
def zkc (s:ByteArray) (r:(Int) ⊕ (Int)) (Q:Exit→S Un→Prop) : Prop:=match r with | .inl x=>Q .ret (z2z s x) | .inr x=>Q (.exit 0) (z2z s x)
theorem z1fr {s:ByteArray} {x:Int} {Q:Exit→S Un→Prop} (h:Q .ret (z2z s x)) : zkc s (.inl x) Q:=h
theorem z1jd {s:ByteArray} {x:Int} {Q:Exit→S Un→Prop} (h:Q (.exit 0) (z2z s x)) : zkc s (.inr x) Q:=h
theorem zt3 {s:ByteArray} {v:Int} {r:(Int) ⊕ (Int)} (h:zf2 s v=some r) (Q:Exit→S Un→Prop) (hQ:zkc s r Q) : zx (z34 2) (awp z1c5 z34 (sub (zi Tryz.f74) [1,0,1,2,2])) Q (z2z s v):=by
 refine @z1fl _ _ (zf1 s) (fun v=>zx (z34 2) (awp z1c5 z34 (sub (zi Tryz.f74) [1,0,1,2,2])) Q (z2z s v)) (fun r=>zkc s r Q) ?_ v r h hQ;intro v o h hI;rcases z1n h with ⟨c1,h2⟩ | ⟨c1,h2⟩
 ·obtain⟨c3,h4⟩:=zyr h2;rcases z1n h4 with ⟨c5,h6⟩ | ⟨c5,h6⟩
  ·cases h6;exact zey 1 (mpr (zkb s v 0 Q) (z2b c1 (And.intro c3 (z2b c5 hI))))
  ·obtain⟨c7,h8⟩:=zyr h6;rcases z1n h8 with ⟨c9,h10⟩ | ⟨c9,h10⟩
   ·cases h10;exact zey 1 (mpr (zkb s v 0 Q) (z2b c1 (And.intro c3 (z12 (zq c5) (And.intro c7 (z2b c9 hI))))))
   ·cases h10;obtain⟨k11,hk12⟩:=z1j4 hI;exact zey (k11+1) (mpr (zkb s v k11 Q) (z2b c1 (And.intro c3 (z12 (zq c5) (And.intro c7 (z12 (zq c9) hk12))))))
 ·cases h2;exact zey 1 (mpr (zkb s v 0 Q) (z12 (zq c1) hI))
def zt4 (s:ByteArray) : Option (Bool) :=
  (zf2 s (0:Int)) >>= fun o13=>match o13 with
   | .inl o14 =>
     some (false)
   | .inr o15 =>
     some (decide ((↑s.size:Int)≤(100:Int)))
theorem z1ux {s:ByteArray} {r:Bool} (h:zt4 s=some r) : Runs (awp z1c5 z34 (zi Tryz.f74) (z39 Tryz.f74.ntmps 0 [.d (.v (cs s))]) (retQ z1c5 Tryz.f74.results.toList [.d] fun rs os=>rs=zsy r∧os=zsz r)):=by
 constructor;rw[z1yp s (fun rs os=>rs=zsy r∧os=zsz r)];obtain⟨o16,ho17,h18⟩:=bind_some h;rcases o16 with o19 | o20
 ·cases h18;exact (zt3 ho17 _ (z1fr (mpr (z1fq s o19 _) ⟨rfl,rfl⟩)))
 ·cases h18;exact (zt3 ho17 _ (z1jd (mpr (z1jc s o20 _) ⟨rfl,rfl⟩)))
def zct (s:ByteArray) : Bool:=zyu s
@[simp] theorem z1yq (s:ByteArray) : zct s=zyu s:=by rfl
theorem z1p3 (s:ByteArray) (hs:WStr s) : ∀ (r:List UInt8) (i:Nat),s.toList.drop i=r →
  ∃ o,zf2 s i=some o∧(match o with | .inl _=>false | .inr _=>true)=r.all (fun b=>decide (32≤b.toNat∧b.toNat≤126)):=by
 intro r
 induction r with
 | nil =>
  intro i h1;have e1:=z2et h1;rw[z57] at e1;simp at e1;have hn:¬ ((i:Int)<s.size):=by omega
  exact⟨.inr i,by rw[zv8,zf1];simp [hn],rfl⟩
 | cons x r ih =>
  intro i h1;obtain⟨a1,a2,a3,_⟩:=z54 h1;rw[z57] at a1;have hp:(i:Int)<s.size:=by omega
  have hi:(0:Int)≤i:=by omega
  rw[zv8,zf1];simp only[hp,hi,decide_true,if_true,and_self,y5,a2,decide_eq_true_eq,y1h];by_cases c1 : (x.toNat:Int)<32
  ·exact⟨_,by rw[if_pos c1,z1su],by grind⟩
  ·rw[if_neg c1];by_cases c2 : (x.toNat:Int) > 126
   ·exact⟨_,by rw[if_pos c2,z1su],by grind⟩
   ·rw[if_neg c2,z1st a1 hs,z15r];grind
theorem z1p4 (s:ByteArray) (hs:WStr s) : zt4 s=some (zct s):=by
 obtain⟨o,ho,e⟩:=z1p3 s hs _ 0 rfl;unfold zt4 zct zyu;rw[show (0:Int)=((0:Nat):Int) from rfl,ho];simp only[y41] at e;rw[← e];cases o with
 | inl o=>simp
 | inr o=>simp;omega
def z1c8 : FnC Un:=fnF1 dStr fun s=>([],zsy (zct s),zsz (zct s))
theorem z1yr : FnOK 74 z1c8:=fnK1 z4j (M:=z1c5) rfl trivial trivial trivial trivial trivial Tryz.func74 fun s=>fun w _=>z1ux (z1p4 s (wfA_ w 0))
def zh9 : Mc Un:=mcF_ [(73,zbg),(74,z1c8)] [] [] [] []
theorem z1ys (v:Val) (K:List (A Un)→List (Ob Un)→Prop) :
  awp zh9 z239 (zi Tryz.f38) (z39 Tryz.f38.ntmps 0 [.d (.agg (enc Ty.val v))]) (retQ zh9 Tryz.f38.results.toList [.d] K) =
(cnd (v.kind == (0:Int))
 (cnd (v.n == (0:Int))
  (K (zsy (v.s.toList == (ByteArray.mk #[]).toList)) (zsz (v.s.toList == (ByteArray.mk #[]).toList)))
  (K (zsy (false)) (zsz (false))))
 (cnd (v.kind == (1:Int))
  (cnd (v.n == (0:Int))
   (K (zsy (v.s.toList == (ByteArray.mk #[]).toList)) (zsz (v.s.toList == (ByteArray.mk #[]).toList)))
   (cnd (v.n == (1:Int))
    (K (zsy (v.s.toList == (ByteArray.mk #[]).toList)) (zsz (v.s.toList == (ByteArray.mk #[]).toList)))
    (K (zsy (false)) (zsz (false)))))
  (cnd (v.kind == (2:Int))
   (cnd (z1q v.n)
    (K (zsy (v.s.toList == (ByteArray.mk #[]).toList)) (zsz (v.s.toList == (ByteArray.mk #[]).toList)))
    (K (zsy (false)) (zsz (false))))
   (cnd (v.kind == (3:Int))
    (cnd (v.n == (0:Int))
     (K (zsy (zct v.s)) (zsz (zct v.s)))
     (K (zsy (false)) (zsz (false))))
    (K (zsy (false)) (zsz (false))))))):=by kernel_rfl
def zt5 (v:Val) : Option (Bool) :=
  if (v.kind == (0:Int))=true then
   if (v.n == (0:Int))=true then
    some (v.s.toList == (ByteArray.mk #[]).toList)
   else
    some (false)
  else
   if (v.kind == (1:Int))=true then
    if (v.n == (0:Int))=true then
     some (v.s.toList == (ByteArray.mk #[]).toList)
    else
     if (v.n == (1:Int))=true then
      some (v.s.toList == (ByteArray.mk #[]).toList)
     else
      some (false)
   else
    if (v.kind == (2:Int))=true then
     if (z1q v.n)=true then
      some (v.s.toList == (ByteArray.mk #[]).toList)
     else
      some (false)
    else
     if (v.kind == (3:Int))=true then
      if (v.n == (0:Int))=true then
       some (zct v.s)
      else
       some (false)
     else
      some (false)
theorem z1uy {v:Val} {r:Bool} (h:zt5 v=some r) : Runs (awp zh9 z239 (zi Tryz.f38) (z39 Tryz.f38.ntmps 0 [.d (.agg (enc Ty.val v))]) (retQ zh9 Tryz.f38.results.toList [.d] fun rs os=>rs=zsy r∧os=zsz r)):=by
 constructor;rw[z1ys v (fun rs os=>rs=zsy r∧os=zsz r)];rcases z1n h with ⟨c1,h2⟩ | ⟨c1,h2⟩
 ·rcases z1n h2 with ⟨c3,h4⟩ | ⟨c3,h4⟩
  ·cases h4;exact (z2b c1 (z2b c3 ⟨rfl,rfl⟩))
  ·cases h4;exact (z2b c1 (z12 (zq c3) ⟨rfl,rfl⟩))
 ·rcases z1n h2 with ⟨c5,h6⟩ | ⟨c5,h6⟩
  ·rcases z1n h6 with ⟨c7,h8⟩ | ⟨c7,h8⟩
   ·cases h8;exact (z12 (zq c1) (z2b c5 (z2b c7 ⟨rfl,rfl⟩)))
   ·rcases z1n h8 with ⟨c9,h10⟩ | ⟨c9,h10⟩
    ·cases h10;exact (z12 (zq c1) (z2b c5 (z12 (zq c7) (z2b c9 ⟨rfl,rfl⟩))))
    ·cases h10;exact (z12 (zq c1) (z2b c5 (z12 (zq c7) (z12 (zq c9) ⟨rfl,rfl⟩))))
  ·rcases z1n h6 with ⟨c11,h12⟩ | ⟨c11,h12⟩
   ·rcases z1n h12 with ⟨c13,h14⟩ | ⟨c13,h14⟩
    ·cases h14;exact (z12 (zq c1) (z12 (zq c5) (z2b c11 (z2b c13 ⟨rfl,rfl⟩))))
    ·cases h14;exact (z12 (zq c1) (z12 (zq c5) (z2b c11 (z12 (zq c13) ⟨rfl,rfl⟩))))
   ·rcases z1n h12 with ⟨c15,h16⟩ | ⟨c15,h16⟩
    ·rcases z1n h16 with ⟨c17,h18⟩ | ⟨c17,h18⟩
     ·cases h18;exact (z12 (zq c1) (z12 (zq c5) (z12 (zq c11) (z2b c15 (z2b c17 ⟨rfl,rfl⟩)))))
     ·cases h18;exact (z12 (zq c1) (z12 (zq c5) (z12 (zq c11) (z2b c15 (z12 (zq c17) ⟨rfl,rfl⟩)))))
    ·cases h16;exact (z12 (zq c1) (z12 (zq c5) (z12 (zq c11) (z12 (zq c15) ⟨rfl,rfl⟩))))
@[simp] theorem z15y (v:Val) : zbh v=z7q v:=by rfl
theorem z1p5 (v:Val) (_hv:WS .val v) : zt5 v=some (zbh v):=by
 unfold zt5 zbh z7q;simp only[beq_iff_eq,z1yg,zx7,z1yq];grind
theorem zt6 : FnOK 38 z12y:=fnK1 zo (M:=zh9) rfl ⟨z2b9,z1yr,trivial⟩ trivial trivial trivial trivial Tryz.func38 fun v=>fun w _=>z1uy (z1p5 v (wfA_ w 0))
end
end B
namespace B
open Go Go.RowKit
set_option maxRecDepth 100000
noncomputable section
attribute [local irreducible] awp ctxK zx z1d retQ z1o awf ctxF z1l
def z2c (r:Int) : RF Un:=([.c (.s (.int .i64 r))],[])
def z1ca (op:Int) : Option (RF Un):=fnF_ z1c5 z239 Tryz.f59 0 [.d] [.d (.v (.s (.int .i64 op)))]
def zbj (op:Int) : Option (RF Un):=cndO (op == 5) (cndO (op == 5) (some (z2c ((2:Int)))) (some (z2c ((-1:Int))))) (cndO (op == 6) (cndO (op == 6) (some (z2c ((2:Int)))) (some (z2c ((-1:Int))))) (cndO (op == 9) (cndO (op == 9) (some (z2c ((2:Int)))) (some (z2c ((-1:Int))))) (cndO (op == 10) (cndO (op == 10) (some (z2c ((2:Int)))) (some (z2c ((-1:Int))))) (cndO (op == 11) (some (z2c ((2:Int)))) (some (z2c ((-1:Int))))))))
def zxa (op:Int) : Option (RF Un):=cndO (op == 3) (cndO (op == 3) (some (z2c ((1:Int)))) (zbj op)) (cndO (op == 4) (cndO (op == 4) (some (z2c ((1:Int)))) (zbj op)) (cndO (op == 7) (cndO (op == 7) (some (z2c ((1:Int)))) (zbj op)) (cndO (op == 8) (cndO (op == 8) (some (z2c ((1:Int)))) (zbj op)) (cndO (op == 12) (cndO (op == 12) (some (z2c ((1:Int)))) (zbj op)) (cndO (op == 13) (some (z2c ((1:Int)))) (zbj op))))))
theorem z23c (op:Int) : z1ca op=cndO (op == 1) (cndO (op == 1) (some (z2c ((0:Int)))) (zxa op)) (cndO (op == 2) (some (z2c ((0:Int)))) (zxa op)):=by kernel_rfl
def zf3 (op:Int) : Int:=z3k op
def z2j (r:Rel) : Int:=z27 r
theorem z1cb (op:Int) : zf3 op=z3k op:=by rfl
theorem z9y (r:Rel) : z2j r=z27 r:=by rfl
theorem z1fs {β:Type} (a b:Bool) (x y:Option β) : cndO a (cndO a x y) (cndO b x y)=cndO (a || b) x y:=by cases a<;>cases b<;>rfl
theorem z1uz (op:Int) (_h:WI op) : z1ca op=some (z2c (zf3 op)):=by
 have e:∀ x : Option (RF Un),(cndO (op == 11) (cndO (op == 11) (some (z2c ((2:Int)))) x) x)=cndO (op == 11) (some (z2c ((2:Int)))) x:=fun x=>by cases op == 11<;>rfl
 rw[z23c];unfold zf3 zxa zbj z3k;simp only[e,z1fs];simp only[z7,y1g,beq_iff_eq];grind
def z11m : FnC Un:=fnF1 (dI .i64) fun op=>([],z2c (zf3 op))
theorem z1cc : FnOK 59 z11m:=fnK1 z1a (M:=z1c5) rfl trivial trivial trivial trivial trivial Tryz.func59 fun op=>GiF.r fun w _=>z1uz op (wfA_ w 0)
def zt7 (m:Nat) : FnC Un:=fnF1 (dS .rel) fun r=>z2l (r.ht) m ([],z2c (z2j r))
def z1cd (m:Nat) : Mc Un:=mcF_ [(59,z11m),(19,zt7 m)] [] [] [] []
def z15z (r:Rel):=z2j (Rel.mk (Rel.op (r.kids.getD 0 z8)) (Rel.table (r.kids.getD 0 z8)) (Rel.cols (r.kids.getD 0 z8)) (Rel.kids (r.kids.getD 0 z8)) (Rel.terms (r.kids.getD 0 z8)) (Rel.aggs (r.kids.getD 0 z8)) (Rel.keys (r.kids.getD 0 z8)) (Rel.limit (r.kids.getD 0 z8)) (Rel.skip (r.kids.getD 0 z8)) (Rel.all (r.kids.getD 0 z8)) (Rel.rows (r.kids.getD 0 z8)))
def z160 (m:Nat) (r:Rel) : Option (RF Un):=fnF_ (z1cd m) z239 Tryz.f19 0 [.d] [.d (.agg (enc Ty.rel r))]
def zt8 (m:Nat) (r:Rel) : Option (RF Un):=obO ((0:Int)≤(0:Int)∧(0:Int)<(↑r.kids.length:Int)) (obO ((Rel.ids (r.kids.getD 0 z8)).ht<m) (obO ((0:Int)≤(1:Int)∧(1:Int)<(↑r.kids.length:Int)) (obO ((Rel.ids (r.kids.getD 1 z8)).ht<m) (some (z2c (IntKind.i64.wrap (z2j (Rel.ids (r.kids.getD 0 z8))+z2j (Rel.ids (r.kids.getD 1 z8)))))))))
def zt9 (m:Nat) (r:Rel) : Option (RF Un):=cndO (r.op == 7) (some (z2c (IntKind.i64.wrap ((↑r.terms.length:Int)+(↑r.aggs.length:Int))))) (obO ((0:Int)≤(0:Int)∧(0:Int)<(↑r.kids.length:Int)) (obO ((Rel.ids (r.kids.getD 0 z8)).ht<m) (some (z2c (z15z r)))))
def zta (m:Nat) (r:Rel) : Option (RF Un):=cndO (r.op == 4) (some (z2c ((↑r.terms.length:Int)))) (cndO (r.op == 5) (cndO (r.op == 5) (zt8 m r) (zt9 m r)) (cndO (r.op == 6) (zt8 m r) (zt9 m r)))
theorem z1yt (m:Nat) (r:Rel) : z160 m r=cndO (decide (zf3 r.op<0)) (some (z2c ((0:Int)))) (cndO (decide ((↑r.kids.length:Int)<zf3 r.op)) (some (z2c ((0:Int)))) (cndO (r.op == 1) (cndO (r.op == 1) (some (z2c ((↑r.cols.length:Int)))) (zta m r)) (cndO (r.op == 2) (some (z2c ((↑r.cols.length:Int)))) (zta m r)))):=by kernel_rfl
theorem z1p6 (m:Nat) (r:Rel) (_hr:WS .rel r) (hm:r.ht<m+1) : z160 m r=some (z2c (z2j r)):=by
 have k0:0<r.kids.length→(r.kids.getD 0 z8).ht<m:=fun h=>by have:=Rel.ht_kid (z78 (d:=z8) (l:=r.kids) h);omega
 have k1:1<r.kids.length→(r.kids.getD 1 z8).ht<m:=fun h=>by have:=Rel.ht_kid (z78 (d:=z8) (l:=r.kids) h);omega
 rw[z1yt];unfold zta;rw[z1fs,z1fs,z9y r,zjr r];simp only[z7,beq_iff_eq,decide_eq_true_eq,z1cb,y1g];by_cases c1 : z3k r.op<0
 ·grind
 by_cases c2 : (r.kids.length:Int)<z3k r.op
 ·grind
 by_cases h1 : r.op=1∨r.op=2
 ·grind
 have hn:=z2b6 c1 h1;by_cases h4 : r.op=4
 ·grind
 have hl0:0<r.kids.length:=by omega
 have g0:=zbi r.kids 0 hl0;by_cases h56 : r.op=5∨r.op=6
 ·have ht:=z15w h56;have hl1:1<r.kids.length:=by omega
  have g1:=zbi r.kids 1 hl1;unfold zt8;grind [Rel.ids_eq,z9y,z6]
 ·unfold zt9;rw[z7];by_cases h7 : r.op=7
  ·grind
  simp_all [if_neg,z15z,z2hb,Rel.ids_eq,z9y,z6]
abbrev z1ce (m:Nat) : Prop:=FnOK 19 (zt7 m)
theorem z1v0 (m:Nat) (hG:z1ce m) : FnOK 19 (zt7 (m+1)):=fnK1 zo (M:=(z1cd m)) rfl ⟨z1cc,hG,trivial⟩ trivial trivial trivial trivial Tryz.func19 fun r=>GiF.r fun w o=>z1p6 m r (wfA_ w 0) (obA_ o 0)
theorem zv9 : ∀ m,z1ce m
 | 0=>fnZ1
 | m+1=>z1v0 m (zv9 m)
def zbk : FnC Un:=fnF1 (dS .rel) fun r=>([],z2c (z2j r))
theorem zf4 : FnOK 19 zbk:=fnA1 fun m=>(zv9 m)
end
end B
namespace B
open Go Go.RowKit
set_option maxRecDepth 100000
noncomputable section
attribute [local irreducible] awp ctxK zx z1d retQ z1o awf ctxF z1l
theorem zyw {β:Type} (a b:Bool) (x y:Option β) : cndO a x (cndO b x y)=cndO (a || b) x y:=by cases a<;>rfl
theorem z2s {α β:Type} {L:S Un→Option (EX Un)} {st:Int→S Un} {C:Exit→S Un→Option β} (R:Bool→Option β) {l:List α} {d:α} {e:Exit} (q:α→Bool) (hl:l.length≤9223372036854775807)
  (step:∀ (i:Nat) (x:α),(i:Int)<(l.length:Int)→l.getD i d=x→x∈l→L (st i)=if q x=true then L (st (IntKind.i64.wrap ((i:Int)+1))) else some (.ret,st i))
  (stop:L (st (l.length:Int))=some (e,st (l.length:Int))) (r1:∀ i : Int,C .ret (st i)=R false) (r2:∀ i : Int,C e (st i)=R true) : (L (st 0)).bind (zb C)=R (l.all q):=by
 have key:∀ (r:List α) (i:Nat),l.drop i=r→i≤l.length→(L (st i)).bind (zb C)=R (r.all q):=by
  intro r
  induction r with
  | nil =>
   intro i hr hi;have : l.length≤i:=y1o.1 hr;have e:i=l.length:=by omega
   rw[e,stop];exact r2 _
  | cons x r ih =>
   intro i hr hi;have hlt:i<l.length:=by
    grind
   have hx:l.getD i d=x:=by
    have:=y25 (xs:=l) (i:=i) (j:=0);grind
   have hm:x∈l:=by grind
   have hr2:l.drop (i+1)=r:=by grind [List.tail_drop]
   rw[step i x (by omega) hx hm,y1h];cases hq : q x
   ·exact r1 _
   ·rw[if_pos rfl,z1s (by omega),y1c];grind
 grind
def z2m (env:List Int) (n:Nat) : Prop:=env.length+n≤8000000
def z7f (r:Int×Int×Bool) : RF Un:=([.c (.s (.int .i64 r.1)),.c (.s (.int .i64 r.2.1)),.c (.s (.bool r.2.2))],[])
def z23e : Nat→NS:=nsF_ [] true
def z161 (name:ByteArray) : Option (RF Un):=fnF_ z1c5 z23e Tryz.f104 0 [.d,.d,.d] [.d (.v (cs name))]
theorem z1yu (name:ByteArray) : z161 name=cndO (name.toList == (ByteArray.mk #[108,101,110,103,116,104]).toList) (some (z7f ((1:Int),(1:Int),true))) (cndO (name.toList == (ByteArray.mk #[108,111,119,101,114]).toList) (some (z7f ((1:Int),(1:Int),true))) (cndO (name.toList == (ByteArray.mk #[117,112,112,101,114]).toList) (some (z7f ((1:Int),(1:Int),true))) (cndO (name.toList == (ByteArray.mk #[97,98,115]).toList) (some (z7f ((1:Int),(1:Int),true))) (cndO (name.toList == (ByteArray.mk #[110,117,108,108,105,102]).toList) (some (z7f ((2:Int),(2:Int),true))) (cndO (name.toList == (ByteArray.mk #[99,111,97,108,101,115,99,101]).toList) (some (z7f ((1:Int),(1099511627776:Int),true))) (some (z7f ((0:Int),(0:Int),false)))))))):=by kernel_rfl
def zf5 (name:ByteArray) : Int×Int×Bool :=
  if (name.toList == (ByteArray.mk #[(108:UInt8),(101:UInt8),(110:UInt8),(103:UInt8),(116:UInt8),(104:UInt8)]).toList)=true then
   ((1:Int),(1:Int),true)
  else
   if (name.toList == (ByteArray.mk #[(108:UInt8),(111:UInt8),(119:UInt8),(101:UInt8),(114:UInt8)]).toList)=true then
    ((1:Int),(1:Int),true)
   else
    if (name.toList == (ByteArray.mk #[(117:UInt8),(112:UInt8),(112:UInt8),(101:UInt8),(114:UInt8)]).toList)=true then
     ((1:Int),(1:Int),true)
    else
     if (name.toList == (ByteArray.mk #[(97:UInt8),(98:UInt8),(115:UInt8)]).toList)=true then
      ((1:Int),(1:Int),true)
     else
      if (name.toList == (ByteArray.mk #[(110:UInt8),(117:UInt8),(108:UInt8),(108:UInt8),(105:UInt8),(102:UInt8)]).toList)=true then
       ((2:Int),(2:Int),true)
      else
       if (name.toList == (ByteArray.mk #[(99:UInt8),(111:UInt8),(97:UInt8),(108:UInt8),(101:UInt8),(115:UInt8),(99:UInt8),(101:UInt8)]).toList)=true then
        ((1:Int),(1099511627776:Int),true)
       else
        ((0:Int),(0:Int),false)
theorem z1yv (name:ByteArray) : z161 name=some (z7f (zf5 name)):=by grind [z1yu,zf5,z7]
def z1cg : FnC Un:=fnF1 dStr fun name=>([],z7f (zf5 name))
theorem z1yw : FnOK 104 z1cg:=fnK1 z4j (M:=z1c5) rfl trivial trivial trivial trivial trivial Tryz.func104 fun name=>GiF.r fun _ _=>z1yv name
def z1yx : Mc Un:=mcF_ [(104,z1cg)] [] [] [] []
def z1t0 (t:Term) : Option (RF Un):=fnF_ z1yx z23e Tryz.f56 0 [.d,.d,.d] [.d (.agg (enc Ty.term t))]
theorem z2ba (t:Term) : z1t0 t=cndO (t.op == 1) (some (z7f ((0:Int),(0:Int),true))) (cndO (t.op == 2) (some (z7f ((0:Int),(0:Int),true))) (cndO (t.op == 26) (some (z7f ((0:Int),(0:Int),true))) (cndO (t.op == 27) (some (z7f ((0:Int),(0:Int),true))) (cndO (t.op == 3) (some (z7f ((1:Int),(1:Int),true))) (cndO (t.op == 4) (some (z7f ((1:Int),(1:Int),true))) (cndO (t.op == 19) (some (z7f ((1:Int),(1:Int),true))) (cndO (t.op == 28) (some (z7f ((1:Int),(1:Int),true))) (cndO (t.op == 5) (some (z7f ((2:Int),(2:Int),true))) (cndO (t.op == 6) (some (z7f ((2:Int),(2:Int),true))) (cndO (t.op == 7) (some (z7f ((2:Int),(2:Int),true))) (cndO (t.op == 8) (some (z7f ((2:Int),(2:Int),true))) (cndO (t.op == 9) (some (z7f ((2:Int),(2:Int),true))) (cndO (t.op == 10) (some (z7f ((2:Int),(2:Int),true))) (cndO (t.op == 11) (some (z7f ((2:Int),(2:Int),true))) (cndO (t.op == 12) (some (z7f ((2:Int),(2:Int),true))) (cndO (t.op == 13) (some (z7f ((2:Int),(2:Int),true))) (cndO (t.op == 14) (some (z7f ((2:Int),(2:Int),true))) (cndO (t.op == 15) (some (z7f ((2:Int),(2:Int),true))) (cndO (t.op == 16) (some (z7f ((2:Int),(2:Int),true))) (cndO (t.op == 17) (some (z7f ((2:Int),(2:Int),true))) (cndO (t.op == 18) (some (z7f ((2:Int),(2:Int),true))) (cndO (t.op == 20) (some (z7f ((2:Int),(2:Int),true))) (cndO (t.op == 22) (some (z7f ((3:Int),(3:Int),true))) (cndO (t.op == 21) (some (z7f ((2:Int),(1099511627776:Int),true))) (cndO (t.op == 23) (some (z7f ((2:Int),(1099511627776:Int),true))) (cndO (t.op == 24) (some (z7f ((zf5 t.name).fst,(zf5 t.name).snd.fst,(zf5 t.name).snd.snd))) (some (z7f ((0:Int),(0:Int),false))))))))))))))))))))))))))))):=by kernel_rfl
def zhb (t:Term) : Int×Int×Bool :=
 if t.op=1∨t.op=2∨t.op=26∨t.op=27 then (0,0,true)
 else if t.op=3∨t.op=4∨t.op=19∨t.op=28 then (1,1,true)
 else if t.op=5∨t.op=6∨t.op=7∨t.op=8∨t.op=9∨t.op=10∨t.op=11∨t.op=12∨t.op=13∨t.op=14∨t.op=15∨t.op=16∨t.op=17∨t.op=18∨t.op=20 then (2,2,true)
 else if t.op=22 then (3,3,true)
 else if t.op=21∨t.op=23 then (2,1099511627776,true)
 else if t.op=24 then zf5 t.name
 else (0,0,false)
theorem z23f (t:Term) (_ht:WS .term t) : z1t0 t=some (z7f (zhb t)):=by
 rw[z2ba];unfold zhb;simp only[zyw];simp only[z7,y1g,beq_iff_eq];grind
def z1yy : FnC Un:=fnF1 (dS .term) fun t=>([],z7f (zhb t))
theorem z2bb : FnOK 56 z1yy:=fnK1 zo (M:=z1yx) rfl ⟨z1yw,trivial⟩ trivial trivial trivial trivial Tryz.func56 fun t=>GiF.r fun w _=>z23f t (wfA_ w 0)
def z1ch (t:Term) : Option (RF Un):=fnF_ z1c5 z23e Tryz.f57 0 [.d] [.d (.agg (enc Ty.term t))]
theorem z23g (t:Term) : z1ch t=cndO (t.op == 26) (some (z2c ((1:Int)))) (cndO (t.op == 27) (some (z2c ((1:Int)))) (cndO (t.op == 28) (some (z2c ((1:Int)))) (some (z2c ((0:Int)))))):=by kernel_rfl
def zja (t:Term) : Int:=if t.op=26∨t.op=27∨t.op=28 then 1 else 0
theorem z1v1 (t:Term) (_ht:WS .term t) : z1ch t=some (z2c (zja t)):=by
 rw[z23g];unfold zja;simp only[z7,y1g,beq_iff_eq];grind
def z1jg : FnC Un:=fnF1 (dS .term) fun t=>([],z2c (zja t))
theorem z23h : FnOK 57 z1jg:=fnK1 zo (M:=z1c5) rfl trivial trivial trivial trivial trivial Tryz.func57 fun t=>GiF.r fun w _=>z1v1 t (wfA_ w 0)
def z1t1 : Mc Un:=mcF_ [(38,z12y)] [] [] [] []
def z8y (r:Bool) : RF Un:=([.c (.s (.bool r))],[])
def z1jh (t:Term) (env:List Int) : Option (RF Un):=fnF_ z1t1 z23e Tryz.f58 0 [.d] [.d (.agg (enc Ty.term t)),.d (.v (.dat (U:=Un) Ty.int env))]
theorem z27o (t:Term) (env:List Int) : z1jh t env=cndO (decide (t.type<0)) (some (z8y (false))) (cndO (decide (t.type > 3)) (some (z8y (false))) (cndO (t.op == 1) (some (z8y (zbh t.v))) (cndO (t.op == 2) (cndO (decide (t.depth≥0)) (cndO (decide (t.depth<(↑env.length:Int))) (cndO (decide (t.at_≥0)) (obO (0≤t.depth∧t.depth<(↑env.length:Int)) (some (z8y (decide (t.at_<env.getD t.depth.toNat (0:Int)))))) (some (z8y (false)))) (some (z8y (false)))) (some (z8y (false)))) (some (z8y (true)))))):=by kernel_rfl
def zsj (t:Term) (env:List Int) : Bool:=decide (0≤t.type∧t.type≤3) && (if t.op=1 then z7q t.v else if t.op=2 then decide (0≤t.depth∧t.depth<(env.length:Int)∧0≤t.at_∧t.at_<env.getD t.depth.toNat 0) else true)
theorem z1yz (t:Term) (env:List Int) (_ht:WS .term t) (_he:WL .int env) : z1jh t env=some (z8y (zsj t env)):=by
 rw[z27o];unfold zsj;simp only[z7,beq_iff_eq,decide_eq_true_eq,z15y];by_cases h0 : t.type<0
 ·grind
 by_cases h3 : t.type > 3
 ·grind
 by_cases h1 : t.op=1
 ·grind
 by_cases h2 : t.op=2
 ·by_cases d1 : t.depth≥0
  ·by_cases d2 : t.depth<(env.length:Int)
   ·by_cases d3 : t.at_≥0
    all_goals simp_all [if_pos,z6,decide_eq_true,decide_eq_false,if_neg]
   grind
  grind
 grind
def z1t2 : FnC Un:=fnF2 (dS .term) (dL .int) fun t env=>([],z8y (zsj t env))
theorem z27p : FnOK 58 z1t2:=fnK2 zo zw (M:=z1t1) rfl ⟨zt6,trivial⟩ trivial trivial trivial trivial Tryz.func58 fun t env=>GiF.r fun w _=>z1yz t env (wfA_ w 0) (wfA_ w 1)
def z1z0 : Mc Un:=mcF_ [(19,zbk)] [] [] [] []
def zmt (r:List Int) : RF Un:=([.c (.sl (U:=Un) Ty.int r false)],[])
def z1t3 (r:Rel) (env:List Int) : Option (RF Un):=fnF_ z1z0 z23e Tryz.f112 0 [.d] [.d (.agg (enc Ty.rel r)),.d (.v (.dat (U:=Un) Ty.int env))]
def zva (r:Rel) (env:List Int) : Option (RF Un):=obO (([z2j (Rel.ids (r.kids.getD 0 z8))].length+env.length)*(8:Nat)≤zf) (some (zmt (z2j (Rel.ids (r.kids.getD 0 z8))::env)))
def z162 (r:Rel) (env:List Int) : Option (RF Un):=cndO (decide ((↑r.kids.length:Int) > (1:Int))) (obO ((0:Int)≤(1:Int)∧(1:Int)<(↑r.kids.length:Int)) (obO (([IntKind.i64.wrap (z2j (Rel.ids (r.kids.getD 0 z8))+z2j (Rel.ids (r.kids.getD 1 z8)))].length+env.length)*(8:Nat)≤zf) (some (zmt (IntKind.i64.wrap (z2j (Rel.ids (r.kids.getD 0 z8))+z2j (Rel.ids (r.kids.getD 1 z8)))::env))))) (zva r env)
def zvb (env:List Int) : Option (RF Un):=obO (([(0:Int)].length+env.length)*(8:Nat)≤zf) (some (zmt ((0:Int)::env)))
def z163 (r:Rel) (env:List Int) : Option (RF Un):=cndO (decide ((↑r.kids.length:Int) > (1:Int))) (obO ((0:Int)≤(1:Int)∧(1:Int)<(↑r.kids.length:Int)) (obO (([IntKind.i64.wrap ((0:Int)+z2j (Rel.ids (r.kids.getD 1 z8)))].length+env.length)*(8:Nat)≤zf) (some (zmt (IntKind.i64.wrap ((0:Int)+z2j (Rel.ids (r.kids.getD 1 z8)))::env))))) (zvb env)
theorem z2bd (r:Rel) (env:List Int) : z1t3 r env=cndO (decide ((↑r.kids.length:Int) > (0:Int))) (obO ((0:Int)≤(0:Int)∧(0:Int)<(↑r.kids.length:Int)) (cndO (r.op == 5) (z162 r env) (cndO (r.op == 6) (z162 r env) (zva r env)))) (cndO (r.op == 5) (z163 r env) (cndO (r.op == 6) (z163 r env) (zvb env))):=by kernel_rfl
def z27q (r:Rel) : Int:=if r.kids.length > 0 then z27 (r.kids.getD 0 z8) else 0
def z8r (r:Rel) : Int:=if (r.op=5∨r.op=6)∧r.kids.length > 1 then IntKind.i64.wrap (z27q r+z27 (r.kids.getD 1 z8)) else z27q r
def zaz (r:Rel) (env:List Int) : List Int:=z8r r::env
theorem z23i (r:Rel) (env:List Int) (_hr:WS .rel r) (_he:WL .int env) (h:z2m env 1) : z1t3 r env=some (zmt (zaz r env)):=by
 unfold z2m at h;rw[z2bd];unfold zva z162 zvb z163 zvb zva;simp only[zyw,Rel.ids_eq,z9y];simp only[z7,y1g,beq_iff_eq,decide_eq_true_eq];unfold zaz z8r z27q;by_cases h0 : r.kids.length > 0
 ·rw[if_pos (by omega),if_pos h0,z6 (by omega)];by_cases h5 : r.op=5∨r.op=6
  ·rw[if_pos h5];by_cases h1 : r.kids.length > 1
   ·rw[if_pos (by omega),if_pos ⟨h5,h1⟩,z6 (by omega),z6 (by grind [zf,List.length_singleton])]
   ·rw[if_neg (by omega),if_neg (fun e=>h1 e.2),z6 (by grind [zf,List.length_singleton])]
  ·rw[if_neg h5,if_neg (fun e=>h5 e.1),z6 (by grind [zf,List.length_singleton])]
 ·rw[if_neg (by omega),if_neg h0,if_neg (show ¬ ((r.op=5∨r.op=6)∧r.kids.length > 1) from fun e=>by omega)];split
  ·rw[if_neg (by omega),z6 (by grind [zf,List.length_singleton])]
  grind [z6,zf,List.length_singleton]
def z1z1 : FnC Un:=fnF2 (dS .rel) (dL .int) fun r env=>([z2m env 1],zmt (zaz r env))
theorem z2be : FnOK 112 z1z1:=fnK2 zo zw (M:=z1z0) rfl ⟨zf4,trivial⟩ trivial trivial trivial trivial Tryz.func112 fun r env=>GiF.r fun w o=>z23i r env (wfA_ w 0) (wfA_ w 1) (obA_ o 0)
def ztb : Nat→NS:=nsF_ [(2,{ ts:=bl 16 13,bs:=bl 16 0,nm:=[],cs:=true })] true
def z6v (r:List Val) (v0:Int) : S Un:=(st 16 16 64 0 [(0,al .val r),(2,ab false),(3,ai v0)] [] [])
def zi3 : S Un→Option (EX Un):=lpF_ z1t1 ztb Tryz.f35 [1,0,1,2,2] 2
def zqg : Exit→S Un→Option (RF Un):=cxF_ z1t1 ztb Tryz.f35 [1,0,1,2] [.d]
def z12z (r:List Val) : Option (RF Un):=fnF_ z1t1 ztb Tryz.f35 0 [.d] [.d (.v (.dat (U:=Un) Ty.val r))]
theorem z1v2 (r:List Val) : z12z r=(zi3 (z6v r (0:Int))).bind (zb zqg):=by kernel_rfl
theorem z130 (r:List Val) (v0:Int) : zi3 (z6v r v0)=cndO (decide (v0<(↑r.length:Int))) (obO (0≤v0∧v0<(↑r.length:Int)) (cndO (!zbh (r.getD v0.toNat zeroVal)) (some (.ret,(z6v r v0))) (zi3 (z6v r (IntKind.i64.wrap (v0+1)))))) (some (.exit 0,(z6v r v0))):=lpQ_ (by kernel_rfl)
theorem z1ay (r:List Val) (v0:Int) : zqg .ret (z6v r v0)=some (z8y (false)):=by kernel_rfl
theorem z1ft (r:List Val) (v0:Int) : zqg (.exit 0) (z6v r v0)=some (z8y (true)):=by kernel_rfl
def zd1 (r:List Val) : Bool:=r.all z7q
theorem z1ji (r:List Val) (hr:WL .val r) : z12z r=some (z8y (zd1 r)):=by
 rw[z1v2]
 exact z2s (L:=zi3) (st:=fun i=>z6v r i) (fun b=>some (z8y b)) (d:=zeroVal) z7q hr.len
  (fun i x hi hx _=>by
   rw[z130];simp only[z7,hi,decide_true,if_true,and_true,y5,hx,z15y]
   grind [z6,z7q])
  (by rw[z130];simp [z7]) (fun i=>z1ay _ _) (fun i=>z1ft _ _)
def ztc : FnC Un:=fnF1 (dL .val) fun r=>([],z8y (zd1 r))
theorem z131 : FnOK 35 ztc:=fnK1 zw (M:=z1t1) rfl ⟨zt6,trivial⟩ trivial trivial trivial trivial Tryz.func35 fun r=>GiF.r fun w _=>z1ji r (wfA_ w 0)
def zri : Mc Un:=mcF_ [(35,ztc)] [] [] [] []
def z11n : Nat→NS:=nsF_ [(2,{ ts:=bl 27 51,bs:=bl 27 0,nm:=[],cs:=true })] true
def z7g (l:List (List Val)) (n:Int) (v0:Int) : S Un:=(st 27 27 108 0 [(0,al .row l),(1,ai n),(4,ab false),(5,ai v0)] [] [])
def znp : S Un→Option (EX Un):=lpF_ zri z11n Tryz.f113 [1,0,1,2,2] 2
def zxb : Exit→S Un→Option (RF Un):=cxF_ zri z11n Tryz.f113 [1,0,1,2] [.d]
def z1ci (l:List (List Val)) (n:Int) : Option (RF Un):=fnF_ zri z11n Tryz.f113 0 [.d] [.d (.v (.dat (U:=Un) Ty.row l)),.d (.v (.s (.int .i64 n)))]
theorem z23j (l:List (List Val)) (n:Int) : z1ci l n=(znp (z7g l n (0:Int))).bind (zb zxb):=by kernel_rfl
theorem z1cj (l:List (List Val)) (n:Int) (v0:Int) : znp (z7g l n v0)=cndO (decide (v0<(↑l.length:Int))) (obO (0≤v0∧v0<(↑l.length:Int)) (cndO ((↑(List.length (l.getD v0.toNat [])):Int) != n) (some (.ret,(z7g l n v0))) (obO (0≤v0∧v0<(↑l.length:Int)) (cndO (!zd1 (l.getD v0.toNat [])) (some (.ret,(z7g l n v0))) (znp (z7g l n (IntKind.i64.wrap (v0+1)))))))) (some (.exit 0,(z7g l n v0))):=lpQ_ (by kernel_rfl)
theorem z1jj (l:List (List Val)) (n:Int) (v0:Int) : zxb .ret (z7g l n v0)=some (z8y (false)):=by kernel_rfl
theorem z1p7 (l:List (List Val)) (n:Int) (v0:Int) : zxb (.exit 0) (z7g l n v0)=some (z8y (true)):=by kernel_rfl
def zmu (l:List (List Val)) (n:Int) : Bool:=l.all fun x=>decide ((x.length:Int)=n) && zd1 x
theorem z1v3 (l:List (List Val)) (n:Int) (hl:WL .row l) (_hn:WI n) : z1ci l n=some (z8y (zmu l n)):=by
 rw[z23j]
 exact z2s (L:=znp) (st:=fun i=>z7g l n i) (fun b=>some (z8y b)) (d:=[]) (fun x=>decide ((x.length:Int)=n) && zd1 x) hl.len
  (fun i x hi hx _=>by
   rw[z1cj];simp only[z7,hi,decide_true,if_true,and_true,y5,hx];rw[z6 (by omega),z6 (by omega)]
   grind)
  (by rw[z1cj];simp [z7]) (fun i=>z1jj _ _ _) (fun i=>z1p7 _ _ _)
def z1jk : FnC Un:=fnF2 (dL .row) (dI .i64) fun l n=>([],z8y (zmu l n))
theorem z23k : FnOK 113 z1jk:=fnK2 zw z1a (M:=zri) rfl ⟨z131,trivial⟩ trivial trivial trivial trivial Tryz.func113 fun l n=>GiF.r fun w _=>z1v3 l n (wfA_ w 0) (wfA_ w 1)
def z7h (l:List By) (n:Int) (v0:Int) : S Un:=(st 27 27 108 0 [(0,al .by_ l),(1,ai n),(4,ab false),(5,ai v0)] [] [])
def znq : S Un→Option (EX Un):=lpF_ z1c5 z11n Tryz.f116 [1,0,1,2,2] 2
def zxc : Exit→S Un→Option (RF Un):=cxF_ z1c5 z11n Tryz.f116 [1,0,1,2] [.d]
def z1ck (l:List By) (n:Int) : Option (RF Un):=fnF_ z1c5 z11n Tryz.f116 0 [.d] [.d (.v (.dat (U:=Un) Ty.by_ l)),.d (.v (.s (.int .i64 n)))]
theorem z23l (l:List By) (n:Int) : z1ck l n=(znq (z7h l n (0:Int))).bind (zb zxc):=by kernel_rfl
theorem z1cl (l:List By) (n:Int) (v0:Int) : znq (z7h l n v0)=cndO (decide (v0<(↑l.length:Int))) (obO (0≤v0∧v0<(↑l.length:Int)) (cndO (decide ((l.getD v0.toNat z9v).at_<0)) (some (.ret,(z7h l n v0))) (obO (0≤v0∧v0<(↑l.length:Int)) (cndO (decide ((l.getD v0.toNat z9v).at_≥n)) (some (.ret,(z7h l n v0))) (znq (z7h l n (IntKind.i64.wrap (v0+1)))))))) (some (.exit 0,(z7h l n v0))):=lpQ_ (by kernel_rfl)
theorem z1jl (l:List By) (n:Int) (v0:Int) : zxc .ret (z7h l n v0)=some (z8y (false)):=by kernel_rfl
theorem z1p8 (l:List By) (n:Int) (v0:Int) : zxc (.exit 0) (z7h l n v0)=some (z8y (true)):=by kernel_rfl
def ztd (l:List By) (n:Int) : Bool:=l.all fun k=>decide (0≤k.at_∧k.at_<n)
theorem z1v4 (l:List By) (n:Int) (hl:WL .by_ l) (_hn:WI n) : z1ck l n=some (z8y (ztd l n)):=by
 rw[z23l]
 exact z2s (L:=znq) (st:=fun i=>z7h l n i) (fun b=>some (z8y b)) (d:=z9v) (fun k=>decide (0≤k.at_∧k.at_<n)) hl.len
  (fun i x hi hx _=>by
   rw[z1cl];simp only[z7,hi,decide_true,if_true,and_true,y5,hx,decide_eq_true_eq];rw[z6 (by omega),z6 (by omega)]
   grind)
  (by rw[z1cl];simp [z7]) (fun i=>z1jl _ _ _) (fun i=>z1p8 _ _ _)
def z1jm : FnC Un:=fnF2 (dL .by_) (dI .i64) fun l n=>([],z8y (ztd l n))
theorem z23m : FnOK 116 z1jm:=fnK2 zw z1a (M:=z1c5) rfl trivial trivial trivial trivial trivial Tryz.func116 fun l n=>GiF.r fun w _=>z1v4 l n (wfA_ w 0) (wfA_ w 1)
end
end B
namespace B
open Go Go.RowKit
set_option maxRecDepth 100000
noncomputable section
attribute [local irreducible] awp ctxK zx z1d retQ z1o awf ctxF z1l
def z30 (r:Rel) : Option (RF Un):=fnF_ z1c5 z23e Tryz.f65 0 [.d] [.d (.agg (enc Ty.rel r))]
def z31 (r:Rel) : Bool :=
 (!(r.op == 1) && !(r.table.toList == (ByteArray.mk #[]).toList)) || (!(r.op == 2) && decide (0<r.rows.length)) || (!(r.op == 3 || r.op == 4 || r.op == 5 || r.op == 6 || r.op == 7) && decide (0<r.terms.length)) ||
 (!(r.op == 7) && decide (0<r.aggs.length)) || (!(r.op == 12) && decide (0<r.keys.length)) || (!(r.op == 9 || r.op == 10 || r.op == 11) && r.all) || (!(r.op == 13) && (!(r.limit == 0) || !(r.skip == 0)))
theorem zsk {R:Bool→RF Un} (a p x:Bool) {X:Option (RF Un)} (h:X=some (R x)) : cndO a (cndO p (some (R true)) X) X=some (R ((a && p) || x)):=by subst h;cases a<;>cases p<;>cases x<;>rfl
def spX (g p:Bool) (X:Option (RF Un)) : Option (RF Un):=cndO g (cndO p (some (z8y true)) X) X
def spT (g1 g2 g3 g4 g5 g6 g7 tb rw_ tm ag ky al li sk:Bool) : Option (RF Un):=spX g1 tb (spX g2 rw_ (spX g3 tm (spX g4 ag (spX g5 ky (spX g6 al (cndO g7 (cndO li (some (z8y true)) (some (z8y sk))) (some (z8y false))))))))
theorem zbz (g1 g2 g3 g4 g5 g6 g7 tb rw_ tm ag ky al li sk:Bool) : spT g1 g2 g3 g4 g5 g6 g7 tb rw_ tm ag ky al li sk=some (z8y ((g1 && tb) || ((g2 && rw_) || ((g3 && tm) || ((g4 && ag) || ((g5 && ky) || ((g6 && al) || (g7 && (li || sk))))))))):=by
 have z:cndO g7 (cndO li (some (z8y true)) (some (z8y sk))) (some (z8y false))=some (z8y (g7 && (li || sk))):=by cases g7<;>cases li<;>rfl
 exact zsk _ _ _ (zsk _ _ _ (zsk _ _ _ (zsk _ _ _ (zsk _ _ _ (zsk _ _ _ z)))))
theorem z2j2 (table:ByteArray) (cols:List Col) (kids:List Rel) (terms:List Term) (aggs:List Agg) (keys:List By) (limit skip:Int) (all:Bool) (rows:List (List Val)) : z30 (.mk 1 table cols kids terms aggs keys limit skip all rows)=spT false true true true true true true (!(table.toList == (ByteArray.mk #[]).toList)) (decide ((rows.length:Int) > 0)) (decide ((terms.length:Int) > 0)) (decide ((aggs.length:Int) > 0)) (decide ((keys.length:Int) > 0)) all (limit != 0) (skip != 0):=by kernel_rfl
theorem z2j3 (table:ByteArray) (cols:List Col) (kids:List Rel) (terms:List Term) (aggs:List Agg) (keys:List By) (limit skip:Int) (all:Bool) (rows:List (List Val)) : z30 (.mk 2 table cols kids terms aggs keys limit skip all rows)=spT true false true true true true true (!(table.toList == (ByteArray.mk #[]).toList)) (decide ((rows.length:Int) > 0)) (decide ((terms.length:Int) > 0)) (decide ((aggs.length:Int) > 0)) (decide ((keys.length:Int) > 0)) all (limit != 0) (skip != 0):=by kernel_rfl
theorem z2j4 (table:ByteArray) (cols:List Col) (kids:List Rel) (terms:List Term) (aggs:List Agg) (keys:List By) (limit skip:Int) (all:Bool) (rows:List (List Val)) : z30 (.mk 3 table cols kids terms aggs keys limit skip all rows)=spT true true false true true true true (!(table.toList == (ByteArray.mk #[]).toList)) (decide ((rows.length:Int) > 0)) (decide ((terms.length:Int) > 0)) (decide ((aggs.length:Int) > 0)) (decide ((keys.length:Int) > 0)) all (limit != 0) (skip != 0):=by kernel_rfl
theorem z2j5 (table:ByteArray) (cols:List Col) (kids:List Rel) (terms:List Term) (aggs:List Agg) (keys:List By) (limit skip:Int) (all:Bool) (rows:List (List Val)) : z30 (.mk 4 table cols kids terms aggs keys limit skip all rows)=spT true true false true true true true (!(table.toList == (ByteArray.mk #[]).toList)) (decide ((rows.length:Int) > 0)) (decide ((terms.length:Int) > 0)) (decide ((aggs.length:Int) > 0)) (decide ((keys.length:Int) > 0)) all (limit != 0) (skip != 0):=by kernel_rfl
theorem z2j6 (table:ByteArray) (cols:List Col) (kids:List Rel) (terms:List Term) (aggs:List Agg) (keys:List By) (limit skip:Int) (all:Bool) (rows:List (List Val)) : z30 (.mk 5 table cols kids terms aggs keys limit skip all rows)=spT true true false true true true true (!(table.toList == (ByteArray.mk #[]).toList)) (decide ((rows.length:Int) > 0)) (decide ((terms.length:Int) > 0)) (decide ((aggs.length:Int) > 0)) (decide ((keys.length:Int) > 0)) all (limit != 0) (skip != 0):=by kernel_rfl
theorem z2j7 (table:ByteArray) (cols:List Col) (kids:List Rel) (terms:List Term) (aggs:List Agg) (keys:List By) (limit skip:Int) (all:Bool) (rows:List (List Val)) : z30 (.mk 6 table cols kids terms aggs keys limit skip all rows)=spT true true false true true true true (!(table.toList == (ByteArray.mk #[]).toList)) (decide ((rows.length:Int) > 0)) (decide ((terms.length:Int) > 0)) (decide ((aggs.length:Int) > 0)) (decide ((keys.length:Int) > 0)) all (limit != 0) (skip != 0):=by kernel_rfl
theorem z2j8 (table:ByteArray) (cols:List Col) (kids:List Rel) (terms:List Term) (aggs:List Agg) (keys:List By) (limit skip:Int) (all:Bool) (rows:List (List Val)) : z30 (.mk 7 table cols kids terms aggs keys limit skip all rows)=spT true true false false true true true (!(table.toList == (ByteArray.mk #[]).toList)) (decide ((rows.length:Int) > 0)) (decide ((terms.length:Int) > 0)) (decide ((aggs.length:Int) > 0)) (decide ((keys.length:Int) > 0)) all (limit != 0) (skip != 0):=by kernel_rfl
theorem z2j9 (table:ByteArray) (cols:List Col) (kids:List Rel) (terms:List Term) (aggs:List Agg) (keys:List By) (limit skip:Int) (all:Bool) (rows:List (List Val)) : z30 (.mk 8 table cols kids terms aggs keys limit skip all rows)=spT true true true true true true true (!(table.toList == (ByteArray.mk #[]).toList)) (decide ((rows.length:Int) > 0)) (decide ((terms.length:Int) > 0)) (decide ((aggs.length:Int) > 0)) (decide ((keys.length:Int) > 0)) all (limit != 0) (skip != 0):=by kernel_rfl
theorem z2ja (table:ByteArray) (cols:List Col) (kids:List Rel) (terms:List Term) (aggs:List Agg) (keys:List By) (limit skip:Int) (all:Bool) (rows:List (List Val)) : z30 (.mk 9 table cols kids terms aggs keys limit skip all rows)=spT true true true true true false true (!(table.toList == (ByteArray.mk #[]).toList)) (decide ((rows.length:Int) > 0)) (decide ((terms.length:Int) > 0)) (decide ((aggs.length:Int) > 0)) (decide ((keys.length:Int) > 0)) all (limit != 0) (skip != 0):=by kernel_rfl
theorem z2hc (table:ByteArray) (cols:List Col) (kids:List Rel) (terms:List Term) (aggs:List Agg) (keys:List By) (limit skip:Int) (all:Bool) (rows:List (List Val)) : z30 (.mk 10 table cols kids terms aggs keys limit skip all rows)=spT true true true true true false true (!(table.toList == (ByteArray.mk #[]).toList)) (decide ((rows.length:Int) > 0)) (decide ((terms.length:Int) > 0)) (decide ((aggs.length:Int) > 0)) (decide ((keys.length:Int) > 0)) all (limit != 0) (skip != 0):=by kernel_rfl
theorem z2hd (table:ByteArray) (cols:List Col) (kids:List Rel) (terms:List Term) (aggs:List Agg) (keys:List By) (limit skip:Int) (all:Bool) (rows:List (List Val)) : z30 (.mk 11 table cols kids terms aggs keys limit skip all rows)=spT true true true true true false true (!(table.toList == (ByteArray.mk #[]).toList)) (decide ((rows.length:Int) > 0)) (decide ((terms.length:Int) > 0)) (decide ((aggs.length:Int) > 0)) (decide ((keys.length:Int) > 0)) all (limit != 0) (skip != 0):=by kernel_rfl
theorem z2he (table:ByteArray) (cols:List Col) (kids:List Rel) (terms:List Term) (aggs:List Agg) (keys:List By) (limit skip:Int) (all:Bool) (rows:List (List Val)) : z30 (.mk 12 table cols kids terms aggs keys limit skip all rows)=spT true true true true false true true (!(table.toList == (ByteArray.mk #[]).toList)) (decide ((rows.length:Int) > 0)) (decide ((terms.length:Int) > 0)) (decide ((aggs.length:Int) > 0)) (decide ((keys.length:Int) > 0)) all (limit != 0) (skip != 0):=by kernel_rfl
theorem z2hf (table:ByteArray) (cols:List Col) (kids:List Rel) (terms:List Term) (aggs:List Agg) (keys:List By) (limit skip:Int) (all:Bool) (rows:List (List Val)) : z30 (.mk 13 table cols kids terms aggs keys limit skip all rows)=spT true true true true true true false (!(table.toList == (ByteArray.mk #[]).toList)) (decide ((rows.length:Int) > 0)) (decide ((terms.length:Int) > 0)) (decide ((aggs.length:Int) > 0)) (decide ((keys.length:Int) > 0)) all (limit != 0) (skip != 0):=by kernel_rfl
def zsl (r:Rel) : Prop:=0≤z3k r.op
theorem z1p9 (r:Rel) (_hr:WS .rel r) (h:zsl r) : z30 r=some (z8y (z31 r)):=by
 have hop:r.op=1∨r.op=2∨r.op=3∨r.op=4∨r.op=5∨r.op=6∨r.op=7∨r.op=8∨r.op=9∨r.op=10∨r.op=11∨r.op=12∨r.op=13:=by
  grind [zsl,z3k]
 cases r with
 | mk op table cols kids terms aggs keys limit skip all rows =>
  rcases hop with rfl | rfl | rfl | rfl | rfl | rfl | rfl | rfl | rfl | rfl | rfl | rfl | rfl
  ·rw[z2j2,zbz];unfold z31;simp;grind
  ·rw[z2j3,zbz];unfold z31;simp;grind
  ·rw[z2j4,zbz];unfold z31;simp;grind
  ·rw[z2j5,zbz];unfold z31;simp;grind
  ·rw[z2j6,zbz];unfold z31;simp;grind
  ·rw[z2j7,zbz];unfold z31;simp;grind
  ·rw[z2j8,zbz];unfold z31;simp;grind
  ·rw[z2j9,zbz];unfold z31;simp;grind
  ·rw[z2ja,zbz];unfold z31;simp;grind
  ·rw[z2hc,zbz];unfold z31;simp;grind
  ·rw[z2hd,zbz];unfold z31;simp;grind
  ·rw[z2he,zbz];unfold z31;simp;grind
  ·rw[z2hf,zbz];unfold z31;simp;grind
def z1cn : FnC Un:=fnF1 (dS .rel) fun r=>([zsl r],z8y (z31 r))
theorem z1z2 : FnOK 65 z1cn:=fnK1 zo (M:=z1c5) rfl trivial trivial trivial trivial trivial Tryz.func65 fun r=>GiF.r fun w o=>z1p9 r (wfA_ w 0) (obA_ o 0)
def zte (t:Term) (env:List Int) : Bool:=(zhb t).2.2 && decide (¬ (t.kids.length:Int)<(zhb t).1) && decide (¬ (t.kids.length:Int) > (zhb t).2.1) && decide ((t.sub.length:Int)=zja t) && zsj t env
def zyx (r:Rel) : Bool:=decide (¬ z3k r.op<0) && decide ((r.kids.length:Int)=z3k r.op) && !z31 r
def z1a7 (a:Agg) : Bool:=((a.name.toList == (ByteArray.mk #[99,111,117,110,116]).toList) || (a.name.toList == (ByteArray.mk #[115,117,109]).toList) || (a.name.toList == (ByteArray.mk #[109,105,110]).toList) || (a.name.toList == (ByteArray.mk #[109,97,120]).toList)) && decide (a.t.length≤1) && (decide (a.t.length≠0) || ((a.name.toList == (ByteArray.mk #[99,111,117,110,116]).toList) && !a.distinct))
mutual
def zdl : Term→List Int→Bool
 | .mk op v depth at_ name kids sub type,env=>zte (.mk op v depth at_ name kids sub type) env && z50 kids env && (decide (sub.length≠1) || (zdm sub env && (op == 27 || z27 (sub.getD 0 z8) == 1)))
def z50 : List Term→List Int→Bool
 | [],_=>true
 | t::l,env=>zdl t env && z50 l env
def z1a8 : Agg→List Int→Bool
 | .mk name distinct t,env=>z1a7 (.mk name distinct t) && z50 t env
def zyy : List Agg→List Int→Bool
 | [],_=>true
 | a::l,env=>z1a8 a env && zyy l env
def zkg : Rel→List Int→Bool
  | .mk op table cols kids terms aggs keys limit skip all rows,env=>zyx (.mk op table cols kids terms aggs keys limit skip all rows) && zdm kids env && decide ((cols.length:Int)=z27 (.mk op table cols kids terms aggs keys limit skip all rows)) &&
    (if op=1 then !(table.toList == (ByteArray.mk #[]).toList)
     else if op=2 then zmu rows cols.length
     else if op=3∨op=6 then decide (terms.length=1) && z50 terms (z8r (.mk op table cols kids terms aggs keys limit skip all rows)::env)
     else if op=4 then z50 terms (z8r (.mk op table cols kids terms aggs keys limit skip all rows)::env)
     else if op=5 then decide (terms.length≤1) && z50 terms (z8r (.mk op table cols kids terms aggs keys limit skip all rows)::env)
     else if op=7 then z50 terms (z8r (.mk op table cols kids terms aggs keys limit skip all rows)::env) && zyy aggs (z8r (.mk op table cols kids terms aggs keys limit skip all rows)::env)
     else if op=9∨op=10∨op=11 then z27 (kids.getD 0 z8) == z27 (kids.getD 1 z8)
     else if op=12 then ztd keys (z27 (.mk op table cols kids terms aggs keys limit skip all rows))
     else if op=13 then decide (-1≤limit∧limit≤1000000000000000∧0≤skip∧skip≤1000000000000000)
     else true)
def zdm : List Rel→List Int→Bool
 | [],_=>true
 | r::l,env=>zkg r env && zdm l env
end
def zdn (r:Rel) (env:List Int) : Bool :=
 if r.op=1 then !(r.table.toList == (ByteArray.mk #[]).toList)
 else if r.op=2 then zmu r.rows r.cols.length
 else if r.op=3∨r.op=6 then decide (r.terms.length=1) && z50 r.terms (z8r r::env)
 else if r.op=4 then z50 r.terms (z8r r::env)
 else if r.op=5 then decide (r.terms.length≤1) && z50 r.terms (z8r r::env)
 else if r.op=7 then z50 r.terms (z8r r::env) && zyy r.aggs (z8r r::env)
 else if r.op=9∨r.op=10∨r.op=11 then z27 (r.kids.getD 0 z8) == z27 (r.kids.getD 1 z8)
 else if r.op=12 then ztd r.keys (z27 r)
 else if r.op=13 then decide (-1≤r.limit∧r.limit≤1000000000000000∧0≤r.skip∧r.skip≤1000000000000000)
 else true
theorem z1t4 (t:Term) (env:List Int) : zdl t env=(zte t env && z50 t.kids env && (decide (t.sub.length≠1) || (zdm t.sub env && (t.op == 27 || z27 (t.sub.getD 0 z8) == 1)))):=by cases t;rfl
theorem z1z3 (a:Agg) (env:List Int) : z1a8 a env=(z1a7 a && z50 a.t env):=by cases a;rfl
theorem z1z4 (r:Rel) (env:List Int) : zkg r env=(zyx r && zdm r.kids env && decide ((r.cols.length:Int)=z27 r) && zdn r env):=by cases r;rfl
theorem zdz : ∀ (l:List Term) (env:List Int),z50 l env=l.all fun t=>zdl t env
 | [],_=>rfl
 | t::l,env=>by simp only[z50,y1h,zdz l env]
theorem z11p : ∀ (l:List Agg) (env:List Int),zyy l env=l.all fun t=>z1a8 t env
 | [],_=>rfl
 | t::l,env=>by simp only[zyy,y1h,z11p l env]
theorem zrk : ∀ (l:List Rel) (env:List Int),zdm l env=l.all fun t=>zkg t env
 | [],_=>rfl
 | t::l,env=>by simp only[zdm,y1h,zrk l env]
def z164 (r:Rel) : Prop:=(r.op=9∨r.op=10∨r.op=11)→2≤r.kids.length
def z9z (t:Term) (env:List Int) : Bool:=zdl t env
def zc0 (l:List Term) (env:List Int) : Bool:=z50 l env
def z11q (l:List Agg) (env:List Int) : Bool:=zyy l env
def z1fu (r:Rel) (env:List Int) : Bool:=zdn r env
def z9f (r:Rel) (env:List Int) : Bool:=zkg r env
def znr (m:Nat) : FnC Un:=fnF2 (dS .term) (dL .int) fun t env=>z2l (3*t.ht) m ([z2m env t.ht],z8y (z9z t env))
def zrl (m:Nat) : FnC Un:=fnF2 (dL .term) (dL .int) fun l env=>z2l (3*htTs l+1) m ([z2m env (htTs l)],z8y (zc0 l env))
def zxd (m:Nat) : FnC Un:=fnF2 (dL .agg) (dL .int) fun l env=>z2l (3*htAs l) m ([z2m env (htAs l)],z8y (z11q l env))
def zxe (m:Nat) : FnC Un:=fnF2 (dS .rel) (dL .int) fun r env=>z2l (3*r.ht+1) m ([z2m env r.ht,z164 r],z8y (z1fu r env))
def zrm (m:Nat) : FnC Un:=fnF2 (dS .rel) (dL .int) fun r env=>z2l (3*r.ht+2) m ([z2m env r.ht],z8y (z9f r env))
def zrn (m:Nat) : Mc Un:=mcF_ [(56,z1yy),(57,z1jg),(58,z1t2),(18,znr m),(33,zrm m),(19,zbk)] [] [] [] []
def z11r : Nat→NS:=nsF_ [(5,{ ts:=bl 83 278,bs:=bl 83 4,nm:=[],cs:=true })] true
def z7i (t:Term) (env:List Int) (v0:Int) : S Un:=(st 83 83 332 0 [(1,al .int env),(2,ax 2),(4,ab false),(8,ai v0)] [(2,bg .term t)] [])
def zns (m:Nat) : S Un→Option (EX Un):=lpF_ (zrn m) z11r Tryz.f18 [1,1,1,0,1,2,2] 5
def zhc (m:Nat) : Exit→S Un→Option (RF Un):=cxF_ (zrn m) z11r Tryz.f18 [1,1,1,0,1,2] [.d]
def z1co (m:Nat) (t:Term) (env:List Int) : Option (RF Un):=fnF_ (zrn m) z11r Tryz.f18 0 [.d] [.d (.agg (enc Ty.term t)),.d (.v (.dat (U:=Un) Ty.int env))]
theorem z23o (m:Nat) (t:Term) (env:List Int) : z1co m t env=cndO (!(zhb (Term.ids t)).snd.snd) (some (z8y (false))) (cndO (decide ((↑t.kids.length:Int)<(zhb (Term.ids t)).fst)) (some (z8y (false))) (cndO (decide ((↑t.kids.length:Int) > (zhb (Term.ids t)).snd.fst)) (some (z8y (false))) (cndO ((↑t.sub.length:Int) != zja (Term.ids t)) (some (z8y (false))) (cndO (!zsj (Term.ids t) env) (some (z8y (false))) ((zns m (z7i t env (0:Int))).bind (zb (zhc m))))))):=by kernel_rfl
theorem z1cp (m:Nat) (t:Term) (env:List Int) (v0:Int) : zns m (z7i t env v0)=cndO (decide (v0<(↑t.kids.length:Int))) (obO (0≤v0∧v0<(↑t.kids.length:Int)) (obO ((3:Nat)*(Term.ids (t.kids.getD v0.toNat za)).ht<m) (obO (z2m env (Term.ids (t.kids.getD v0.toNat za)).ht) (cndO (!z9z (Term.ids (t.kids.getD v0.toNat za)) env) (some (.ret,(z7i t env v0))) (zns m (z7i t env (IntKind.i64.wrap (v0+1)))))))) (some (.exit 0,(z7i t env v0))):=lpQ_ (by kernel_rfl)
theorem z1jn (m:Nat) (t:Term) (env:List Int) (v0:Int) : zhc m .ret (z7i t env v0)=some (z8y (false)):=by kernel_rfl
theorem z1pa (m:Nat) (t:Term) (env:List Int) (v0:Int) : zhc m (.exit 0) (z7i t env v0)=cndO ((↑t.sub.length:Int) == (1:Int)) (obO ((0:Int)≤(0:Int)∧(0:Int)<(↑t.sub.length:Int)) (obO ((3:Nat)*(Rel.ids (t.sub.getD 0 z8)).ht+(2:Nat)<m) (obO (z2m env (Rel.ids (t.sub.getD 0 z8)).ht) (cndO (z9f (Rel.ids (t.sub.getD 0 z8)) env) (cndO (t.op == 27) (some (z8y (true))) (obO ((0:Int)≤(0:Int)∧(0:Int)<(↑t.sub.length:Int)) (some (z8y (z2j (Rel.ids (t.sub.getD 0 z8)) == 1))))) (some (z8y (false))))))) (some (z8y (true))):=by kernel_rfl
theorem z23p (m:Nat) (t:Term) (env:List Int) (hm:3*t.ht<m+1) (h:env.length+t.ht≤8000000) (i:Int) : zhc m (.exit 0) (z7i t env i)=some (z8y (decide (t.sub.length≠1) || (zdm t.sub env && (t.op == 27 || z27 (t.sub.getD 0 z8) == 1)))):=by
 rw[z1pa,z7];by_cases h1 : t.sub.length=1
 ·obtain⟨s,hs⟩ : ∃ s,t.sub=[s]:=by
   match hk : t.sub,h1 with
   | [s],_=>simp
  have hht:s.ht<t.ht:=Term.ht_sub (by grind);have hg:t.sub.getD 0 z8=s:=by grind
  rw[if_pos (by grind),hg,decide_eq_false (fun e=>e h1),y3m];simp only[Rel.ids_eq];rw[z6 (by omega),z6 (by omega),z6 (show z2m env s.ht by grind [z2m])];have hr:zdm t.sub env=z9f s env:=by rw[hs];simp only[zdm,Bool.and_true];rfl
  rw[hr,z9y];cases z9f s env
  ·rfl
  ·rw[z7,if_pos rfl,y1c,z7];cases t.op == 27
   all_goals simp_all [if_neg,z6,y3m]
 grind
theorem z1v5 (m:Nat) (t:Term) (env:List Int) (_ht:WS .term t) (_he:WL .int env) (hm:3*t.ht<m+1) (h:z2m env t.ht) : z1co m t env=some (z8y (z9z t env)):=by
 have hk:WL .term t.kids:=_ht.term_kids
 have lp:=z2s (L:=zns m) (st:=fun i=>z7i t env i) (C:=zhc m) (e:=.exit 0) (fun b=>some (z8y (b && (decide (t.sub.length≠1) || (zdm t.sub env && (t.op == 27 || z27 (t.sub.getD 0 z8) == 1)))))) (d:=za) (fun k=>z9z k env) hk.len
  (fun i x hi hx hmem=>by
   have hht:=Term.ht_kid hmem;rw[z1cp];simp only[z7,hi,decide_true,if_true,and_true,y5,hx,Term.ids_eq]
   grind [z6,z2m,z9z])
  (by rw[z1cp];simp [z7]) (fun i=>by rw[z1jn,y1w]) (fun i=>by rw[z23p m t env hm h,y1c])
 have e:z9z t env=(zte t env && (t.kids.all (fun k=>z9z k env) && (decide (t.sub.length≠1) || (zdm t.sub env && (t.op == 27 || z27 (t.sub.getD 0 z8) == 1))))):=by
  show zdl t env=_;rw[z1t4,zdz,y3n];rfl
 rw[z23o,e];simp only[Term.ids_eq];unfold zte;generalize zhb t=o;cases o.2.2
 ·rfl
 simp only[z7,decide_eq_true_eq,y46,y1c];grind
abbrev zjs (m:Nat) : Prop:=FnOK 18 (znr m)∧FnOK 114 (zrl m)∧FnOK 115 (zxd m)∧FnOK 66 (zxe m)∧FnOK 33 (zrm m)
theorem z1z5 (m:Nat) (hG:zjs m) : FnOK 18 (znr (m+1)):=fnK2 zo zw (M:=(zrn m)) rfl ⟨z2bb,z23h,z27p,hG.1,hG.2.2.2.2,zf4,trivial⟩ trivial trivial trivial trivial Tryz.func18 fun t env=>GiF.r fun w o=>z1v5 m t env (wfA_ w 0) (wfA_ w 1) (obA_ o 0) (obA_ o 1)
def zvc (m:Nat) : Mc Un:=mcF_ [(18,znr m)] [] [] [] []
def z165 : Nat→NS:=nsF_ [(2,{ ts:=bl 19 51,bs:=bl 19 0,nm:=[],cs:=true })] true
def zb0 (l:List Term) (env:List Int) (v0:Int) : S Un:=(st 19 19 76 0 [(0,al .term l),(1,al .int env),(4,ab false),(5,ai v0)] [] [])
def zro (m:Nat) : S Un→Option (EX Un):=lpF_ (zvc m) z165 Tryz.f114 [1,0,1,2,2] 2
def z11s (m:Nat) : Exit→S Un→Option (RF Un):=cxF_ (zvc m) z165 Tryz.f114 [1,0,1,2] [.d]
def z1jo (m:Nat) (l:List Term) (env:List Int) : Option (RF Un):=fnF_ (zvc m) z165 Tryz.f114 0 [.d] [.d (.v (.dat (U:=Un) Ty.term l)),.d (.v (.dat (U:=Un) Ty.int env))]
theorem z27r (m:Nat) (l:List Term) (env:List Int) : z1jo m l env=(zro m (zb0 l env (0:Int))).bind (zb (z11s m)):=by kernel_rfl
theorem z1jp (m:Nat) (l:List Term) (env:List Int) (v0:Int) : zro m (zb0 l env v0)=cndO (decide (v0<(↑l.length:Int))) (obO (0≤v0∧v0<(↑l.length:Int)) (obO ((3:Nat)*(Term.ids (l.getD v0.toNat za)).ht<m) (obO (z2m env (Term.ids (l.getD v0.toNat za)).ht) (cndO (!z9z (Term.ids (l.getD v0.toNat za)) env) (some (.ret,(zb0 l env v0))) (zro m (zb0 l env (IntKind.i64.wrap (v0+1)))))))) (some (.exit 0,(zb0 l env v0))):=lpQ_ (by kernel_rfl)
theorem z1pb (m:Nat) (l:List Term) (env:List Int) (v0:Int) : z11s m .ret (zb0 l env v0)=some (z8y (false)):=by kernel_rfl
theorem z1v6 (m:Nat) (l:List Term) (env:List Int) (v0:Int) : z11s m (.exit 0) (zb0 l env v0)=some (z8y (true)):=by kernel_rfl
theorem z1z6 (m:Nat) (l:List Term) (env:List Int) (hl:WL .term l) (_he:WL .int env) (hm:3*htTs l+1<m+1) (h:z2m env (htTs l)) : z1jo m l env=some (z8y (zc0 l env)):=by
 have e:zc0 l env=l.all fun t=>z9z t env:=zdz l env;rw[z27r,e]
 exact z2s (L:=zro m) (st:=fun i=>zb0 l env i) (fun b=>some (z8y b)) (d:=za) (fun t=>z9z t env) hl.len
  (fun i x hi hx hmem=>by
   have hht:=zbf hmem;rw[z1jp];simp only[z7,hi,decide_true,if_true,and_true,y5,hx,Term.ids_eq]
   grind [z6,z2m,z9z])
  (by rw[z1jp];simp [z7]) (fun i=>z1pb _ _ _ _) (fun i=>z1v6 _ _ _ _)
theorem z23q (m:Nat) (hG:zjs m) : FnOK 114 (zrl (m+1)):=fnK2 zw zw (M:=(zvc m)) rfl ⟨hG.1,trivial⟩ trivial trivial trivial trivial Tryz.func114 fun l env=>GiF.r fun w o=>z1z6 m l env (wfA_ w 0) (wfA_ w 1) (obA_ o 0) (obA_ o 1)
def zrp (m:Nat) : Mc Un:=mcF_ [(114,zrl m)] [] [] [] []
def z11t : Nat→NS:=nsF_ [(2,{ ts:=bl 61 51,bs:=bl 61 0,nm:=[],cs:=true })] true
def z3l (l:List Agg) (env:List Int) (v0:Int) : S Un:=(st 61 61 244 0 [(0,al .agg l),(1,al .int env),(4,ab false),(5,ai v0)] [] [])
def zhd (m:Nat) : S Un→Option (EX Un):=lpF_ (zrp m) z11t Tryz.f115 [1,0,1,2,2] 2
def zxf (m:Nat) : Exit→S Un→Option (RF Un):=cxF_ (zrp m) z11t Tryz.f115 [1,0,1,2] [.d]
def z1cq (m:Nat) (l:List Agg) (env:List Int) : Option (RF Un):=fnF_ (zrp m) z11t Tryz.f115 0 [.d] [.d (.v (.dat (U:=Un) Ty.agg l)),.d (.v (.dat (U:=Un) Ty.int env))]
theorem z23r (m:Nat) (l:List Agg) (env:List Int) : z1cq m l env=(zhd m (z3l l env (0:Int))).bind (zb (zxf m)):=by kernel_rfl
def znt (m:Nat) (l:List Agg) (env:List Int) (v0:Int) : Option (EX Un):=obO ((3:Nat)*htTs (Agg.t (l.getD v0.toNat zn))+(1:Nat)<m) (obO (z2m env (htTs (Agg.t (l.getD v0.toNat zn)))) (cndO (!zc0 (Agg.t (l.getD v0.toNat zn)) env) (some (.ret,(z3l l env v0))) (zhd m (z3l l env (IntKind.i64.wrap (v0+1))))))
def zhe (m:Nat) (l:List Agg) (env:List Int) (v0:Int) : Option (EX Un):=cndO (decide ((↑(Agg.t (l.getD v0.toNat zn)).length:Int) > (1:Int))) (some (.ret,(z3l l env v0))) (cndO ((↑(Agg.t (l.getD v0.toNat zn)).length:Int) == (0:Int)) (cndO (!(Agg.name (l.getD v0.toNat zn)).toList == (ByteArray.mk #[99,111,117,110,116]).toList) (some (.ret,(z3l l env v0))) (cndO (Agg.distinct (l.getD v0.toNat zn)) (some (.ret,(z3l l env v0))) (znt m l env v0))) (znt m l env v0))
theorem z1cr (m:Nat) (l:List Agg) (env:List Int) (v0:Int) : zhd m (z3l l env v0)=cndO (decide (v0<(↑l.length:Int))) (obO (0≤v0∧v0<(↑l.length:Int)) (cndO (!(Agg.name (l.getD v0.toNat zn)).toList == (ByteArray.mk #[99,111,117,110,116]).toList) (cndO (!(Agg.name (l.getD v0.toNat zn)).toList == (ByteArray.mk #[115,117,109]).toList) (cndO (!(Agg.name (l.getD v0.toNat zn)).toList == (ByteArray.mk #[109,105,110]).toList) (cndO (!(Agg.name (l.getD v0.toNat zn)).toList == (ByteArray.mk #[109,97,120]).toList) (some (.ret,(z3l l env v0))) (zhe m l env v0)) (zhe m l env v0)) (zhe m l env v0)) (zhe m l env v0))) (some (.exit 0,(z3l l env v0))):=lpQ_ (by kernel_rfl)
theorem z1jq (m:Nat) (l:List Agg) (env:List Int) (v0:Int) : zxf m .ret (z3l l env v0)=some (z8y (false)):=by kernel_rfl
theorem z1pc (m:Nat) (l:List Agg) (env:List Int) (v0:Int) : zxf m (.exit 0) (z3l l env v0)=some (z8y (true)):=by kernel_rfl
theorem z1v7 (m:Nat) (l:List Agg) (env:List Int) (hl:WL .agg l) (_he:WL .int env) (hm:3*htAs l<m+1) (h:z2m env (htAs l)) : z1cq m l env=some (z8y (z11q l env)):=by
 have e:z11q l env=l.all fun t=>z1a8 t env:=z11p l env;rw[z23r,e]
 exact z2s (L:=zhd m) (st:=fun i=>z3l l env i) (fun b=>some (z8y b)) (d:=zn) (fun t=>z1a8 t env) hl.len
  (fun i x hi hx hmem=>by
   have hht:=z11h hmem;have hax:x.ht=htTs x.t+1:=by cases x;rfl
   have key:znt m l env (i:Int)=if zc0 x.t env=true then zhd m (z3l l env (IntKind.i64.wrap ((i:Int)+1))) else some (.ret,z3l l env (i:Int)):=by
    unfold znt;grind [Int.toNat_natCast,z6,z2m,htTs,z7,zc0]
   have e2:z1a8 x env=(z1a7 x && zc0 x.t env):=z1z3 x env;rw[z1cr,e2];unfold zhe;simp only[y5,hx,key];unfold z1a7;generalize zc0 x.t env=q;generalize (x.name.toList == (ByteArray.mk #[99,111,117,110,116]).toList)=n1;generalize (x.name.toList == (ByteArray.mk #[115,117,109]).toList)=n2;generalize (x.name.toList == (ByteArray.mk #[109,105,110]).toList)=n3;generalize (x.name.toList == (ByteArray.mk #[109,97,120]).toList)=n4;rw[z7,if_pos (decide_eq_true hi),z6 (by omega)];by_cases c1 : x.t.length≤1
   ·have d1:decide ((x.t.length:Int) > 1)=false:=decide_eq_false (by omega);rw[d1,decide_eq_true c1];by_cases c0 : x.t.length=0
    ·have d0:((x.t.length:Int) == 0)=true:=by grind
     rw[d0,decide_eq_false (fun e=>e c0)];cases n1<;>cases n2<;>cases n3<;>cases n4<;>cases x.distinct<;>cases q<;>rfl
    ·have d0:((x.t.length:Int) == 0)=false:=by grind
     rw[d0,decide_eq_true c0];cases n1<;>cases n2<;>cases n3<;>cases n4<;>cases q<;>rfl
   ·have d1:decide ((x.t.length:Int) > 1)=true:=decide_eq_true (by omega);rw[d1,decide_eq_false c1]
    cases n1<;>cases n2<;>cases n3<;>cases n4<;>rfl)
  (by rw[z1cr];simp [z7]) (fun i=>z1jq _ _ _ _) (fun i=>z1pc _ _ _ _)
theorem z1z7 (m:Nat) (hG:zjs m) : FnOK 115 (zxd (m+1)):=fnK2 zw zw (M:=(zrp m)) rfl ⟨hG.2.1,trivial⟩ trivial trivial trivial trivial Tryz.func115 fun l env=>GiF.r fun w o=>z1v7 m l env (wfA_ w 0) (wfA_ w 1) (obA_ o 0) (obA_ o 1)
def z1jr (m:Nat) : Mc Un:=mcF_ [(112,z1z1),(113,z1jk),(114,zrl m),(115,zxd m),(19,zbk),(116,z1jm)] [] [] [] []
def z1cs (m:Nat) (r:Rel) (env:List Int) : Option (RF Un):=fnF_ (z1jr m) z23e Tryz.f66 0 [.d] [.d (.agg (enc Ty.rel r)),.d (.v (.dat (U:=Un) Ty.int env))]
def zhf (m:Nat) (r:Rel) (env:List Int) : Option (RF Un):=obO ((3:Nat)*htTs r.terms+(1:Nat)<m) (obO (z2m (zaz (Rel.ids r) env) (htTs r.terms)) (some (z8y (zc0 r.terms (zaz (Rel.ids r) env)))))
def zxg (m:Nat) (r:Rel) (env:List Int) : Option (RF Un):=cndO ((↑r.terms.length:Int) == (1:Int)) (zhf m r env) (some (z8y (false)))
def znu (r:Rel) : Option (RF Un):=obO ((0:Int)≤(0:Int)∧(0:Int)<(↑r.kids.length:Int)) (obO ((0:Int)≤(1:Int)∧(1:Int)<(↑r.kids.length:Int)) (some (z8y (z2j (Rel.ids (r.kids.getD 0 z8)) == z2j (Rel.ids (r.kids.getD 1 z8))))))
theorem z23s (m:Nat) (r:Rel) (env:List Int) : z1cs m r env=obO (z2m env (1:Nat)) (cndO (r.op == 1) (some (z8y (!r.table.toList == (ByteArray.mk #[]).toList))) (cndO (r.op == 2) (some (z8y (zmu r.rows (↑r.cols.length:Int)))) (cndO (r.op == 3) (zxg m r env) (cndO (r.op == 6) (zxg m r env) (cndO (r.op == 4) (zhf m r env) (cndO (r.op == 5) (cndO (decide ((↑r.terms.length:Int)≤(1:Int))) (zhf m r env) (some (z8y (false)))) (cndO (r.op == 7) (obO ((3:Nat)*htTs r.terms+(1:Nat)<m) (obO (z2m (zaz (Rel.ids r) env) (htTs r.terms)) (cndO (zc0 r.terms (zaz (Rel.ids r) env)) (obO ((3:Nat)*htAs r.aggs<m) (obO (z2m (zaz (Rel.ids r) env) (htAs r.aggs)) (some (z8y (z11q r.aggs (zaz (Rel.ids r) env)))))) (some (z8y (false)))))) (cndO (r.op == 9) (znu r) (cndO (r.op == 10) (znu r) (cndO (r.op == 11) (znu r) (cndO (r.op == 12) (some (z8y (ztd r.keys (z2j (Rel.ids r))))) (cndO (r.op == 13) (cndO (decide (r.limit≥(-1:Int))) (cndO (decide (r.limit≤1000000000000000)) (cndO (decide (r.skip≥0)) (some (z8y (decide (r.skip≤1000000000000000)))) (some (z8y (false)))) (some (z8y (false)))) (some (z8y (false)))) (some (z8y (true))))))))))))))):=by kernel_rfl
theorem z1v8 (m:Nat) (r:Rel) (env:List Int) (_hr:WS .rel r) (_he:WL .int env) (hm:3*r.ht+1<m+1) (h:z2m env r.ht) (hk:z164 r) : z1cs m r env=some (z8y (z1fu r env)):=by
 have hh:htTs r.terms+1≤r.ht∧htAs r.aggs+1≤r.ht:=by cases r;grind [Rel.ht,Rel.terms_mk,Rel.aggs_mk]
 have o1:z2m env 1:=by grind [z2m]
 have o2:z2m (zaz r env) (htTs r.terms):=by grind [z2m,zaz,List.length_cons]
 have o3:z2m (zaz r env) (htAs r.aggs):=by grind [z2m,zaz,List.length_cons]
 have t1:zhf m r env=some (z8y (z50 r.terms (z8r r::env))):=by
  unfold zhf;simp only[Rel.ids_eq];rw[z6 (by omega),z6 o2];rfl
 rw[z23s,z6 o1];unfold zxg znu;simp only[zyw,Rel.ids_eq,z9y];simp only[z7,y1g,beq_iff_eq,decide_eq_true_eq];show _=some (z8y (zdn r env));unfold zdn;by_cases h1 : r.op=1
 ·grind
 rw[if_neg h1,if_neg h1];by_cases h2 : r.op=2
 ·grind
 rw[if_neg h2,if_neg h2];by_cases h3 : r.op=3∨r.op=6
 ·by_cases hl : r.terms.length=1
  all_goals grind
 rw[if_neg (by omega),if_neg h3];by_cases h4 : r.op=4
 ·grind
 rw[if_neg h4,if_neg h4];by_cases h5 : r.op=5
 ·grind
 rw[if_neg h5,if_neg h5];by_cases h7 : r.op=7
 ·rw[if_pos h7,if_pos h7,z6 (by omega),z6 o2];have e:zc0 r.terms (zaz r env)=z50 r.terms (z8r r::env):=rfl;rw[e];cases z50 r.terms (z8r r::env)
  ·rfl
  ·rw[if_pos rfl,z6 (by omega),z6 o3];rfl
 rw[if_neg h7,if_neg h7];by_cases h9 : r.op=9∨r.op=10∨r.op=11
 ·have:=hk h9;rw[if_pos (by omega),if_pos h9,z6 (by omega),z6 (by omega)]
 grind
theorem z1z8 (m:Nat) (hG:zjs m) : FnOK 66 (zxe (m+1)):=fnK2 zo zw (M:=(z1jr m)) rfl ⟨z2be,z23k,hG.2.1,hG.2.2.1,zf4,z23m,trivial⟩ trivial trivial trivial trivial Tryz.func66 fun r env=>GiF.r fun w o=>z1v8 m r env (wfA_ w 0) (wfA_ w 1) (obA_ o 0) (obA_ o 1) (obA_ o 2)
def zvd (m:Nat) : Mc Un:=mcF_ [(59,z11m),(65,z1cn),(33,zrm m),(19,zbk),(66,zxe m)] [] [] [] []
def z166 : Nat→NS:=nsF_ [(4,{ ts:=bl 49 54,bs:=bl 49 4,nm:=[],cs:=true })] true
def z8s (r:Rel) (env:List Int) (v0:Int) : S Un:=(st 49 49 196 0 [(1,al .int env),(2,ax 2),(4,ab false),(5,ai v0)] [(2,bg .rel r)] [])
def zrq (m:Nat) : S Un→Option (EX Un):=lpF_ (zvd m) z166 Tryz.f33 [1,1,0,1,2,2] 4
def zki (m:Nat) : Exit→S Un→Option (RF Un):=cxF_ (zvd m) z166 Tryz.f33 [1,1,0,1,2] [.d]
def z1js (m:Nat) (r:Rel) (env:List Int) : Option (RF Un):=fnF_ (zvd m) z166 Tryz.f33 0 [.d] [.d (.agg (enc Ty.rel r)),.d (.v (.dat (U:=Un) Ty.int env))]
theorem z27t (m:Nat) (r:Rel) (env:List Int) : z1js m r env=cndO (decide (zf3 r.op<0)) (some (z8y (false))) (cndO ((↑r.kids.length:Int) != zf3 r.op) (some (z8y (false))) (obO (zsl (Rel.ids r)) (cndO (z31 (Rel.ids r)) (some (z8y (false))) ((zrq m (z8s r env (0:Int))).bind (zb (zki m)))))):=by kernel_rfl
theorem z1jt (m:Nat) (r:Rel) (env:List Int) (v0:Int) : zrq m (z8s r env v0)=cndO (decide (v0<(↑r.kids.length:Int))) (obO (0≤v0∧v0<(↑r.kids.length:Int)) (obO ((3:Nat)*(Rel.ids (r.kids.getD v0.toNat z8)).ht+(2:Nat)<m) (obO (z2m env (Rel.ids (r.kids.getD v0.toNat z8)).ht) (cndO (!z9f (Rel.ids (r.kids.getD v0.toNat z8)) env) (some (.ret,(z8s r env v0))) (zrq m (z8s r env (IntKind.i64.wrap (v0+1)))))))) (some (.exit 0,(z8s r env v0))):=lpQ_ (by kernel_rfl)
theorem z1pd (m:Nat) (r:Rel) (env:List Int) (v0:Int) : zki m .ret (z8s r env v0)=some (z8y (false)):=by kernel_rfl
theorem z1v9 (m:Nat) (r:Rel) (env:List Int) (v0:Int) : zki m (.exit 0) (z8s r env v0)=cndO ((↑r.cols.length:Int) == z2j (Rel.ids r)) (obO ((3:Nat)*(Rel.ids r).ht+(1:Nat)<m) (obO (z2m env (Rel.ids r).ht) (obO (z164 (Rel.ids r)) (some (z8y (z1fu (Rel.ids r) env)))))) (some (z8y (false))):=by kernel_rfl
theorem z27u (m:Nat) (r:Rel) (env:List Int) (hm:3*r.ht+2<m+1) (h:z2m env r.ht) (hk:z164 r) (i:Int) : zki m (.exit 0) (z8s r env i)=some (z8y (decide ((r.cols.length:Int)=z27 r) && zdn r env)):=by
 rw[z1v9,z7];simp only[Rel.ids_eq,z9y];by_cases h1 : (r.cols.length:Int)=z27 r
 ·rw[if_pos (by grind),z6 (by omega),z6 h,z6 hk,decide_eq_true h1,y1c];rfl
 grind
theorem z1z9 (m:Nat) (r:Rel) (env:List Int) (_hr:WS .rel r) (_he:WL .int env) (hm:3*r.ht+2<m+1) (h:z2m env r.ht) : z1js m r env=some (z8y (z9f r env)):=by
 have hkl:WL .rel r.kids:=_hr.rel_kids;have e:z9f r env=(zyx r && (r.kids.all (fun k=>z9f k env) && (decide ((r.cols.length:Int)=z27 r) && zdn r env))):=by
  show zkg r env=_;rw[z1z4,zrk,y3n,y3n];rfl
 rw[z27t,e];simp only[Rel.ids_eq,z7,decide_eq_true_eq,z1cb];unfold zyx;by_cases c1 : z3k r.op<0
 ·grind
 by_cases c2 : (r.kids.length:Int)=z3k r.op
 ·have hok:z164 r:=fun h9=>by
   have : z3k r.op=2:=by
    rcases h9 with h9 | h9 | h9<;>rw[h9]<;>rfl
   omega
  have lp:=z2s (L:=zrq m) (st:=fun i=>z8s r env i) (C:=zki m) (e:=.exit 0) (fun b=>some (z8y (b && (decide ((r.cols.length:Int)=z27 r) && zdn r env)))) (d:=z8) (fun k=>z9f k env) hkl.len
   (fun i x hi hx hmem=>by
    have hht:=Rel.ht_kid hmem;rw[z1jt];simp only[z7,hi,decide_true,if_true,and_true,y5,hx,Rel.ids_eq]
    grind [z6,z2m,z9f])
   (by rw[z1jt];simp [z7]) (fun i=>by rw[z1pd,y1w]) (fun i=>by simp_all [z27u,y1c])
  rw[if_neg (by grind),decide_eq_true c2,z6 (show zsl r by grind [zsl]),lp];grind
 grind
theorem z23t (m:Nat) (hG:zjs m) : FnOK 33 (zrm (m+1)):=fnK2 zo zw (M:=(zvd m)) rfl ⟨z1cc,z1z2,hG.2.2.2.2,zf4,hG.2.2.2.1,trivial⟩ trivial trivial trivial trivial Tryz.func33 fun r env=>GiF.r fun w o=>z1z9 m r env (wfA_ w 0) (wfA_ w 1) (obA_ o 0) (obA_ o 1)
theorem zag : ∀ m,zjs m
 | 0=>⟨fnZ2,fnZ2,fnZ2,fnZ2,fnZ2⟩
 | m+1=>⟨z1z5 m (zag m),z23q m (zag m),z1z7 m (zag m),z1z8 m (zag m),z23t m (zag m)⟩
def z1t5 : FnC Un:=fnF2 (dS .rel) (dL .int) fun r env=>([z2m env r.ht],z8y (z9f r env))
theorem z27v : FnOK 33 z1t5:=fnA2 fun m=>(zag m).2.2.2.2
end
end B
end Go.Proofs.YtjfpbchdcbhfgaaGreat
