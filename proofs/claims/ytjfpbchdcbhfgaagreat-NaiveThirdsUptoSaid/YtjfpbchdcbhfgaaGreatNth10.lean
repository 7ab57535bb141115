/- Part 10 of the proof: Slight5 Slight6 Slight7 Slight8. -/
import Derived.Test.YtjfpbchdcbhfgaaGreatNth9
set_option linter.unusedVariables false
set_option linter.unusedSimpArgs false
namespace Go.Proofs.YtjfpbchdcbhfgaaGreat
namespace B
open Go Go.RowKit
set_option maxRecDepth 100000
noncomputable section
attribute [local irreducible] awp ctxK zu z1d retQ z1p awf ctxF z1o
def zq1 : Mc Un:=mcF_ [(108,zmc),(107,zmg),(105,zih)] [] [] [] []
def zz9 : Nat→NS:=nsF_ [(3,{ ts:=bl 42 61,bs:=bl 42 0,nm:=[(.sl 4,168)],cs:=true })] true
def z85 (l:List Int) (v0:Int) (v1:List Int) : S Un:=(st 42 42 169 0 [(0,al .int l),(2,ai (0:Int)),(3,ai (0:Int)),(4,ao 168),(5,ai v0)] [] [(168,some ⟨(0:Nat),Ty.int,v1,some (0:Nat),true⟩)])
def zkf (l:List Int) (v0:Int) (v1:List Int) (v2:Int) : S Un:=(st 42 42 169 0 [(0,al .int l),(2,ai (0:Int)),(3,ai v2),(4,ao 168),(5,ai v0)] [] [(168,some ⟨(0:Nat),Ty.int,v1,some (0:Nat),true⟩)])
def zd4 : S Un→Option (EX Un):=lpF_ zq1 zz9 Tryz.f111 [1,1,0,1,2,2] 3
def zmi : Exit→S Un→Option (RF Un):=cxF_ zq1 zz9 Tryz.f111 [1,1,0,1,2] [.d,.d]
def z18b (l:List Int) : Option (RF Un):=fnF_ zq1 zz9 Tryz.f111 1 [.d,.d] [.d (.v (.dat (U:=Un) Ty.int l))]
theorem z227 (l:List Int) : z18b l=(zd4 (z85 l (0:Int) ([]))).bind (zd zmi):=by kernel_rfl
def zmj (l:List Int) (v0:Int) (v1:List Int) : Option (EX Un):=obO (0≤v0∧v0<(↑l.length:Int)) (obO ((v1.length+[l.getD v0.toNat (0:Int)].length)*(8:Nat)≤zi) (zd4 (z85 l (IntKind.i64.wrap (v0+1)) (v1++[l.getD v0.toNat (0:Int)]))))
theorem z18c (l:List Int) (v0:Int) (v1:List Int) : zd4 (z85 l v0 v1)=cndO (decide (v0<(↑l.length:Int))) (obO (¬(2:Int)=(0:Int)) (cndO (v0.tmod (2:Int) == (0:Int)) (cndO (decide (IntKind.i64.wrap (v0+1)<(↑l.length:Int))) (obO (0≤v0∧v0<(↑l.length:Int)) (cndO (!z6s (l.getD v0.toNat (0:Int)) (1:Int)) (some (.ret,(zkf l v0 v1 (9:Int)))) (zd4 (z85 l (IntKind.i64.wrap (v0+1)) v1)))) (zmj l v0 v1)) (zmj l v0 v1))) (some (.exit 0,(z85 l v0 v1))):=lpQ_ (by kernel_rfl)
theorem z1i9 (l:List Int) (v0:Int) (v1:List Int) (v2:Int) : zmi .ret (zkf l v0 v1 v2)=some (z83 ((0:Int),v2)):=by kernel_rfl
theorem z1my (l:List Int) (v0:Int) (v1:List Int) : zmi (.exit 0) (z85 l v0 v1)=some (z83 ((zn (z3m v1).fst (z3m v1).snd).fst,(zn (z3m v1).fst (z3m v1).snd).snd)):=by kernel_rfl
def z1zv (l:List Int) (vs:List Int) (i:Nat) : Option (List Int):=if i % 2=0∧i+1<l.length then (if z6s (l.getD i 0) 1=true then some vs else none) else some (vs++[l.getD i 0])
def zx4 (l:List Int) : Int×Int:=match z1c0 (z1zv l) [] (List.range l.length) with | some vs=>zn (z3m vs).1 (z3m vs).2 | none=>(0,9)
theorem z1s9 (l:List Int) (_hl:WL .int l) (h:l.length≤2000000) : z18b l=some (z83 (zx4 l)):=by
 rw[z227]
 exact z225 (L:=zd4) (st:=fun (vs:List Int) i=>z85 l i vs) (rt:=fun (vs:List Int) i=>zkf l i vs 9) (C:=zmi) (e:=.exit 0) (fun o=>some (z83 (match o with | some vs=>zn (z3m vs).1 (z3m vs).2 | none=>(0,9)))) (l:=List.range l.length) (d:=0) (z1zv l) (fun i vs=>vs.length≤i) (by grind)
  (fun vs i k hi hk _ hI=>by
   rw[y2u] at hi;have hk':k=i:=by grind
   subst hk';refine⟨fun b hb=>?_,?_⟩
   ·unfold z1zv at hb;grind
   ·have et:zmj l (k:Int) vs=zd4 (z85 l (IntKind.i64.wrap ((k:Int)+1)) (vs++[l.getD k 0])):=by
     grind [zmj,Int.toNat_natCast,z6,zi,List.length_singleton]
    rw[z18c,et];unfold z1zv;simp only[z8,hi,decide_true,if_true,and_true,y5,beq_iff_eq,decide_eq_true_eq];rw[z1j (by omega),z6 (by simp)];by_cases c1 : k % 2=0
    ·by_cases c2 : k+1<l.length
     ·rw[if_pos (show (k:Int)+1<(l.length:Int) by omega),z6 (by omega),if_pos (show k % 2=0∧k+1<l.length from ⟨c1,c2⟩)];grind
     grind
    grind)
  (fun vs=>by rw[y2u,z18c];simp [z8]) (fun a i=>z1i9 _ _ _ _) (fun a=>z1my _ _ _) [] (y6 _)
def z1fc : FnC Un:=fnF1 (dL .int) fun l=>([l.length≤2000000],z83 (zx4 l))
theorem z228 : FnOK 111 z1fc:=fnK1 z10 (M:=zq1) rfl ⟨zpx,zs4,zmh,trivial⟩ trivial trivial trivial trivial Tryz.func111 fun l=>GiF.r fun w o=>z1s9 l (wfA_ w 0) (obA_ o 0)
def z1vn : Mc Un:=mcF_ [(110,zth),(105,zih),(108,zmc)] [] [] [] []
def z13l (name:ByteArray) (k:Int) : Option (RF Un):=fnF_ z1vn z269 Tryz.f134 0 [.d,.d] [.d (.v (cs name)),.d (.v (.s (.int .i64 k)))]
theorem z2b5 (name:ByteArray) (k:Int) : z13l name k=cndO (name.toList == (ByteArray.mk #[99,111,117,110,116]).toList) (some (z83 ((zn (2:Int) (z4t k)).fst,(zn (2:Int) (z4t k)).snd))) (cndO (name.toList == (ByteArray.mk #[115,117,109]).toList) (some (z83 ((zn (2:Int) (z6s k (2:Int))).fst,(zn (2:Int) (z6s k (2:Int))).snd))) (cndO (name.toList == (ByteArray.mk #[109,105,110]).toList) (some (z83 ((zn k (z4t k)).fst,(zn k (z4t k)).snd))) (cndO (name.toList == (ByteArray.mk #[109,97,120]).toList) (some (z83 ((zn k (z4t k)).fst,(zn k (z4t k)).snd))) (some (z83 ((0:Int),(6:Int))))))):=by kernel_rfl
theorem ex_c {R:Int×Int→RF Un} {c:Bool} {x y:Option (RF Un)} (hx:c=true→∃ p,x=some (R p)) (hy:c=false→∃ p,y=some (R p)) : ∃ p,cndO c x y=some (R p):=by
 cases c
 ·exact hy rfl
 ·exact hx rfl
noncomputable def z1zw (R:Int×Int→RF Un) (o:Option (RF Un)) : Int×Int:=@Classical.epsilon (Int×Int) ⟨(0,0)⟩ fun p=>o=some (R p)
theorem z1ia {R:Int×Int→RF Un} {o:Option (RF Un)} (h:∃ p,o=some (R p)) : o=some (R (z1zw R o)):=@Classical.epsilon_spec (Int×Int) (fun p=>o=some (R p)) h
noncomputable def z1c1 (name:ByteArray) (k:Int) : Int×Int:=z1zw z83 (z13l name k)
theorem z229 (name:ByteArray) (k:Int) (_hn:WStr name) (_hk:WI k) : z13l name k=some (z83 (z1c1 name k)):=by
 refine z1ia ?_;rw[z2b5]
 repeat' first | exact⟨_,rfl⟩ | refine ex_c (fun _=>?_) (fun _=>?_)
def z1vo : FnC Un:=fnF2 dStr (dI .i64) fun name k=>([],z83 (z1c1 name k))
theorem z2b6 : FnOK 134 z1vo:=fnK2 z43 z1c (M:=z1vn) rfl ⟨zz7,zmh,zpx,trivial⟩ trivial trivial trivial trivial Tryz.func134 fun name k=>GiF.r fun w _=>z229 name k (wfA_ w 0) (wfA_ w 1)
def z1mz : Mc Un:=mcF_ [(106,z13k),(105,zih),(107,zmg)] [] [] [] []
def zza (name:ByteArray) (l:List Int) : Option (RF Un):=fnF_ z1mz z269 Tryz.f60 0 [.d,.d] [.d (.v (cs name)),.d (.v (.dat (U:=Un) Ty.int l))]
def zzb (name:ByteArray) (l:List Int) : Option (RF Un):=cndO (name.toList == (ByteArray.mk #[108,101,110,103,116,104]).toList) (some (z83 ((zn (2:Int) (z1w l (3:Int))).fst,(zn (2:Int) (z1w l (3:Int))).snd))) (cndO (name.toList == (ByteArray.mk #[108,111,119,101,114]).toList) (some (z83 ((zn (3:Int) (z1w l (3:Int))).fst,(zn (3:Int) (z1w l (3:Int))).snd))) (cndO (name.toList == (ByteArray.mk #[117,112,112,101,114]).toList) (some (z83 ((zn (3:Int) (z1w l (3:Int))).fst,(zn (3:Int) (z1w l (3:Int))).snd))) (cndO (name.toList == (ByteArray.mk #[97,98,115]).toList) (some (z83 ((zn (2:Int) (z1w l (2:Int))).fst,(zn (2:Int) (z1w l (2:Int))).snd))) (some (z83 ((zn (z3m l).fst (z3m l).snd).fst,(zn (z3m l).fst (z3m l).snd).snd))))))
def z1fd (name:ByteArray) (l:List Int) : Option (RF Un):=cndO (!name.toList == (ByteArray.mk #[99,111,97,108,101,115,99,101]).toList) (some (z83 ((0:Int),(11:Int)))) (zzb name l)
def zij (name:ByteArray) (l:List Int) : Option (RF Un):=cndO (decide ((↑l.length:Int)<(1:Int))) (some (z83 ((0:Int),(11:Int)))) (cndO (decide ((↑l.length:Int) > (1:Int))) (z1fd name l) (zzb name l))
theorem z278 (name:ByteArray) (l:List Int) : zza name l=cndO (name.toList == (ByteArray.mk #[108,101,110,103,116,104]).toList) (zij name l) (cndO (name.toList == (ByteArray.mk #[108,111,119,101,114]).toList) (zij name l) (cndO (name.toList == (ByteArray.mk #[117,112,112,101,114]).toList) (zij name l) (cndO (name.toList == (ByteArray.mk #[97,98,115]).toList) (zij name l) (cndO (name.toList == (ByteArray.mk #[99,111,97,108,101,115,99,101]).toList) (zij name l) (cndO (name.toList == (ByteArray.mk #[110,117,108,108,105,102]).toList) (cndO (decide ((↑l.length:Int)<(2:Int))) (some (z83 ((0:Int),(11:Int)))) (cndO (decide ((↑l.length:Int) > (2:Int))) (z1fd name l) (zzb name l))) (some (z83 ((0:Int),(6:Int))))))))):=by kernel_rfl
noncomputable def zoc (name:ByteArray) (l:List Int) : Int×Int:=z1zw z83 (zza name l)
theorem z1ya (name:ByteArray) (l:List Int) (_hn:WStr name) (_hl:WL .int l) : zza name l=some (z83 (zoc name l)):=by
 refine z1ia ?_;rw[z278]
 repeat' first | exact⟨_,rfl⟩ | refine ex_c (fun _=>?_) (fun _=>?_)
def z1n0 : FnC Un:=fnF2 dStr (dL .int) fun name l=>([],z83 (zoc name l))
theorem z279 : FnOK 60 z1n0:=fnK2 z43 z10 (M:=z1mz) rfl ⟨z1f9,zmh,zs4,trivial⟩ trivial trivial trivial trivial Tryz.func60 fun name l=>GiF.r fun w _=>z1ya name l (wfA_ w 0) (wfA_ w 1)
def z22a : Mc Un:=mcF_ [(109,z1mx),(107,zmg),(106,z13k),(105,zih),(110,zth),(111,z1fc)] [] [] [] []
def z18d (op:Int) (l:List Int) : Option (RF Un):=fnF_ z22a z269 Tryz.f62 0 [.d,.d] [.d (.v (.s (.int .i64 op))),.d (.v (.dat (U:=Un) Ty.int l))]
theorem z2en (op:Int) (l:List Int) : z18d op l=cndO ((zke op).snd == 0) (some (z83 ((0:Int),(1:Int)))) (cndO (decide ((↑l.length:Int)<(zke op).fst)) (some (z83 ((0:Int),(11:Int)))) (cndO (decide ((↑l.length:Int) > (zke op).snd)) (some (z83 ((0:Int),(11:Int)))) (cndO (op == 3) (some (z83 ((zn (2:Int) (z1w l (2:Int))).fst,(zn (2:Int) (z1w l (2:Int))).snd))) (cndO (op == 5) (some (z83 ((zn (2:Int) (z1w l (2:Int))).fst,(zn (2:Int) (z1w l (2:Int))).snd))) (cndO (op == 6) (some (z83 ((zn (2:Int) (z1w l (2:Int))).fst,(zn (2:Int) (z1w l (2:Int))).snd))) (cndO (op == 7) (some (z83 ((zn (2:Int) (z1w l (2:Int))).fst,(zn (2:Int) (z1w l (2:Int))).snd))) (cndO (op == 8) (some (z83 ((zn (2:Int) (z1w l (2:Int))).fst,(zn (2:Int) (z1w l (2:Int))).snd))) (cndO (op == 9) (some (z83 ((zn (2:Int) (z1w l (2:Int))).fst,(zn (2:Int) (z1w l (2:Int))).snd))) (cndO (op == 4) (some (z83 ((zn (1:Int) (z1w l (1:Int))).fst,(zn (1:Int) (z1w l (1:Int))).snd))) (cndO (op == 17) (some (z83 ((zn (1:Int) (z1w l (1:Int))).fst,(zn (1:Int) (z1w l (1:Int))).snd))) (cndO (op == 18) (some (z83 ((zn (1:Int) (z1w l (1:Int))).fst,(zn (1:Int) (z1w l (1:Int))).snd))) (cndO (op == 10) (some (z83 ((zn (3:Int) (z1w l (3:Int))).fst,(zn (3:Int) (z1w l (3:Int))).snd))) (cndO (op == 20) (some (z83 ((zn (1:Int) (z1w l (3:Int))).fst,(zn (1:Int) (z1w l (3:Int))).snd))) (cndO (op == 19) (obO ((0:Int)≤(0:Int)∧(0:Int)<(↑l.length:Int)) (some (z83 ((zn (1:Int) (z4t (l.getD 0 (0:Int)))).fst,(zn (1:Int) (z4t (l.getD 0 (0:Int)))).snd)))) (cndO (op == 23) (obO (l.length≤(2000000:Nat)) (some (z83 ((zx4 l).fst,(zx4 l).snd)))) (some (z83 ((zn (1:Int) (z3m l).snd).fst,(zn (1:Int) (z3m l).snd).snd)))))))))))))))))):=by kernel_rfl
noncomputable def z110 (op:Int) (l:List Int) : Int×Int:=z1zw z83 (z18d op l)
theorem z27a (op:Int) (l:List Int) (_ho:WI op) (_hl:WL .int l) (h:l.length≤2000000) : z18d op l=some (z83 (z110 op l)):=by
 refine z1ia ?_;rw[z2en];refine ex_c (fun _=>⟨_,rfl⟩) (fun _=>?_);refine ex_c (fun _=>⟨_,rfl⟩) (fun h1=>?_);have h2:op=19→0<l.length:=fun e=>by
  have e2:(zke 19).1=1:=rfl;grind
 repeat' first | exact⟨_,rfl⟩ | (rw[z6 h]) | (refine ex_c (fun c=>?_) (fun _=>?_)) | (rw[z6 ⟨y29 _,by grind⟩])
def z22b : FnC Un:=fnF2 (dI .i64) (dL .int) fun op l=>([l.length≤2000000],z83 (z110 op l))
theorem z2eo : FnOK 62 z22b:=fnK2 z1c z10 (M:=z22a) rfl ⟨z277,zs4,z1f9,zmh,zz7,z228,trivial⟩ trivial trivial trivial trivial Tryz.func62 fun op l=>GiF.r fun w o=>z27a op l (wfA_ w 0) (wfA_ w 1) (obA_ o 0)
end
end B
namespace B
open Go Go.RowKit
set_option maxRecDepth 100000
noncomputable section
attribute [local irreducible] awp ctxK zu z1d retQ z1p awf ctxF z1o
def zzd : Nat→NS:=nsF_ [(3,{ ts:=bl 21 25,bs:=bl 21 0,nm:=[(.sl 3,84)],cs:=true })] true
def zd5 (l:List Col) (v0:Int) (v1:List Int) : S Un:=(st 21 21 85 0 [(0,al .col l),(3,ao 84),(4,ai v0)] [] [(84,some ⟨(0:Nat),Ty.int,v1,some (0:Nat),true⟩)])
def zmk : S Un→Option (EX Un):=lpF_ z1du zzd Tryz.f25 [1,1,0,1,2,2] 3
def z18e : Exit→S Un→Option (RF Un):=cxF_ z1du zzd Tryz.f25 [1,1,0,1,2] [.d]
def z18f (l:List Col) : Option (RF Un):=fnF_ z1du zzd Tryz.f25 1 [.d] [.d (.v (.dat (U:=Un) Ty.col l))]
theorem z22c (l:List Col) : z18f l=(zmk (zd5 l (0:Int) ([]))).bind (zd z18e):=by kernel_rfl
theorem z18g (l:List Col) (v0:Int) (v1:List Int) : zmk (zd5 l v0 v1)=cndO (decide (v0<(↑l.length:Int))) (obO (0≤v0∧v0<(↑l.length:Int)) (obO ((v1.length+[(l.getD v0.toNat zem).type].length)*(8:Nat)≤zi) (zmk (zd5 l (IntKind.i64.wrap (v0+1)) (v1++[(l.getD v0.toNat zem).type]))))) (some (.exit 0,(zd5 l v0 v1))):=lpQ_ (by kernel_rfl)
theorem z1n1 (l:List Col) (v0:Int) (v1:List Int) : z18e (.exit 0) (zd5 l v0 v1)=some (zo9 (v1)):=by kernel_rfl
def z1g (l:List Col) : List Int:=l.map fun c=>c.type
theorem z1n2 : ∀ (l:List Col) (n:List Int),l.foldl (fun n c=>n++[c.type]) n=n++z1g l
 | [],n=>by simp [z1g]
 | c::l,n=>by rw[yr,z1n2 l];simp [z1g]
theorem z1sa (l:List Col) (hl:WL .col l) (h:l.length≤2000000000) : z18f l=some (zo9 (z1g l)):=by
 obtain⟨lp,_⟩:=z1q (e:=.exit 0) (L:=zmk) (st:=fun (n:List Int) i=>zd5 l i n) (l:=l) (d:=zem) (g:=fun n c=>n++[c.type]) (fun i n=>n.length=i) hl.len
  (fun n i c hi hc hI=>by
   rw[z18g];simp only[z8,hi,decide_true,if_true,and_true,y5,hc]
   grind [z6,zi,List.length_singleton])
  (fun n _=>by rw[z18g];simp [z8]) [] rfl
 rw[z1n2,y10] at lp;rw[z22c];refine (zg lp).trans ?_;rw[z1n1]
def zik : FnC Un:=fnF1 (dL .col) fun l=>([l.length≤2000000000],zo9 (z1g l))
theorem zml : FnOK 25 zik:=fnK1 z10 (M:=z1du) rfl trivial trivial trivial trivial trivial Tryz.func25 fun l=>GiF.r fun w o=>z1sa l (wfA_ w 0) (obA_ o 0)
def zze : Nat→NS:=nsF_ [(2,{ ts:=bl 32 51,bs:=bl 32 0,nm:=[],cs:=true })] true
def z6t (a:List Int) (b:List Int) (v0:Int) : S Un:=(st 32 32 128 0 [(0,al .int a),(1,al .int b),(4,ab false),(5,ai v0)] [] [])
def zmm : S Un→Option (EX Un):=lpF_ z1du zze Tryz.f31 [1,0,1,2,2] 2
def zmn : Exit→S Un→Option (RF Un):=cxF_ z1du zze Tryz.f31 [1,0,1,2] [.d]
def z18h (a:List Int) (b:List Int) : Option (RF Un):=fnF_ z1du zze Tryz.f31 0 [.d] [.d (.v (.dat (U:=Un) Ty.int a)),.d (.v (.dat (U:=Un) Ty.int b))]
theorem z22d (a:List Int) (b:List Int) : z18h a b=(zmm (z6t a b (0:Int))).bind (zd zmn):=by kernel_rfl
theorem z18i (a:List Int) (b:List Int) (v0:Int) : zmm (z6t a b v0)=cndO (decide (v0<(↑a.length:Int))) (cndO (decide (v0<(↑b.length:Int))) (obO (0≤v0∧v0<(↑a.length:Int)) (obO (0≤v0∧v0<(↑b.length:Int)) (cndO (a.getD v0.toNat (0:Int) != b.getD v0.toNat (0:Int)) (some (.ret,(z6t a b v0))) (zmm (z6t a b (IntKind.i64.wrap (v0+1))))))) (some (.exit 0,(z6t a b v0)))) (some (.exit 0,(z6t a b v0))):=lpQ_ (by kernel_rfl)
theorem z1ib (a:List Int) (b:List Int) (v0:Int) : zmn .ret (z6t a b v0)=some (z9f (false)):=by kernel_rfl
theorem z1n3 (a:List Int) (b:List Int) (v0:Int) : zmn (.exit 0) (z6t a b v0)=some (z9f ((↑a.length:Int) == (↑b.length:Int))):=by kernel_rfl
def zx5 (a b:List Int) : Bool:=(List.range (min a.length b.length)).all (fun i=>a.getD i 0 == b.getD i 0) && ((a.length:Int) == (b.length:Int))
theorem z1sb (a b:List Int) (ha:WL .int a) (_hb:WL .int b) : z18h a b=some (z9f (zx5 a b)):=by
 have hlen:=ha.len;rw[z22d]
 exact z32 (L:=zmm) (st:=fun i=>z6t a b i) (C:=zmn) (e:=.exit 0) (fun x=>some (z9f (x && ((a.length:Int) == (b.length:Int))))) (l:=List.range (min a.length b.length)) (d:=0) (fun i=>a.getD i 0 == b.getD i 0) (by grind)
  (fun i k hi hk _=>by
   rw[y2u] at hi;have hk':k=i:=by grind
   subst hk';rw[z18i];simp only[z8,y5,decide_eq_true_eq];rw[if_pos (show (k:Int)<(a.length:Int) by omega),if_pos (show (k:Int)<(b.length:Int) by omega),z6 (by omega),z6 (by omega)]
   simp)
  (by
   rw[y2u,z18i];simp only[z8,decide_eq_true_eq]
   grind)
  (fun i=>by simp [y1p,z1ib]) (fun i=>by simp [y18,z1n3])
def z1fe : FnC Un:=fnF2 (dL .int) (dL .int) fun a b=>([],z9f (zx5 a b))
theorem z22e : FnOK 31 z1fe:=fnK2 z10 z10 (M:=z1du) rfl trivial trivial trivial trivial trivial Tryz.func31 fun a b=>GiF.r fun w _=>z1sb a b (wfA_ w 0) (wfA_ w 1)
def zq4 : Mc Un:=mcF_ [(25,zik)] [] [] [] []
def zzg : Nat→NS:=nsF_ [(3,{ ts:=bl 23 26,bs:=bl 23 2,nm:=[(.sl 3,92)],cs:=true })] true
def zd6 (r:Rel) (v0:Int) (v1:List Int) : S Un:=(st 23 23 93 0 [(1,ax 1),(3,ao 92),(4,ai v0)] [(1,bg .rel r)] [(92,some ⟨(0:Nat),Ty.int,v1,some (0:Nat),true⟩)])
def zmo : S Un→Option (EX Un):=lpF_ zq4 zzg Tryz.f80 [1,1,0,1,2,2] 3
def z18j : Exit→S Un→Option (RF Un):=cxF_ zq4 zzg Tryz.f80 [1,1,0,1,2] [.d]
def z18k (r:Rel) : Option (RF Un):=fnF_ zq4 zzg Tryz.f80 1 [.d] [.d (.agg (enc Ty.rel r))]
theorem z22f (r:Rel) : z18k r=(zmo (zd6 r (0:Int) ([]))).bind (zd z18j):=by kernel_rfl
theorem z18l (r:Rel) (v0:Int) (v1:List Int) : zmo (zd6 r v0 v1)=cndO (decide (v0<(↑r.kids.length:Int))) (obO (0≤v0∧v0<(↑r.kids.length:Int)) (obO ((Rel.cols (r.kids.getD v0.toNat za)).length≤(2000000000:Nat)) (obO ((v1.length+(z1g (Rel.cols (r.kids.getD v0.toNat za))).length)*(8:Nat)≤zi) (zmo (zd6 r (IntKind.i64.wrap (v0+1)) (v1++z1g (Rel.cols (r.kids.getD v0.toNat za)))))))) (some (.exit 0,(zd6 r v0 v1))):=lpQ_ (by kernel_rfl)
theorem z1n4 (r:Rel) (v0:Int) (v1:List Int) : z18j (.exit 0) (zd6 r v0 v1)=some (zo9 (v1)):=by kernel_rfl
mutual
def clT : Term→Nat
 | .mk _ _ _ _ _ kids sub _=>clTs kids+clRs sub
def clTs : List Term→Nat
 | []=>0
 | t::l=>clT t+clTs l
def clA : Agg→Nat
 | .mk _ _ t=>clTs t
def clAs : List Agg→Nat
 | []=>0
 | a::l=>clA a+clAs l
def clR : Rel→Nat
 | .mk _ _ cols kids terms aggs _ _ _ _ _=>cols.length+clRs kids+clTs terms+clAs aggs
def clRs : List Rel→Nat
 | []=>0
 | r::l=>clR r+clRs l
end
theorem z22g (t:Term) : clT t=clTs t.kids+clRs t.sub:=by cases t;rfl
theorem z2ep (a:Agg) : clA a=clTs a.t:=by cases a;rfl
theorem zg4 (r:Rel) : clR r=r.cols.length+clRs r.kids+clTs r.terms+clAs r.aggs:=by cases r;rfl
theorem zkg {t:Term} : ∀ {l:List Term},t∈l→clT t≤clTs l
 | x::l,h=>by
  simp only[clTs];rcases yf.1 h with rfl | h
  ·omega
  ·have:=zkg h;omega
theorem zg5 {t:Rel} : ∀ {l:List Rel},t∈l→clR t≤clRs l
 | x::l,h=>by
  simp only[clRs];rcases yf.1 h with rfl | h
  ·omega
  ·have:=zg5 h;omega
theorem z1ic {t:Agg} : ∀ {l:List Agg},t∈l→clA t≤clAs l
 | x::l,h=>by
  simp only[clAs];rcases yf.1 h with rfl | h
  ·omega
  ·have:=z1ic h;omega
def z2d (r:Rel) : List Int:=r.kids.foldl (fun n k=>n++z1g k.cols) []
theorem z1sc (r:Rel) (hr:WS .rel r) (h:clR r≤2000000000) : z18k r=some (zo9 (z2d r)):=by
 have h0:=zg4 r
 obtain⟨lp,_⟩:=z1q (e:=.exit 0) (L:=zmo) (st:=fun (n:List Int) i=>zd6 r i n) (l:=r.kids) (d:=za) (g:=fun n k=>n++z1g k.cols) (fun i n=>n.length+clRs (r.kids.drop i)≤2000000000) (hr.rel_kids).len
  (fun n i k hi hk hI=>by
   have hd:=zkq (d:=za) (show i<r.kids.length by omega);rw[hd,hk] at hI;simp only[clRs] at hI;have h1:=zg4 k;have h2:(z1g k.cols).length=k.cols.length:=by unfold z1g;simp
   rw[z18l];simp only[z8,hi,decide_true,if_true,and_true,y5,hk]
   grind [z6,zi])
  (fun n _=>by rw[z18l];simp [z8]) [] (by grind)
 rw[z22f];refine (zg lp).trans ?_;rw[z1n4];rfl
def zzh : FnC Un:=fnF1 (dS .rel) fun r=>([clR r≤2000000000],zo9 (z2d r))
theorem z18m : FnOK 80 zzh:=fnK1 zq (M:=zq4) rfl ⟨zml,trivial⟩ trivial trivial trivial trivial Tryz.func80 fun r=>GiF.r fun w o=>z1sc r (wfA_ w 0) (obA_ o 0)
def z7x : Mc Un:=mcF_ [(25,zik),(134,z1vo),(61,zti),(80,zzh)] [] [] [] []
def z4l (r:List Int×Bool) : RF Un:=([.c (.sl (U:=Un) Ty.int r.1 false),.c (.s (.bool r.2))],[])
def z9a : Nat→NS:=nsF_ [(8,{ ts:=bl 162 50,bs:=bl 162 2,nm:=[(.sl 4,648)],cs:=true }),(15,{ ts:=bl 162 194,bs:=bl 162 2,nm:=[(.sl 6,649)],cs:=true }),(19,{ ts:=bl 162 334,bs:=bl 162 2,nm:=[(.sl 6,650)],cs:=true }),(35,{ ts:=bl 162 61452,bs:=bl 162 0,nm:=[(.sl 14,651)],cs:=true })] true
def zzi (r:Rel) (v4:Int):=z1c1 (Agg.name (r.aggs.getD v4.toNat zp)) (Term.type ((Agg.t (r.aggs.getD v4.toNat zp)).getD 0 zb))
def zzj (r:Rel) (v4:Int):=z1c1 (Agg.name (r.aggs.getD v4.toNat zp)) (2:Int)
def zez (r:Rel) (v0:Int) (v1:List Int) : S Un:=(st 162 162 652 0 [(1,ax 1),(4,ao 648),(5,ai v0)] [(1,bg .rel r)] [(648,some ⟨(0:Nat),Ty.int,v1,some (0:Nat),true⟩)])
def z86 (r:Rel) (v2:Int) (v3:List Int) : S Un:=(st 162 162 652 0 [(1,ax 1),(6,ao 649),(7,ai v2)] [(1,bg .rel r)] [(649,some ⟨(0:Nat),Ty.int,v3,some (0:Nat),true⟩)])
def z5l (r:Rel) (v3:List Int) (v4:Int) : S Un:=(st 162 162 652 0 [(1,ax 1),(6,ao 650),(8,ai v4)] [(1,bg .rel r)] [(650,some ⟨(0:Nat),Ty.int,v3,some (0:Nat),true⟩)])
def zaj (r:Rel) (v3:List Int) (v4:Int) : S Un:=(st 162 162 652 0 [(1,ax 1),(2,AV.one (A.c (C.sl Ty.int [] true))),(3,ab false),(6,ao 650),(8,ai v4)] [(1,bg .rel r)] [(650,some ⟨(0:Nat),Ty.int,v3,some (0:Nat),true⟩)])
def z4u (r:Rel) (v5:Int) (v6:List Int) : S Un:=(st 162 162 652 0 [(2,AV.one (A.c (C.sl Ty.int [] true))),(3,ab false),(12,al .int (z1g (Rel.cols (r.kids.getD 0 za)))),(13,al .int (z1g (Rel.cols (r.kids.getD 1 za)))),(14,ao 651),(15,ai v5)] [] [(651,some ⟨(0:Nat),Ty.int,v6,some (0:Nat),true⟩)])
def zq5 : S Un→Option (EX Un):=lpF_ z7x z9a Tryz.f81 [1,0,1,2,1,4,1,3,1,0,1,2,2] 8
def zg6 : S Un→Option (EX Un):=lpF_ z7x z9a Tryz.f81 [1,0,1,2,1,4,1,4,1,3,1,0,1,2,2] 15
def z87 : S Un→Option (EX Un):=lpF_ z7x z9a Tryz.f81 [1,0,1,2,1,4,1,4,1,3,1,1,0,1,2,2] 19
def zg7 : S Un→Option (EX Un):=lpF_ z7x z9a Tryz.f81 [1,0,1,2,1,4,1,4,1,4,1,3,1,1,0,1,2,2] 35
def zzk : Exit→S Un→Option (RF Un):=cxF_ z7x z9a Tryz.f81 [1,0,1,2,1,4,1,3,1,0,1,2] [.d,.d]
def zvd : Exit→S Un→Option (RF Un):=cxF_ z7x z9a Tryz.f81 [1,0,1,2,1,4,1,4,1,3,1,0,1,2] [.d,.d]
def zg8 : Exit→S Un→Option (RF Un):=cxF_ z7x z9a Tryz.f81 [1,0,1,2,1,4,1,4,1,3,1,1,0,1,2] [.d,.d]
def zmp : Exit→S Un→Option (RF Un):=cxF_ z7x z9a Tryz.f81 [1,0,1,2,1,4,1,4,1,4,1,3,1,1,0,1,2] [.d,.d]
def zq6 (r:Rel) : Option (RF Un):=fnF_ z7x z9a Tryz.f81 4 [.d,.d] [.d (.agg (enc Ty.rel r))]
def zim (r:Rel) : Option (RF Un):=obO ((0:Int)≤(0:Int)∧(0:Int)<(↑r.kids.length:Int)) (obO ((Rel.cols (r.kids.getD 0 za)).length≤(2000000000:Nat)) (obO ((0:Int)≤(1:Int)∧(1:Int)<(↑r.kids.length:Int)) (obO ((Rel.cols (r.kids.getD 1 za)).length≤(2000000000:Nat)) ((zg7 (z4u r (0:Int) ([]))).bind (zd zmp)))))
theorem z27b (r:Rel) : zq6 r=cndO (r.op == 1) (obO (r.cols.length≤(2000000000:Nat)) (some (z4l (z1g r.cols,true)))) (cndO (r.op == 2) (obO (r.cols.length≤(2000000000:Nat)) (some (z4l (z1g r.cols,true)))) (cndO (r.op == 4) ((zq5 (zez r (0:Int) ([]))).bind (zd zzk)) (cndO (r.op == 7) ((zg6 (z86 r (0:Int) ([]))).bind (zd zvd)) (cndO (r.op == 9) (zim r) (cndO (r.op == 10) (zim r) (cndO (r.op == 11) (zim r) (obO (clR (Rel.ids r)≤(2000000000:Nat)) (some (z4l (z2d (Rel.ids r),true)))))))))):=by kernel_rfl
theorem z1ff (r:Rel) (v0:Int) (v1:List Int) : zq5 (zez r v0 v1)=cndO (decide (v0<(↑r.terms.length:Int))) (obO (0≤v0∧v0<(↑r.terms.length:Int)) (obO ((v1.length+[Term.type (r.terms.getD v0.toNat zb)].length)*(8:Nat)≤zi) (zq5 (zez r (IntKind.i64.wrap (v0+1)) (v1++[Term.type (r.terms.getD v0.toNat zb)]))))) (some (.exit 1,(zez r v0 v1))):=lpQ_ (by kernel_rfl)
theorem z1sd (r:Rel) (v0:Int) (v1:List Int) : zzk (.exit 1) (zez r v0 v1)=some (z4l (v1,true)):=by kernel_rfl
theorem z18n (r:Rel) (v2:Int) (v3:List Int) : zg6 (z86 r v2 v3)=cndO (decide (v2<(↑r.terms.length:Int))) (obO (0≤v2∧v2<(↑r.terms.length:Int)) (obO ((v3.length+[Term.type (r.terms.getD v2.toNat zb)].length)*(8:Nat)≤zi) (zg6 (z86 r (IntKind.i64.wrap (v2+1)) (v3++[Term.type (r.terms.getD v2.toNat zb)]))))) (some (.exit 3,(z86 r v2 v3))):=lpQ_ (by kernel_rfl)
theorem z1n5 (r:Rel) (v2:Int) (v3:List Int) : zvd (.exit 3) (z86 r v2 v3)=(z87 (z5l r v3 (0:Int))).bind (zd zg8):=by kernel_rfl
theorem z18o (r:Rel) (v3:List Int) (v4:Int) : z87 (z5l r v3 v4)=cndO (decide (v4<(↑r.aggs.length:Int))) (obO (0≤v4∧v4<(↑r.aggs.length:Int)) (cndO (decide ((↑(Agg.t (r.aggs.getD v4.toNat zp)).length:Int) > (0:Int))) (obO (0≤v4∧v4<(↑r.aggs.length:Int)) (obO ((0:Int)≤(0:Int)∧(0:Int)<(↑(Agg.t (r.aggs.getD v4.toNat zp)).length:Int)) (obO (0≤v4∧v4<(↑r.aggs.length:Int)) (cndO ((zzi r v4).snd != 0) (some (.ret,(zaj r v3 v4))) (obO ((v3.length+[(zzi r v4).fst].length)*(8:Nat)≤zi) (z87 (z5l r (v3++[(zzi r v4).fst]) (IntKind.i64.wrap (v4+1))))))))) (obO (0≤v4∧v4<(↑r.aggs.length:Int)) (cndO ((zzj r v4).snd != 0) (some (.ret,(zaj r v3 v4))) (obO ((v3.length+[(zzj r v4).fst].length)*(8:Nat)≤zi) (z87 (z5l r (v3++[(zzj r v4).fst]) (IntKind.i64.wrap (v4+1))))))))) (some (.exit 5,(z5l r v3 v4))):=lpQ_ (by kernel_rfl)
theorem z1id (r:Rel) (v3:List Int) (v4:Int) : zg8 .ret (zaj r v3 v4)=some (z4l ([],false)):=by kernel_rfl
theorem z1n6 (r:Rel) (v3:List Int) (v4:Int) : zg8 (.exit 5) (z5l r v3 v4)=some (z4l (v3,true)):=by kernel_rfl
theorem z18p (r:Rel) (v5:Int) (v6:List Int) : zg7 (z4u r v5 v6)=cndO (decide (v5<(↑(z1g (Rel.cols (r.kids.getD 0 za))).length:Int))) (cndO (decide (v5<(↑(z1g (Rel.cols (r.kids.getD 1 za))).length:Int))) (obO (0≤v5∧v5<(↑(z1g (Rel.cols (r.kids.getD 0 za))).length:Int)) (obO (0≤v5∧v5<(↑(z1g (Rel.cols (r.kids.getD 1 za))).length:Int)) (cndO (!(z63 ((z1g (Rel.cols (r.kids.getD 0 za))).getD v5.toNat (0:Int)) ((z1g (Rel.cols (r.kids.getD 1 za))).getD v5.toNat (0:Int))).snd) (some (.ret,(z4u r v5 v6))) (obO ((v6.length+[(z63 ((z1g (Rel.cols (r.kids.getD 0 za))).getD v5.toNat (0:Int)) ((z1g (Rel.cols (r.kids.getD 1 za))).getD v5.toNat (0:Int))).fst].length)*(8:Nat)≤zi) (zg7 (z4u r (IntKind.i64.wrap (v5+1)) (v6++[(z63 ((z1g (Rel.cols (r.kids.getD 0 za))).getD v5.toNat (0:Int)) ((z1g (Rel.cols (r.kids.getD 1 za))).getD v5.toNat (0:Int))).fst]))))))) (some (.exit 7,(z4u r v5 v6)))) (some (.exit 7,(z4u r v5 v6))):=lpQ_ (by kernel_rfl)
theorem z1ie (r:Rel) (v5:Int) (v6:List Int) : zmp .ret (z4u r v5 v6)=some (z4l ([],false)):=by kernel_rfl
theorem z1n7 (r:Rel) (v5:Int) (v6:List Int) : zmp (.exit 7) (z4u r v5 v6)=some (z4l (v6,(↑(z1g (Rel.cols (r.kids.getD 0 za))).length:Int) == (↑(z1g (Rel.cols (r.kids.getD 1 za))).length:Int))):=by kernel_rfl
theorem zx6 {σ ρ:Type} {R:ρ→RF Un} {L:S Un→Option (EX Un)} {C:Exit→S Un→Option (RF Un)} {st:σ→Int→S Un} {n:Nat} (hn:n≤9223372036854775807) (Inv:Nat→σ→Prop)
  (step:∀ (a:σ) (i:Nat),i<n→Inv i a→(∃ b,Inv (i+1) b∧L (st a (i:Int))=L (st b (IntKind.i64.wrap ((i:Int)+1))))∨∃ p,(L (st a (i:Int))).bind (zd C)=some (R p))
  (stop:∀ a,Inv n a→∃ p,(L (st a (n:Int))).bind (zd C)=some (R p)) (a:σ) (h0:Inv 0 a) : ∃ p,(L (st a (0:Int))).bind (zd C)=some (R p):=by
 have key:∀ (k i:Nat) (a:σ),i+k=n→Inv i a→∃ p,(L (st a (i:Int))).bind (zd C)=some (R p):=by
  intro k
  induction k with
  | zero =>
   grind
  | succ k ih =>
   grind [step,z40]
 exact key n 0 a (by omega) h0
theorem z13m {ρ:Type} {R:ρ→RF Un} {c:Bool} {x y:Option (RF Un)} (hx:c=true→∃ p,x=some (R p)) (hy:c=false→∃ p,y=some (R p)) : ∃ p,cndO c x y=some (R p):=by
 cases c
 ·exact hy rfl
 ·exact hx rfl
noncomputable def z2eq (R:List Int×Bool→RF Un) (o:Option (RF Un)) : List Int×Bool:=@Classical.epsilon (List Int×Bool) ⟨([],false)⟩ fun p=>o=some (R p)
theorem z2er {R:List Int×Bool→RF Un} {o:Option (RF Un)} (h:∃ p,o=some (R p)) : o=some (R (z2eq R o)):=@Classical.epsilon_spec (List Int×Bool) (fun p=>o=some (R p)) h
noncomputable def zg9 (r:Rel) : List Int×Bool:=z2eq z4l (zq6 r)
def z18q (r:Rel) : Prop:=((r.op=9∨r.op=10∨r.op=11)→2≤r.kids.length)∧r.sz≤2000000∧clR r≤2000000000
theorem z18r (r:Rel) (hk:2≤r.kids.length) (hc:clR r≤2000000000) : ∃ p,zim r=some (z4l p):=by
 have c0:∀ i,i<r.kids.length→(Rel.cols (r.kids.getD i za)).length≤2000000000:=fun i hi=>by
  have h1:=zg5 (z61 (l:=r.kids) (d:=za) hi);grind [zg4,za]
 unfold zim;rw[z6 (by omega),z6 (c0 0 (by omega)),z6 (by omega),z6 (c0 1 (by omega))];generalize ha : z1g (Rel.cols (r.kids.getD 0 za))=a;generalize hb : z1g (Rel.cols (r.kids.getD 1 za))=b;have hal:a.length≤2000000000:=by grind [z1g,List.length_map]
 refine zx6 (L:=zg7) (C:=zmp) (st:=fun (v:List Int) i=>z4u r i v) (n:=min a.length b.length) (by omega) (fun i v=>v.length≤i)
  (fun v i hi hI=>?_) (fun v hI=>?_) [] (yb _)
 ·rw[z18p];simp only[ha,hb,y5];cases hJ : (z63 (a.getD i 0) (b.getD i 0)).2 with
  | false=>exact .inr ⟨_,by rw[z8,if_pos (by grind),z8,if_pos (by grind),z6 (by omega),z6 (by omega)];exact z1ie _ _ _⟩
  | true =>
   exact .inl ⟨v++[(z63 (a.getD i 0) (b.getD i 0)).1],by grind,by
    rw[z8,if_pos (by grind),z8,if_pos (by grind),z6 (by omega),z6 (by omega),z8,if_neg (by simp),z6 (by grind [zi,List.length_singleton])]⟩
 ·have e:zg7 (z4u r ((min a.length b.length:Nat):Int) v)=some (.exit 7,z4u r ((min a.length b.length:Nat):Int) v):=by
   rw[z18p];simp only[ha,hb,z8,decide_eq_true_eq];grind
  grind [zg,trans,z1n7]
theorem z2es (r:Rel) (hr:WS .rel r) (h:z18q r) : ∃ p,zq6 r=some (z4l p):=by
 obtain⟨hk,hs,hc⟩:=h;have h0:=zg4 r;have h3:=r.sz_eq;have hl:=z62 r.terms;have hla:=z1hi r.aggs;rw[z27b];rw[z6 (show r.cols.length≤2000000000 by omega),Rel.ids_eq,z6 hc];refine z13m (fun _=>⟨_,rfl⟩) fun _=>z13m (fun _=>⟨_,rfl⟩) fun _=>z13m (fun _=>?_) fun _=>z13m (fun _=>?_) fun _=>z13m (fun c=>z18r r (hk (.inl (by grind))) hc) fun _=>z13m (fun c=>z18r r (hk (.inr (.inl (by grind)))) hc) fun _=>z13m (fun c=>z18r r (hk (.inr (.inr (by grind)))) hc) fun _=>⟨_,rfl⟩
 ·refine zx6 (L:=zq5) (C:=zzk) (st:=fun (v:List Int) i=>zez r i v) (n:=r.terms.length) (by omega) (fun i v=>v.length≤i) (fun v i hi hI=>.inl ?_) (fun v hI=>?_) [] (yb _)
  ·exact⟨v++[Term.type (r.terms.getD i zb)],by grind,by
    rw[z1ff,y5,z8,if_pos (by grind),z6 (by omega),z6 (by grind [zi,List.length_singleton])]⟩
  ·exact⟨_,(zg (by rw[z1ff,z8,if_neg (by simp)])).trans (z1sd _ _ _)⟩
 ·refine zx6 (L:=zg6) (C:=zvd) (st:=fun (v:List Int) i=>z86 r i v) (n:=r.terms.length) (by omega) (fun i v=>v.length≤i) (fun v i hi hI=>.inl ?_) (fun v hI=>?_) [] (yb _)
  ·exact⟨v++[Term.type (r.terms.getD i zb)],by grind,by
    rw[z18n,y5,z8,if_pos (by grind),z6 (by omega),z6 (by grind [zi,List.length_singleton])]⟩
  ·rw[zg (show zg6 (z86 r (r.terms.length:Int) v)=some (.exit 3,z86 r (r.terms.length:Int) v) by rw[z18n,z8,if_neg (by simp)]),z1n5];refine zx6 (L:=z87) (C:=zg8) (st:=fun (v:List Int) i=>z5l r v i) (n:=r.aggs.length) (by omega) (fun i v=>v.length≤4000000+i) (fun v i hi hI=>?_) (fun v hI=>?_) v (by omega)
   ·rw[z18o,y5,z8,if_pos (by grind),z6 (by omega)]
    have step:∀ p : Int×Int,(∃ b : List Int,b.length≤4000000+(i+1)∧cndO (p.2 != 0) (some (.ret,zaj r v i)) (obO ((v.length+[p.1].length)*(8:Nat)≤zi) (z87 (z5l r (v++[p.1]) (IntKind.i64.wrap ((i:Int)+1)))))=z87 (z5l r b (IntKind.i64.wrap ((i:Int)+1)))) ∨
      ∃ q,(cndO (p.2 != 0) (some (.ret,zaj r v i)) (obO ((v.length+[p.1].length)*(8:Nat)≤zi) (z87 (z5l r (v++[p.1]) (IntKind.i64.wrap ((i:Int)+1)))))).bind (zd zg8)=some (z4l q):=fun p=>by
     cases hp : (p.2 != 0) with
     | true=>exact .inr ⟨_,z1id _ _ _⟩
     | false=>exact .inl ⟨v++[p.1],by grind,by rw[z8,if_neg (by simp),z6 (by grind [zi,List.length_singleton])]⟩
    by_cases c : (↑(Agg.t (r.aggs.getD i zp)).length:Int) > (0:Int)
    all_goals simp_all [z8,if_pos,z6,step,if_neg]
   ·exact⟨_,(zg (by rw[z18o,z8,if_neg (by simp)])).trans (z1n6 _ _ _)⟩
theorem z1yb (r:Rel) (hr:WS .rel r) (h:z18q r) : zq6 r=some (z4l (zg9 r)):=z2er (z2es r hr h)
def z1n8 : FnC Un:=fnF1 (dS .rel) fun r=>([z18q r],z4l (zg9 r))
theorem z27c : FnOK 81 z1n8:=fnK1 zq (M:=z7x) rfl ⟨zml,z2b6,zz8,z18m,trivial⟩ trivial trivial trivial trivial Tryz.func81 fun r=>GiF.r fun w o=>z1yb r (wfA_ w 0) (obA_ o 0)
end
end B
namespace B
open Go Go.RowKit
set_option maxRecDepth 100000
noncomputable section
attribute [local irreducible] awp ctxK zu z1d retQ z1p awf ctxF z1o
mutual
def tyT : Term→Prop
 | .mk op _ depth at_ _ kids sub _=>(op=2→0≤depth∧0≤at_)∧tyTs kids∧tyRs sub
def tyTs : List Term→Prop
 | []=>True
 | t::l=>tyT t∧tyTs l
def tyA : Agg→Prop
 | .mk _ _ t=>tyTs t
def tyAs : List Agg→Prop
 | []=>True
 | a::l=>tyA a∧tyAs l
def tyR : Rel→Prop
 | .mk op _ _ kids terms aggs _ _ _ _ _=>((op=9∨op=10∨op=11)→2≤kids.length)∧tyRs kids∧tyTs terms∧tyAs aggs
def tyRs : List Rel→Prop
 | []=>True
 | r::l=>tyR r∧tyRs l
end
theorem z2et (t:Term) : tyT t↔((t.op=2→0≤t.depth∧0≤t.at_)∧tyTs t.kids∧tyRs t.sub):=by cases t;simp only[tyT,Term.op_mk,Term.depth_mk,Term.at__mk,Term.kids_mk,Term.sub_mk]
theorem z2eu (r:Rel) : tyR r↔(((r.op=9∨r.op=10∨r.op=11)→2≤r.kids.length)∧tyRs r.kids∧tyTs r.terms∧tyAs r.aggs):=by cases r;simp only[tyR,Rel.op_mk,Rel.kids_mk,Rel.terms_mk,Rel.aggs_mk]
theorem z2ev (a:Agg) : tyA a↔tyTs a.t:=by cases a;simp only[tyA,Agg.t_mk]
theorem z13n : ∀ {l:List Term},tyTs l→∀ t∈l,tyT t
 | x::l,h,t,ht=>by
  rcases yf.1 ht with rfl | ht
  ·exact h.1
  ·exact z13n h.2 t ht
theorem z1if : ∀ {l:List Rel},tyRs l→∀ t∈l,tyR t
 | x::l,h,t,ht=>by
  rcases yf.1 ht with rfl | ht
  ·exact h.1
  ·exact z1if h.2 t ht
theorem z22h : ∀ {l:List Agg},tyAs l→∀ a∈l,tyA a
 | x::l,h,t,ht=>by
  rcases yf.1 ht with rfl | ht
  ·exact h.1
  ·exact z22h h.2 t ht
noncomputable def endT (t:Term) (env:List (List Int)) (l:List Int) : Bool :=
 if t.op=1 then t.v.kind == 0 || t.v.kind == t.type
 else if t.op=2 then decide (t.depth<(env.length:Int)) && (decide (t.at_<((env.getD t.depth.toNat []).length:Int)) && (env.getD t.depth.toNat []).getD t.at_.toNat 0 == t.type)
 else if t.op=24 then (zoc t.name l).2 == 0 && (zoc t.name l).1 == t.type
 else if t.op=27 then t.type == 1
 else if t.op=26 then (t.sub.length:Int) == 1 && (((Rel.cols (t.sub.getD 0 za)).length:Int) == 1 && ((Rel.cols (t.sub.getD 0 za)).getD 0 zem).type == t.type)
 else if t.op=28 then (t.sub.length:Int) == 1 && (((Rel.cols (t.sub.getD 0 za)).length:Int) == 1 && ((l.length:Int) == 1 && ((z63 (l.getD 0 0) ((Rel.cols (t.sub.getD 0 za)).getD 0 zem).type).2 && t.type == 1)))
 else (z110 t.op l).2 == 0 && (z110 t.op l).1 == t.type
noncomputable def endR (r:Rel) : Bool:=(zg9 r).2 && zx5 (zg9 r).1 (z1g r.cols)
mutual
noncomputable def tydT : Term→List (List Int)→Bool
 | .mk op v depth at_ name kids sub type,env=>z1c2 kids env && z1n9 sub env && endT (.mk op v depth at_ name kids sub type) env (kids.map Term.type)
noncomputable def z1c2 : List Term→List (List Int)→Bool
 | [],_=>true
 | t::l,env=>tydT t env && z1c2 l env
noncomputable def tydA : Agg→List (List Int)→Bool
 | .mk _ _ t,env=>z1c2 t env
noncomputable def z1zx : List Agg→List (List Int)→Bool
 | [],_=>true
 | a::l,env=>tydA a env && z1zx l env
noncomputable def tydR : Rel→List (List Int)→Bool
 | .mk op table cols kids terms aggs keys limit skip all rows,env=>z1n9 kids env && (rows.all (fun x=>z90 x cols) && (z1c2 terms (z2d (.mk op table cols kids terms aggs keys limit skip all rows)::env) && (z1zx aggs (z2d (.mk op table cols kids terms aggs keys limit skip all rows)::env) && endR (.mk op table cols kids terms aggs keys limit skip all rows))))
noncomputable def z1n9 : List Rel→List (List Int)→Bool
 | [],_=>true
 | r::l,env=>tydR r env && z1n9 l env
end
theorem zx7 (env:List (List Int)) : ∀ l : List Term,z1c2 l env=l.all fun t=>tydT t env
 | []=>rfl
 | t::l=>by simp only[z1c2,y1g,zx7 env l]
theorem z18s (env:List (List Int)) : ∀ l : List Rel,z1n9 l env=l.all fun t=>tydR t env
 | []=>rfl
 | t::l=>by simp only[z1n9,y1g,z18s env l]
theorem z1vp (env:List (List Int)) : ∀ l : List Agg,z1zx l env=l.all fun a=>a.t.all fun t=>tydT t env
 | []=>rfl
 | .mk _ _ t::l=>by simp only[z1zx,tydA,y1g,z1vp env l,zx7,Agg.t_mk]
theorem z2ks (t:Term) (env:List (List Int)) : tydT t env=(t.kids.all (fun k=>tydT k env) && t.sub.all (fun k=>tydR k env) && endT t env (t.kids.map Term.type)):=by cases t;simp only[tydT,zx7,z18s,Term.kids_mk,Term.sub_mk]
theorem z2kt (r:Rel) (env:List (List Int)) : tydR r env=(r.kids.all (fun k=>tydR k env) && (r.rows.all (fun x=>z90 x r.cols) && (r.terms.all (fun t=>tydT t (z2d r::env)) && (r.aggs.all (fun a=>a.t.all fun t=>tydT t (z2d r::env)) && endR r)))):=by
 cases r;simp only[tydR,zx7,z18s,z1vp,Rel.kids_mk,Rel.terms_mk,Rel.aggs_mk,Rel.rows_mk,Rel.cols_mk]
noncomputable def z88 (t:Term) (env:List (List Int)) : Bool:=tydT t env
noncomputable def z9o (r:Rel) (env:List (List Int)) : Bool:=tydR r env
def zmq (m:Nat) : FnC Un:=fnF2 (dS .term) (dL .ints) fun t env=>z2m (2*t.ht) m ([t.sz≤2000000,clT t≤2000000000,tyT t,env.length+t.ht≤8000000],z9f (z88 t env))
def zmr (m:Nat) : FnC Un:=fnF2 (dS .rel) (dL .ints) fun r env=>z2m (2*r.ht+1) m ([r.sz≤2000000,clR r≤2000000000,tyR r,env.length+r.ht≤8000000],z9f (z9o r env))
def zf0 (m:Nat) : Mc Un:=mcF_ [(24,zmq m),(42,zmr m),(60,z1n0),(61,zti),(62,z22b)] [] [] [] []
def zin : Nat→NS:=nsF_ [(3,{ ts:=bl 198 118,bs:=bl 198 4,nm:=[(.sl 5,792)],cs:=true }),(9,{ ts:=bl 198 182,bs:=bl 198 4,nm:=[(.sl 5,793)],cs:=true })] true
def z89 (t:Term) (env:List (List Int)) (v0:Int) (v1:List Int) : S Un:=(st 198 198 794 0 [(1,al .ints env),(2,ax 2),(4,ab false),(5,ao 792),(6,ai v0)] [(2,bg .term t)] [(792,some ⟨(0:Nat),Ty.int,v1,some (0:Nat),true⟩)])
def z6u (t:Term) (env:List (List Int)) (v1:List Int) (v2:Int) : S Un:=(st 198 198 794 0 [(1,al .ints env),(2,ax 2),(4,ab false),(5,ao 793),(7,ai v2)] [(2,bg .term t)] [(793,some ⟨(0:Nat),Ty.int,v1,some (0:Nat),true⟩)])
def zms (m:Nat) : S Un→Option (EX Un):=lpF_ (zf0 m) zin Tryz.f24 [1,1,0,1,2,2] 3
def zmt (m:Nat) : S Un→Option (EX Un):=lpF_ (zf0 m) zin Tryz.f24 [1,1,1,0,1,2,2] 9
def zmu (m:Nat) : Exit→S Un→Option (RF Un):=cxF_ (zf0 m) zin Tryz.f24 [1,1,0,1,2] [.d]
def zga (m:Nat) : Exit→S Un→Option (RF Un):=cxF_ (zf0 m) zin Tryz.f24 [1,1,1,0,1,2] [.d]
def z18t (m:Nat) (t:Term) (env:List (List Int)) : Option (RF Un):=fnF_ (zf0 m) zin Tryz.f24 2 [.d] [.d (.agg (enc Ty.term t)),.d (.v (.dat (U:=Un) Ty.ints env))]
theorem z22i (m:Nat) (t:Term) (env:List (List Int)) : z18t m t env=(zms m (z89 t env (0:Int) ([]))).bind (zd (zmu m)):=by kernel_rfl
theorem z18u (m:Nat) (t:Term) (env:List (List Int)) (v0:Int) (v1:List Int) : zms m (z89 t env v0 v1)=cndO (decide (v0<(↑t.kids.length:Int))) (obO (0≤v0∧v0<(↑t.kids.length:Int)) (obO ((2:Nat)*(Term.ids (t.kids.getD v0.toNat zb)).ht<m) (obO ((Term.ids (t.kids.getD v0.toNat zb)).sz≤(2000000:Nat)) (obO (clT (Term.ids (t.kids.getD v0.toNat zb))≤(2000000000:Nat)) (obO (tyT (Term.ids (t.kids.getD v0.toNat zb))) (obO (env.length+(Term.ids (t.kids.getD v0.toNat zb)).ht≤(8000000:Nat)) (cndO (!z88 (Term.ids (t.kids.getD v0.toNat zb)) env) (some (.ret,(z89 t env v0 v1))) (obO (0≤v0∧v0<(↑t.kids.length:Int)) (obO ((v1.length+[Term.type (t.kids.getD v0.toNat zb)].length)*(8:Nat)≤zi) (zms m (z89 t env (IntKind.i64.wrap (v0+1)) (v1++[Term.type (t.kids.getD v0.toNat zb)])))))))))))) (some (.exit 0,(z89 t env v0 v1))):=lpQ_ (by kernel_rfl)
theorem z1ig (m:Nat) (t:Term) (env:List (List Int)) (v0:Int) (v1:List Int) : zmu m .ret (z89 t env v0 v1)=some (z9f (false)):=by kernel_rfl
theorem z1na (m:Nat) (t:Term) (env:List (List Int)) (v0:Int) (v1:List Int) : zmu m (.exit 0) (z89 t env v0 v1)=(zmt m (z6u t env v1 (0:Int))).bind (zd (zga m)):=by kernel_rfl
theorem z18v (m:Nat) (t:Term) (env:List (List Int)) (v1:List Int) (v2:Int) : zmt m (z6u t env v1 v2)=cndO (decide (v2<(↑t.sub.length:Int))) (obO (0≤v2∧v2<(↑t.sub.length:Int)) (obO ((2:Nat)*(Rel.ids (t.sub.getD v2.toNat za)).ht+(1:Nat)<m) (obO ((Rel.ids (t.sub.getD v2.toNat za)).sz≤(2000000:Nat)) (obO (clR (Rel.ids (t.sub.getD v2.toNat za))≤(2000000000:Nat)) (obO (tyR (Rel.ids (t.sub.getD v2.toNat za))) (obO (env.length+(Rel.ids (t.sub.getD v2.toNat za)).ht≤(8000000:Nat)) (cndO (!z9o (Rel.ids (t.sub.getD v2.toNat za)) env) (some (.ret,(z6u t env v1 v2))) (zmt m (z6u t env v1 (IntKind.i64.wrap (v2+1))))))))))) (some (.exit 2,(z6u t env v1 v2))):=lpQ_ (by kernel_rfl)
theorem z1ih (m:Nat) (t:Term) (env:List (List Int)) (v1:List Int) (v2:Int) : zga m .ret (z6u t env v1 v2)=some (z9f (false)):=by kernel_rfl
theorem z1nb (m:Nat) (t:Term) (env:List (List Int)) (v1:List Int) (v2:Int) : zga m (.exit 2) (z6u t env v1 v2)=cndO (t.op == 1) (cndO (t.v.kind == 0) (some (z9f (true))) (some (z9f (t.v.kind == t.type)))) (cndO (t.op == 2) (cndO (decide (t.depth<(↑env.length:Int))) (obO (0≤t.depth∧t.depth<(↑env.length:Int)) (cndO (decide (t.at_<(↑(List.length (env.getD t.depth.toNat [])):Int))) (obO (0≤t.depth∧t.depth<(↑env.length:Int)) (obO (0≤t.at_∧t.at_<(↑(List.length (env.getD t.depth.toNat [])):Int)) (some (z9f (List.getD (env.getD t.depth.toNat []) t.at_.toNat (0:Int) == t.type))))) (some (z9f (false))))) (some (z9f (false)))) (cndO (t.op == 24) (cndO ((zoc t.name v1).snd == 0) (some (z9f ((zoc t.name v1).fst == t.type))) (some (z9f (false)))) (cndO (t.op == 27) (some (z9f (t.type == 1))) (cndO (t.op == 26) (cndO ((↑t.sub.length:Int) == (1:Int)) (obO ((0:Int)≤(0:Int)∧(0:Int)<(↑t.sub.length:Int)) (cndO ((↑(Rel.cols (t.sub.getD 0 za)).length:Int) == (1:Int)) (obO ((0:Int)≤(0:Int)∧(0:Int)<(↑t.sub.length:Int)) (obO ((0:Int)≤(0:Int)∧(0:Int)<(↑(Rel.cols (t.sub.getD 0 za)).length:Int)) (some (z9f (((Rel.cols (t.sub.getD 0 za)).getD 0 zem).type == t.type))))) (some (z9f (false))))) (some (z9f (false)))) (cndO (t.op == 28) (cndO ((↑t.sub.length:Int) != (1:Int)) (some (z9f (false))) (obO ((0:Int)≤(0:Int)∧(0:Int)<(↑t.sub.length:Int)) (cndO ((↑(Rel.cols (t.sub.getD 0 za)).length:Int) != (1:Int)) (some (z9f (false))) (cndO ((↑v1.length:Int) != (1:Int)) (some (z9f (false))) (obO ((0:Int)≤(0:Int)∧(0:Int)<(↑v1.length:Int)) (obO ((0:Int)≤(0:Int)∧(0:Int)<(↑t.sub.length:Int)) (obO ((0:Int)≤(0:Int)∧(0:Int)<(↑(Rel.cols (t.sub.getD 0 za)).length:Int)) (cndO ((z63 (v1.getD 0 (0:Int)) ((Rel.cols (t.sub.getD 0 za)).getD 0 zem).type).snd) (some (z9f (t.type == 1))) (some (z9f (false))))))))))) (obO (v1.length≤(2000000:Nat)) (cndO ((z110 t.op v1).snd == 0) (some (z9f ((z110 t.op v1).fst == t.type))) (some (z9f (false)))))))))):=by kernel_rfl
theorem z18w {α β:Type} {L:S Un→Option (EX Un)} {st:Int→S Un} {C:Exit→S Un→Option β} (R:Bool→Option β) {l:List α} {d:α} {e:Exit} (q:α→Bool) (hl:l.length≤9223372036854775807)
  (step:∀ (i:Nat) (x:α),(i:Int)<(l.length:Int)→l.getD i d=x→x∈l→L (st i)=if q x=true then L (st (IntKind.i64.wrap ((i:Int)+1))) else some (.ret,st i))
  (stop:L (st (l.length:Int))=some (e,st (l.length:Int))) (r1:∀ i : Int,C .ret (st i)=R false) (r2:C e (st (l.length:Int))=R true) : (L (st 0)).bind (zd C)=R (l.all q):=by
 have key:∀ (k i:Nat),i+k=l.length→(L (st i)).bind (zd C)=R ((l.drop i).all q):=by
  intro k
  induction k with
  | zero =>
   intro i hi;obtain rfl : i=l.length:=by omega
   rw[stop,y3b];exact r2
  | succ k ih =>
   intro i hi;have hlt:i<l.length:=by omega
   rw[step i l[i] (by omega) (by rw[yc,y9 hlt];rfl) (y1t hlt),y1y hlt,y1g];cases hq : q l[i]
   ·rw[if_neg (by decide)];exact r1 _
   ·rw[if_pos rfl,z1j (by omega),y18];exact ih (i+1) (by omega)
 exact key l.length 0 (by omega)
theorem za5 {R:Bool→RF Un} {a x:Bool} {X:Option (RF Un)} (h:a=true→X=some (R x)) : cndO a X (some (R false))=some (R (a && x)):=by
 cases a
 ·rfl
 ·exact h rfl
theorem z2mm {R:Bool→RF Un} {a x:Bool} {X:Option (RF Un)} (h:a=false→X=some (R x)) : cndO a (some (R true)) X=some (R (a || x)):=by
 cases a
 ·exact h rfl
 ·rfl
theorem z13o {R:Bool→RF Un} {a b x:Bool} {X:Option (RF Un)} (e:a=!b) (h:b=true→X=some (R x)) : cndO a (some (R false)) X=some (R (b && x)):=by
 subst e;cases b
 ·rfl
 ·exact h rfl
theorem z111 {R:Bool→RF Un} {a:Bool} {p:Prop} [Decidable p] {x y:Bool} {X Y:Option (RF Un)} (e:(a=true)↔p) (hx:p→X=some (R x)) (hy:Y=some (R y)) : cndO a X Y=some (R (if p then x else y)):=by
 cases a
 ·rw[if_neg (fun c=>Bool.false_ne_true (e.2 c))];exact hy
 ·rw[if_pos (e.1 rfl)];exact hx (e.1 rfl)
theorem z2ku (m:Nat) (t:Term) (env:List (List Int)) (l:List Int) (i:Int) (h:l.length≤2000000) (hy:t.op=2→0≤t.depth∧0≤t.at_) : zga m (.exit 2) (z6u t env l i)=some (z9f (endT t env l)):=by
 rw[z1nb];unfold endT;have q:∀ k : Int,((t.op == k)=true)↔t.op=k:=fun k=>beq_iff_eq;refine z111 (q 1) (fun _=>z2mm fun _=>rfl) (z111 (q 2) (fun c=>?_) (z111 (q 24) (fun _=>za5 fun _=>rfl) (z111 (q 27) (fun _=>rfl) (z111 (q 26) (fun _=>za5 fun c=>?_) (z111 (q 28) (fun _=>z13o rfl fun c=>?_) ?_)))))
 ·refine za5 fun c1=>?_;rw[decide_eq_true_eq] at c1;rw[z6 ⟨(hy c).1,c1⟩];refine za5 fun c2=>?_;rw[decide_eq_true_eq] at c2;rw[z6 ⟨(hy c).1,c1⟩,z6 ⟨(hy c).2,c2⟩]
 ·rw[beq_iff_eq] at c;rw[z6 (by omega)];refine za5 fun c2=>?_;rw[beq_iff_eq] at c2;rw[z6 (by omega),z6 (by omega)]
 ·rw[beq_iff_eq] at c;rw[z6 (by omega)];refine z13o rfl fun c2=>z13o rfl fun c3=>?_;rw[beq_iff_eq] at c2 c3;rw[z6 (by omega),z6 (by omega),z6 (by omega)];exact za5 fun _=>rfl
 ·rw[z6 h];exact za5 fun _=>rfl
theorem z1se (m:Nat) (t:Term) (env:List (List Int)) (ht:WS .term t) (_he:WL .ints env) (hm:2*t.ht<m+1) (h:t.sz≤2000000) (hc:clT t≤2000000000) (hy:tyT t) (hl:env.length+t.ht≤8000000) : z18t m t env=some (z9f (z88 t env)):=by
 obtain⟨y1,y2,y3⟩:=(z2et t).1 hy;have c0:=z22g t;have h3:=t.sz_eq;have hkl:=z62 t.kids
 have l2:=z18w (L:=zmt m) (st:=fun i=>z6u t env (t.kids.map Term.type) i) (C:=zga m) (e:=.exit 2) (fun b=>some (z9f (b && endT t env (t.kids.map Term.type)))) (l:=t.sub) (d:=za) (fun r=>tydR r env) (ht.term_sub).len
  (fun i k hi hk hmem=>by
   have h1:=Term.ht_sub hmem;have h2:=zlw hmem;have h4:=zg5 hmem;rw[z18v];simp only[z8,hi,decide_true,if_true,and_true,y5,hk,Rel.ids_eq];rw[z6 (by omega),z6 (by omega),z6 (by omega),z6 (by omega),z6 (z1if y3 k hmem),z6 (by omega)];unfold z9o
   cases tydR k env<;>rfl)
  (by rw[z18v];simp [z8]) (fun i=>by rw[y1p];exact z1ih _ _ _ _ _)
  (by rw[y18];exact z2ku m t env _ _ (by rw[yz];omega) y1)
 rw[z22i,z88,z2ks,y3o]
 exact z18w (L:=zms m) (st:=fun i=>z89 t env i ((t.kids.take i.toNat).map Term.type)) (C:=zmu m) (e:=.exit 0) (fun b=>some (z9f (b && (t.sub.all (fun r=>tydR r env) && endT t env (t.kids.map Term.type))))) (l:=t.kids) (d:=zb) (fun t=>tydT t env) (ht.term_kids).len
  (fun i k hi hk hmem=>by
   have h1:=Term.ht_kid hmem;have h2:=zlv hmem;have h4:=zkg hmem;have hil:i<t.kids.length:=by omega
   have e:(t.kids.take (i+1)).map Term.type=(t.kids.take i).map Term.type++[k.type]:=by
    rw[y3p,y4b,← hk,yc,y9 hil];rfl
   rw[z18u,z40 hil (ht.term_kids).len];simp only[z8,hi,decide_true,if_true,and_true,y5,hk,Term.ids_eq];rw[z6 (by omega),z6 (by omega),z6 (by omega),z6 (by omega),z6 (z13n y2 k hmem),z6 (by omega),z6 (by omega),z6 (by unfold zi;rw[yz,yw,ye];omega),← e];unfold z88
   cases tydT k env<;>rfl)
  (by rw[z18u];simp [z8]) (fun i=>by rw[y1p];exact z1ig _ _ _ _ _) (by
   rw[y18,z1na,y5,y3k]
   exact l2)
abbrev z1ii (m:Nat) : Prop:=FnOK 24 (zmq m)∧FnOK 42 (zmr m)
theorem z1yc (m:Nat) (hG:z1ii m) : FnOK 24 (zmq (m+1)):=fnK2 zq z10 (M:=(zf0 m)) rfl ⟨hG.1,hG.2,z279,zz8,z2eo,trivial⟩ trivial trivial trivial trivial Tryz.func24 fun t env=>GiF.r fun w o=>z1se m t env (wfA_ w 0) (wfA_ w 1) (obA_ o 0) (obA_ o 1) (obA_ o 2) (obA_ o 3) (obA_ o 4)
def z51 (m:Nat) : Mc Un:=mcF_ [(42,zmr m),(79,z1i5),(80,zzh),(24,zmq m),(81,z1n8),(25,zik),(31,z1fe)] [] [] [] []
def z3w : Nat→NS:=nsF_ [(2,{ ts:=bl 107 54,bs:=bl 107 4,nm:=[],cs:=true }),(7,{ ts:=bl 107 86,bs:=bl 107 4,nm:=[],cs:=true }),(13,{ ts:=bl 107 404,bs:=bl 107 4,nm:=[(.sl 7,428)],cs:=true }),(18,{ ts:=bl 107 660,bs:=bl 107 4,nm:=[(.sl 7,429)],cs:=true }),(21,{ ts:=bl 107 1684,bs:=bl 107 4,nm:=[(.sl 7,430)],cs:=true })] true
def zmv (r:Rel):=zg9 (Rel.mk r.op r.table r.cols r.kids r.terms r.aggs r.keys r.limit r.skip r.all r.rows)
def z8a (r:Rel) (env:List (List Int)) (v0:Int) : S Un:=(st 107 107 431 0 [(1,al .ints env),(2,ax 2),(4,ab false),(5,ai v0)] [(2,bg .rel r)] [])
def z8b (r:Rel) (env:List (List Int)) (v1:Int) : S Un:=(st 107 107 431 0 [(1,al .ints env),(2,ax 2),(4,ab false),(6,ai v1)] [(2,bg .rel r)] [])
def z77 (r:Rel) (env:List (List Int)) (v2:Int) : S Un:=(st 107 107 431 0 [(2,ax 2),(4,ab false),(7,ao 428),(8,ai v2)] [(2,bg .rel r)] [(428,some ⟨(0:Nat),Ty.ints,z2d (Rel.ids r)::env,some (0:Nat),true⟩)])
def z52 (r:Rel) (env:List (List Int)) (v3:Int) : S Un:=(st 107 107 431 0 [(2,ax 2),(4,ab false),(7,ao 429),(9,ai v3)] [(2,bg .rel r)] [(429,some ⟨(0:Nat),Ty.ints,z2d (Rel.ids r)::env,some (0:Nat),true⟩)])
def z78 (r:Rel) (env:List (List Int)) (v3:Int) (v4:Int) : S Un:=(st 107 107 431 0 [(2,ax 2),(4,ab false),(7,ao 430),(9,ai v3),(10,ai v4)] [(2,bg .rel r)] [(430,some ⟨(0:Nat),Ty.ints,z2d (Rel.ids r)::env,some (0:Nat),true⟩)])
def zmw (m:Nat) : S Un→Option (EX Un):=lpF_ (z51 m) z3w Tryz.f42 [1,0,1,2,2] 2
def zmx (m:Nat) : S Un→Option (EX Un):=lpF_ (z51 m) z3w Tryz.f42 [1,1,0,1,2,2] 7
def zji (m:Nat) : S Un→Option (EX Un):=lpF_ (z51 m) z3w Tryz.f42 [1,1,1,1,0,1,2,2] 13
def zb7 (m:Nat) : S Un→Option (EX Un):=lpF_ (z51 m) z3w Tryz.f42 [1,1,1,1,1,0,1,2,2] 18
noncomputable def z157 : Code:=sub (sub (ze Tryz.f42) [1,1,1,1,1,0,1,2,2]) [1,0,2,1,2,2]
def zjj (m:Nat) : S Un→Option (EX Un):=z1o (z3w 21) (fun s Q=>awf (z51 m) z3w z157 s Q)
def zmy (m:Nat) : Exit→S Un→Option (RF Un):=cxF_ (z51 m) z3w Tryz.f42 [1,0,1,2] [.d]
def zmz (m:Nat) : Exit→S Un→Option (RF Un):=cxF_ (z51 m) z3w Tryz.f42 [1,1,0,1,2] [.d]
def zjk (m:Nat) : Exit→S Un→Option (RF Un):=cxF_ (z51 m) z3w Tryz.f42 [1,1,1,1,0,1,2] [.d]
def zjl (m:Nat) : Exit→S Un→Option (RF Un):=cxF_ (z51 m) z3w Tryz.f42 [1,1,1,1,1,0,1,2] [.d]
def zjm (m:Nat) : Exit→S Un→Option (EX Un):=ctxF (z51 m) z3w (sub (ze Tryz.f42) [1,1,1,1,1,0,1,2,2]) [1,0,2,1,2] (zcp (z3w 18) (zb7 m))
def z18x (m:Nat) (r:Rel) (env:List (List Int)) : Option (RF Un):=fnF_ (z51 m) z3w Tryz.f42 3 [.d] [.d (.agg (enc Ty.rel r)),.d (.v (.dat (U:=Un) Ty.ints env))]
theorem z22j (m:Nat) (r:Rel) (env:List (List Int)) : z18x m r env=(zmw m (z8a r env (0:Int))).bind (zd (zmy m)):=by kernel_rfl
theorem z18y (m:Nat) (r:Rel) (env:List (List Int)) (v0:Int) : zmw m (z8a r env v0)=cndO (decide (v0<(↑r.kids.length:Int))) (obO (0≤v0∧v0<(↑r.kids.length:Int)) (obO ((2:Nat)*(Rel.ids (r.kids.getD v0.toNat za)).ht+(1:Nat)<m) (obO ((Rel.ids (r.kids.getD v0.toNat za)).sz≤(2000000:Nat)) (obO (clR (Rel.ids (r.kids.getD v0.toNat za))≤(2000000000:Nat)) (obO (tyR (Rel.ids (r.kids.getD v0.toNat za))) (obO (env.length+(Rel.ids (r.kids.getD v0.toNat za)).ht≤(8000000:Nat)) (cndO (!z9o (Rel.ids (r.kids.getD v0.toNat za)) env) (some (.ret,(z8a r env v0))) (zmw m (z8a r env (IntKind.i64.wrap (v0+1))))))))))) (some (.exit 0,(z8a r env v0))):=lpQ_ (by kernel_rfl)
theorem z1ij (m:Nat) (r:Rel) (env:List (List Int)) (v0:Int) : zmy m .ret (z8a r env v0)=some (z9f (false)):=by kernel_rfl
theorem z1nc (m:Nat) (r:Rel) (env:List (List Int)) (v0:Int) : zmy m (.exit 0) (z8a r env v0)=(zmx m (z8b r env (0:Int))).bind (zd (zmz m)):=by kernel_rfl
theorem z18z (m:Nat) (r:Rel) (env:List (List Int)) (v1:Int) : zmx m (z8b r env v1)=cndO (decide (v1<(↑r.rows.length:Int))) (obO (0≤v1∧v1<(↑r.rows.length:Int)) (cndO (!z90 (r.rows.getD v1.toNat []) r.cols) (some (.ret,(z8b r env v1))) (zmx m (z8b r env (IntKind.i64.wrap (v1+1)))))) (some (.exit 2,(z8b r env v1))):=lpQ_ (by kernel_rfl)
theorem z1ik (m:Nat) (r:Rel) (env:List (List Int)) (v1:Int) : zmz m .ret (z8b r env v1)=some (z9f (false)):=by kernel_rfl
theorem z1nd (m:Nat) (r:Rel) (env:List (List Int)) (v1:Int) : zmz m (.exit 2) (z8b r env v1)=obO (clR (Rel.ids r)≤(2000000000:Nat)) (obO (([z2d (Rel.ids r)].length+env.length)*(24:Nat)≤zi) ((zji m (z77 r env (0:Int))).bind (zd (zjk m)))):=by kernel_rfl
theorem z158 (m:Nat) (r:Rel) (env:List (List Int)) (v2:Int) : zji m (z77 r env v2)=cndO (decide (v2<(↑r.terms.length:Int))) (obO (0≤v2∧v2<(↑r.terms.length:Int)) (obO ((2:Nat)*(Term.ids (r.terms.getD v2.toNat zb)).ht<m) (obO ((Term.ids (r.terms.getD v2.toNat zb)).sz≤(2000000:Nat)) (obO (clT (Term.ids (r.terms.getD v2.toNat zb))≤(2000000000:Nat)) (obO (tyT (Term.ids (r.terms.getD v2.toNat zb))) (obO ((z2d (Rel.ids r)::env).length+(Term.ids (r.terms.getD v2.toNat zb)).ht≤(8000000:Nat)) (cndO (!z88 (Term.ids (r.terms.getD v2.toNat zb)) (z2d (Rel.ids r)::env)) (some (.ret,(z77 r env v2))) (zji m (z77 r env (IntKind.i64.wrap (v2+1))))))))))) (some (.exit 4,(z77 r env v2))):=lpQ_ (by kernel_rfl)
theorem z1cu (m:Nat) (r:Rel) (env:List (List Int)) (v2:Int) : zjk m .ret (z77 r env v2)=some (z9f (false)):=by kernel_rfl
theorem z1il (m:Nat) (r:Rel) (env:List (List Int)) (v2:Int) : zjk m (.exit 4) (z77 r env v2)=(zb7 m (z52 r env (0:Int))).bind (zd (zjl m)):=by kernel_rfl
theorem z159 (m:Nat) (r:Rel) (env:List (List Int)) (v3:Int) : zb7 m (z52 r env v3)=cndO (decide (v3<(↑r.aggs.length:Int))) ((zjj m (z78 r env v3 (0:Int))).bind (zd (zjm m))) (some (.exit 6,(z52 r env v3))):=lpQ_ (by kernel_rfl)
theorem z1im (m:Nat) (r:Rel) (env:List (List Int)) (v3:Int) : zjl m (.exit 6) (z52 r env v3)=obO (z18q (Rel.ids r)) (cndO ((zmv r).snd) (obO (r.cols.length≤(2000000000:Nat)) (some (z9f (zx5 (zmv r).fst (z1g r.cols))))) (some (z9f (false)))):=by kernel_rfl
theorem z15a (m:Nat) (r:Rel) (env:List (List Int)) (v3:Int) (v4:Int) : zjj m (z78 r env v3 v4)=obO (0≤v3∧v3<(↑r.aggs.length:Int)) (cndO (decide (v4<(↑(Agg.t (r.aggs.getD v3.toNat zp)).length:Int))) (obO (0≤v3∧v3<(↑r.aggs.length:Int)) (obO (0≤v4∧v4<(↑(Agg.t (r.aggs.getD v3.toNat zp)).length:Int)) (obO ((2:Nat)*(Term.ids ((Agg.t (r.aggs.getD v3.toNat zp)).getD v4.toNat zb)).ht<m) (obO ((Term.ids ((Agg.t (r.aggs.getD v3.toNat zp)).getD v4.toNat zb)).sz≤(2000000:Nat)) (obO (clT (Term.ids ((Agg.t (r.aggs.getD v3.toNat zp)).getD v4.toNat zb))≤(2000000000:Nat)) (obO (tyT (Term.ids ((Agg.t (r.aggs.getD v3.toNat zp)).getD v4.toNat zb))) (obO ((z2d (Rel.ids r)::env).length+(Term.ids ((Agg.t (r.aggs.getD v3.toNat zp)).getD v4.toNat zb)).ht≤(8000000:Nat)) (cndO (!z88 (Term.ids ((Agg.t (r.aggs.getD v3.toNat zp)).getD v4.toNat zb)) (z2d (Rel.ids r)::env)) (some (.ret,(z78 r env v3 v4))) (zjj m (z78 r env v3 (IntKind.i64.wrap (v4+1)))))))))))) (some (.exit 8,(z78 r env v3 v4)))):=(zc5 (z3w 21) z157 _).trans (by kernel_rfl)
theorem z1cv (m:Nat) (r:Rel) (env:List (List Int)) (v3:Int) (v4:Int) : zjm m .ret (z78 r env v3 v4)=some (.ret,(z52 r env v3)):=by kernel_rfl
theorem z1cw (m:Nat) (r:Rel) (env:List (List Int)) (v3:Int) : zjl m .ret (z52 r env v3)=some (z9f (false)):=by kernel_rfl
theorem z1in (m:Nat) (r:Rel) (env:List (List Int)) (v3:Int) (v4:Int) : zjm m (.exit 8) (z78 r env v3 v4)=zb7 m (z52 r env (IntKind.i64.wrap (v3+1))):=by kernel_rfl
theorem z1sf (m:Nat) (r:Rel) (env:List (List Int)) (hr:WS .rel r) (_he:WL .ints env) (hm:2*r.ht+1<m+1) (h:r.sz≤2000000) (hc:clR r≤2000000000) (hy:tyR r) (hl:env.length+r.ht≤8000000) : z18x m r env=some (z9f (z9o r env)):=by
 obtain⟨y1,y2,y3,y4⟩:=(z2eu r).1 hy;obtain⟨p1,p2⟩:=zva r;have c0:=zg4 r;have h3:=r.sz_eq;have hcr:zmv r=zg9 r:=by unfold zmv;exact congrArg zg9 (by cases r;rfl)
 have l4:=z32 (L:=zb7 m) (st:=fun i=>z52 r env i) (C:=zjl m) (e:=.exit 6) (fun b=>some (z9f (b && endR r))) (l:=r.aggs) (d:=zp) (fun a=>a.t.all fun t=>tydT t (z2d r::env)) (hr.rel_aggs).len
  (fun i k hi hk hmem=>by
   have hka:=z1ic hmem;rw[z2ep] at hka
   have li:=z32 (L:=zjj m) (st:=fun j=>z78 r env i j) (C:=zjm m) (e:=.exit 8) (fun b=>if b=true then zb7 m (z52 r env (IntKind.i64.wrap ((i:Int)+1))) else some (.ret,z52 r env i)) (l:=k.t) (d:=zb) (fun t=>tydT t (z2d r::env)) (by have:=z62 k.t;have:=zo8 hmem;have:=k.sz_eq;omega)
    (fun j t hj ht htm=>by
     obtain⟨h1,h2⟩:=p2 k hmem t htm;have h4:=zkg htm;rw[z15a];simp only[hk,z8,hi,hj,decide_true,if_true,and_true,y5,ht,Term.ids_eq,Rel.ids_eq];rw[z6 (by omega),z6 (by omega),z6 (by omega),z6 (by omega),z6 (by omega),z6 (by omega),z6 (z13n ((z2ev k).1 (z22h y4 k hmem)) t htm),z6 (by rw[yq];omega)];unfold z88
     cases tydT t (z2d r::env)<;>rfl)
    (by rw[z15a];simp only[z8,y5,hk,decide_eq_true_eq];rw[z6 (by omega),if_neg (by omega)]) (fun j=>z1cv _ _ _ _ _) (fun j=>z1in _ _ _ _ _)
   rw[z159];simp only[z8,hi,decide_true,if_true]
   exact li)
  (by rw[z159];simp [z8]) (fun i=>by rw[y1p];exact z1cw _ _ _ _) (fun i=>by
   rw[y18,z1im,hcr,Rel.ids_eq,z6 (show z18q r from ⟨y1,h,hc⟩),z6 (show r.cols.length≤2000000000 by omega)];unfold endR
   cases (zg9 r).2<;>rfl)
 have l3:=z32 (L:=zji m) (st:=fun i=>z77 r env i) (C:=zjk m) (e:=.exit 4) (fun b=>some (z9f (b && (r.aggs.all (fun a=>a.t.all fun t=>tydT t (z2d r::env)) && endR r)))) (l:=r.terms) (d:=zb) (fun t=>tydT t (z2d r::env)) (hr.rel_terms).len
  (fun i k hi hk hmem=>by
   obtain⟨h1,h2⟩:=p1 k hmem;have h4:=zkg hmem;rw[z158];simp only[z8,hi,decide_true,if_true,and_true,y5,hk,Term.ids_eq,Rel.ids_eq];rw[z6 (by omega),z6 (by omega),z6 (by omega),z6 (by omega),z6 (z13n y3 k hmem),z6 (by rw[yq];omega)];unfold z88
   cases tydT k (z2d r::env)<;>rfl)
  (by rw[z158];simp [z8]) (fun i=>by rw[y1p];exact z1cu _ _ _ _) (fun i=>by rw[y18];exact (z1il _ _ _ _).trans l4)
 have l2:=z32 (L:=zmx m) (st:=fun i=>z8b r env i) (C:=zmz m) (e:=.exit 2) (fun b=>some (z9f (b && (r.terms.all (fun t=>tydT t (z2d r::env)) && (r.aggs.all (fun a=>a.t.all fun t=>tydT t (z2d r::env)) && endR r))))) (l:=r.rows) (d:=[]) (fun x=>z90 x r.cols) (hr.rel_rows).len
  (fun i k hi hk hmem=>by
   rw[z18z];simp only[z8,hi,decide_true,if_true,and_true,y5,hk];rw[z6 (by omega)]
   cases z90 k r.cols<;>rfl)
  (by rw[z18z];simp [z8]) (fun i=>by rw[y1p];exact z1ik _ _ _ _) (fun i=>by
   rw[y18,z1nd,Rel.ids_eq,z6 hc,z6 (by unfold zi;rw[ye];omega)]
   exact l3)
 rw[z22j,z9o,z2kt]
 exact z32 (L:=zmw m) (st:=fun i=>z8a r env i) (C:=zmy m) (e:=.exit 0) (fun b=>some (z9f (b && (r.rows.all (fun x=>z90 x r.cols) && (r.terms.all (fun t=>tydT t (z2d r::env)) && (r.aggs.all (fun a=>a.t.all fun t=>tydT t (z2d r::env)) && endR r)))))) (l:=r.kids) (d:=za) (fun t=>tydR t env) (hr.rel_kids).len
  (fun i k hi hk hmem=>by
   have h1:=Rel.ht_kid hmem;have h2:=z9z hmem;have h4:=zg5 hmem;rw[z18y];simp only[z8,hi,decide_true,if_true,and_true,y5,hk,Rel.ids_eq];rw[z6 (by omega),z6 (by omega),z6 (by omega),z6 (by omega),z6 (z1if y2 k hmem),z6 (by omega)];unfold z9o
   cases tydR k env<;>rfl)
  (by rw[z18y];simp [z8]) (fun i=>by rw[y1p];exact z1ij _ _ _ _) (fun i=>by rw[y18];exact (z1nc _ _ _ _).trans l2)
theorem z1yd (m:Nat) (hG:z1ii m) : FnOK 42 (zmr (m+1)):=fnK2 zq z10 (M:=(z51 m)) rfl ⟨hG.2,z1vl,z18m,hG.1,z27c,zml,z22e,trivial⟩ trivial trivial trivial trivial Tryz.func42 fun r env=>GiF.r fun w o=>z1sf m r env (wfA_ w 0) (wfA_ w 1) (obA_ o 0) (obA_ o 1) (obA_ o 2) (obA_ o 3) (obA_ o 4)
theorem zn0 : ∀ m,z1ii m
 | 0=>⟨fnZ2,fnZ2⟩
 | m+1=>⟨z1yc m (zn0 m),z1yd m (zn0 m)⟩
def z1fg : FnC Un:=fnF2 (dS .term) (dL .ints) fun t env=>([t.sz≤2000000,clT t≤2000000000,tyT t,env.length+t.ht≤8000000],z9f (z88 t env))
theorem z22k : FnOK 24 z1fg:=fnA2 fun m=>(zn0 m).1
def z1fh : FnC Un:=fnF2 (dS .rel) (dL .ints) fun r env=>([r.sz≤2000000,clR r≤2000000000,tyR r,env.length+r.ht≤8000000],z9f (z9o r env))
theorem z22l : FnOK 42 z1fh:=fnA2 fun m=>(zn0 m).2
end
end B
namespace B
open Go Go.RowKit
set_option maxRecDepth 100000
noncomputable section
attribute [local irreducible] awp ctxK zu z1d retQ z1p awf ctxF z1o
def z1fi : Mc Un:=mcF_ [(29,z17z)] [] [] [] []
def z190 (r:Rel) (db:List Data) : Option (RF Un):=fnF_ z1fi z269 Tryz.f22 0 [.d] [.d (.agg (enc Ty.rel r)),.d (.v (.dat (U:=Un) Ty.data db))]
theorem z22m (r:Rel) (db:List Data) : z190 r db=obO ((Rel.ids r).sz≤(2000000:Nat)) (some (z9f (decide ((z6q (Rel.ids r) db).snd > 20000)))):=by kernel_rfl
def zdq (r:Rel) (db:List Data) : Bool:=decide ((z6q r db).2 > 20000)
theorem z1sg (r:Rel) (db:List Data) (_hr:WS .rel r) (_hd:WL .data db) (h:r.sz≤2000000) : z190 r db=some (z9f (zdq r db)):=by
 rw[z22m,Rel.ids_eq,z6 h];rfl
def zzm : FnC Un:=fnF2 (dS .rel) (dL .data) fun r db=>([r.sz≤2000000],z9f (zdq r db))
theorem z191 : FnOK 22 zzm:=fnK2 zq z10 (M:=z1fi) rfl ⟨z1xw,trivial⟩ trivial trivial trivial trivial Tryz.func22 fun r db=>GiF.r fun w o=>z1sg r db (wfA_ w 0) (wfA_ w 1) (obA_ o 0)
def zf1 : Mc Un:=mcF_ [(40,z1en),(28,z1me),(33,z1ve),(41,z1mq),(42,z1fh),(22,zzm)] [] [] [] []
def z9p : Nat→NS:=nsF_ [(5,{ ts:=bl 84 118,bs:=bl 84 4,nm:=[],cs:=true }),(9,{ ts:=bl 84 246,bs:=bl 84 4,nm:=[],cs:=true })] true
def z6v (r:Rel) (db:List Data) (v0:Int) (v1:Int) : S Un:=(st 84 84 336 0 [(1,al .data db),(2,ax 2),(4,ab false),(5,ai v0),(6,ai v1)] [(2,bg .rel r)] [])
def z6w (r:Rel) (db:List Data) (v0:Int) (v1:Int) (v2:Int) : S Un:=(st 84 84 336 0 [(1,al .data db),(2,ax 2),(4,ab false),(5,ai (IntKind.i64.wrap (v0+(↑(db.getD v1.toNat z3e).rows.length:Int)))),(6,ai v1),(7,ai v2)] [(2,bg .rel r)] [])
def ze0 (r:Rel) (db:List Data) (v0:Int) (v1:Int) : S Un:=(st 84 84 336 0 [(1,al .data db),(2,ax 2),(4,ab false),(5,ai (IntKind.i64.wrap (v0+(↑(db.getD v1.toNat z3e).rows.length:Int)))),(6,ai v1)] [(2,bg .rel r)] [])
def zd7 : S Un→Option (EX Un):=lpF_ zf1 z9p Tryz.f11 [1,1,1,0,1,2,2] 5
noncomputable def z192 : Code:=sub (sub (ze Tryz.f11) [1,1,1,0,1,2,2]) [1,0,2,1,1,2,2]
def zn1 : S Un→Option (EX Un):=z1o (z9p 9) (fun s Q=>awf zf1 z9p z192 s Q)
def zgb : Exit→S Un→Option (RF Un):=cxF_ zf1 z9p Tryz.f11 [1,1,1,0,1,2] [.d]
def zn2 : Exit→S Un→Option (EX Un):=ctxF zf1 z9p (sub (ze Tryz.f11) [1,1,1,0,1,2,2]) [1,0,2,1,1,2] (zcp (z9p 5) zd7)
def z193 (r:Rel) (db:List Data) : Option (RF Un):=fnF_ zf1 z9p Tryz.f11 0 [.d] [.d (.agg (enc Ty.rel r)),.d (.v (.dat (U:=Un) Ty.data db))]
theorem z22n (r:Rel) (db:List Data) : z193 r db=obO ((Rel.ids r).sz≤(2000000:Nat)) (cndO (decide (zdo (Rel.ids r) > 1000)) (some (z9f (false))) ((zd7 (z6v r db (0:Int) (0:Int))).bind (zd zgb))):=by kernel_rfl
theorem z194 (r:Rel) (db:List Data) (v0:Int) (v1:Int) : zd7 (z6v r db v0 v1)=cndO (decide (v1<(↑db.length:Int))) (cndO (decide (v1<5)) (obO (0≤v1∧v1<(↑db.length:Int)) ((zn1 (z6w r db v0 v1 (0:Int))).bind (zd zn2))) (some (.exit 0,(z6v r db v0 v1)))) (some (.exit 0,(z6v r db v0 v1))):=lpQ_ (by kernel_rfl)
theorem z1ne (r:Rel) (db:List Data) (v0:Int) (v1:Int) : zgb (.exit 0) (z6v r db v0 v1)=cndO (decide (v0≤12)) (cndO (decide ((↑db.length:Int)≤(4:Int))) (obO ((Rel.ids r).sz≤(2000000:Nat)) (cndO (decide (zg0 (Rel.ids r)≤24)) (obO (z2l [] (Rel.ids r).ht) (cndO (z9x (Rel.ids r) []) (obO ((Rel.ids r).sz≤(2000000:Nat)) (cndO (zce (Rel.ids r) db) (obO ((Rel.ids r).sz≤(2000000:Nat)) (obO (clR (Rel.ids r)≤(2000000000:Nat)) (obO (tyR (Rel.ids r)) (obO (0+(Rel.ids r).ht≤(8000000:Nat)) (cndO (z9o (Rel.ids r) []) (obO ((Rel.ids r).sz≤(2000000:Nat)) (some (z9f (!zdq (Rel.ids r) db)))) (some (z9f (false)))))))) (some (z9f (false))))) (some (z9f (false))))) (some (z9f (false))))) (some (z9f (false)))) (some (z9f (false))):=by kernel_rfl
theorem z195 (r:Rel) (db:List Data) (v0:Int) (v1:Int) (v2:Int) : zn1 (z6w r db v0 v1 v2)=obO (0≤v1∧v1<(↑db.length:Int)) (cndO (decide (v2<(↑(db.getD v1.toNat z3e).rows.length:Int))) (cndO (decide (v2<9)) (obO (0≤v1∧v1<(↑db.length:Int)) (obO (0≤v2∧v2<(↑(db.getD v1.toNat z3e).rows.length:Int)) (cndO (decide ((↑(List.length ((db.getD v1.toNat z3e).rows.getD v2.toNat [])):Int) > (6:Int))) (some (.ret,(z6w r db v0 v1 v2))) (zn1 (z6w r db v0 v1 (IntKind.i64.wrap (v2+1))))))) (some (.exit 2,(z6w r db v0 v1 v2)))) (some (.exit 2,(z6w r db v0 v1 v2)))):=(zc5 (z9p 9) z192 _).trans (by kernel_rfl)
theorem z1io (r:Rel) (db:List Data) (v0:Int) (v1:Int) (v2:Int) : zn2 .ret (z6w r db v0 v1 v2)=some (.ret,(ze0 r db v0 v1)):=by kernel_rfl
theorem z1ip (r:Rel) (db:List Data) (v0:Int) (v1:Int) : zgb .ret (ze0 r db v0 v1)=some (z9f (false)):=by kernel_rfl
theorem z1nf (r:Rel) (db:List Data) (v0:Int) (v1:Int) (v2:Int) : zn2 (.exit 2) (z6w r db v0 v1 v2)=zd7 (z6v r db (IntKind.i64.wrap (v0+(↑(db.getD v1.toNat z3e).rows.length:Int))) (IntKind.i64.wrap (v1+1))):=by kernel_rfl
theorem z2ew {α β:Type} {L:S Un→Option (EX Un)} {st er:Int→S Un} {C:Exit→S Un→Option β} (R:Bool→Option β) {l:List α} {d:α} {e:Exit} (q:α→Bool) (hl:l.length≤9223372036854775807)
  (step:∀ (i:Nat) (x:α),(i:Int)<(l.length:Int)→l.getD i d=x→x∈l→L (st i)=if q x=true then L (st (IntKind.i64.wrap ((i:Int)+1))) else some (.ret,er i))
  (stop:L (st (l.length:Int))=some (e,st (l.length:Int))) (r1:∀ i : Int,C .ret (er i)=R false) (r2:C e (st (l.length:Int))=R true) : (L (st 0)).bind (zd C)=R (l.all q):=by
 have key:∀ (k i:Nat),i+k=l.length→(L (st i)).bind (zd C)=R ((l.drop i).all q):=by
  intro k
  induction k with
  | zero =>
   intro i hi;obtain rfl : i=l.length:=by omega
   rw[stop,y3b];exact r2
  | succ k ih =>
   intro i hi;have hlt:i<l.length:=by omega
   rw[step i l[i] (by omega) (by grind) (y1t hlt),y1y hlt,y1g];cases hq : q l[i]
   ·exact r1 _
   ·rw[if_pos rfl,z1j (by omega),y18];grind
 exact key l.length 0 (by omega)
theorem z1vq {α:Type} {l:List α} {n i:Nat} {d x:α} (h:(i:Int)<((l.take n).length:Int)) (hx:(l.take n).getD i d=x) : l.getD i d=x∧i<l.length∧i<n:=by
 grind
def sumD (n:Int) (d:Data) : Int:=IntKind.i64.wrap (n+(d.rows.length:Int))
def z2b8 (d:Data) : Bool:=(d.rows.take 9).all fun x=>!decide ((x.length:Int) > 6)
noncomputable def z196 (r:Rel) (db:List Data) (n:Int) : Bool:=decide (n≤12) && (decide ((db.length:Int)≤4) && (decide (zg0 r≤24) && (z9x r [] && (zce r db && (z9o r [] && !zdq r db)))))
noncomputable def zr8 (r:Rel) (db:List Data) : Bool:=!decide (zdo r > 1000) && ((db.take 5).all z2b8 && z196 r db ((db.take 5).foldl sumD 0))
mutual
theorem z13p : ∀ t : Term,t.ht≤t.sz
 | .mk op v depth at_ name kids sub type=>by
  have:=zq7 kids;have:=z13q sub;simp only[Term.ht,Term.sz];omega
theorem zq7 : ∀ l : List Term,htTs l≤szTs l
 | []=>y6 _
 | t::l=>by
  have:=z13p t;have:=zq7 l;simp only[htTs,szTs];omega
theorem z2ex : ∀ a : Agg,a.ht≤a.sz
 | .mk name distinct t=>by
  have:=zq7 t;simp only[Agg.ht,Agg.sz];omega
theorem z1ng : ∀ l : List Agg,htAs l≤szAs l
 | []=>y6 _
 | t::l=>by
  have:=z2ex t;have:=z1ng l;simp only[htAs,szAs];omega
theorem zx8 : ∀ r : Rel,r.ht≤r.sz
 | .mk op table cols kids terms aggs keys limit skip all rows=>by
  have:=z13q kids;have:=zq7 terms;have:=z1ng aggs;simp only[Rel.ht,Rel.sz];omega
theorem z13q : ∀ l : List Rel,htRs l≤szRs l
 | []=>y6 _
 | t::l=>by
  have:=zx8 t;have:=z13q l;simp only[htRs,szRs];omega
end
theorem z66 {r:Rel} {env:List Int} (h:zlq r env=true) : ((r.kids.length:Int)=z3j r.op∧0≤z3j r.op)∧(∀ k∈r.kids,zlq k env=true)∧(r.cols.length:Int)=z1y r∧(∀ t∈r.terms,zbm t (z97 r::env)=true)∧(∀ a∈r.aggs,∀ t∈a.t,zbm t (z97 r::env)=true)∧zec r env=true:=by
 rw[z21r,yn,yn,yn,zt5,y1b] at h;obtain⟨⟨⟨h1,h2⟩,h4⟩,h3⟩:=h;unfold z10i at h1;simp at h1;obtain⟨⟨h5,h6⟩,h7⟩:=h1;refine⟨⟨h6,h5⟩,h2,by grind,?_,?_,h3⟩
 ·intro t ht;unfold z3c at h7;have e:r.op=3∨r.op=4∨r.op=5∨r.op=6∨r.op=7:=by
   grind
  grind [zec,zes,zbm,z97,List.all_eq_true]
 ·intro a ha t ht;unfold z3c at h7;have e:r.op=7:=by
   grind
  unfold zec at h3;rw[if_neg (by omega),if_neg (by omega),if_neg (by omega),if_neg (by omega),if_neg (by omega),if_pos e,yn,z138] at h3;have q:=y1b.1 h3.2 a ha;simp_all [z21q,yn,zes,y1b]
theorem z13r {t:Term} {env:List Int} (h:zbm t env=true) : zv5 t env=true∧(∀ k∈t.kids,zbm k env=true)∧(∀ k∈t.sub,zlq k env=true):=by
 rw[z1vd,yn,yn,zes,zt5,y1b,y1i,yn,decide_eq_true_eq,y1b] at h;have hs:(t.sub.length:Int)=zkc t:=by
  simp_all [zv5,yn,decide_eq_true_eq]
 grind [List.length_pos_of_mem,zkc]
theorem z22o : ∀ (n:Nat),(∀ (t:Term) (env:List Int),t.ht<n→zbm t env=true→tyT t)∧(∀ (r:Rel) (env:List Int),r.ht<n→zlq r env=true→tyR r):=by
 have ts:∀ (l:List Term),(∀ t∈l,tyT t)→tyTs l:=by
  intro l
  induction l with
  | nil=>intro _;trivial
  | cons t l ih=>intro h;exact⟨h t yt,ih fun x hx=>h x (yy _ hx)⟩
 have rs:∀ (l:List Rel),(∀ t∈l,tyR t)→tyRs l:=by
  intro l
  induction l with
  | nil=>intro _;trivial
  | cons t l ih=>intro h;exact⟨h t yt,ih fun x hx=>h x (yy _ hx)⟩
 have as_:∀ (l:List Agg),(∀ t∈l,tyA t)→tyAs l:=by
  intro l
  induction l with
  | nil=>intro _;trivial
  | cons t l ih=>intro h;exact⟨h t yt,ih fun x hx=>h x (yy _ hx)⟩
 intro n
 induction n with
 | zero=>simp
 | succ n ih =>
  constructor
  ·intro t env hn h;obtain⟨h1,h2,h3⟩:=z13r h;refine (z2et t).2 ⟨fun c=>?_,ts _ fun k hk=>ih.1 k env (by have:=Term.ht_kid hk;omega) (h2 k hk),rs _ fun k hk=>ih.2 k env (by have:=Term.ht_sub hk;omega) (h3 k hk)⟩;unfold zv5 zu6 at h1;grind
  ·intro r env hn h;obtain⟨p1,p2⟩:=zva r;obtain⟨⟨h1,_⟩,h2,_,h3,h4,_⟩:=z66 h;refine (z2eu r).2 ⟨fun c=>?_,rs _ fun k hk=>ih.2 k env (by have:=Rel.ht_kid hk;omega) (h2 k hk),ts _ fun t ht=>ih.1 t _ (by grind) (h3 t ht),as_ _ fun a ha=>(z2ev a).2 (ts _ fun t ht=>ih.1 t _ (by grind) (h4 a ha t ht))⟩;grind [z3j]
theorem z2ia {r:Rel} {env:List Int} (h:zlq r env=true) : tyR r:=(z22o (r.ht+1)).2 r env (y2m _) h
theorem z2b9 (r:Rel) (db:List Data) (n:Int) (i:Int) (h:r.sz≤2000000) (hh:r.ht≤2000000) (hc:clR r≤2000000000) : zgb (.exit 0) (z6v r db n i)=some (z9f (z196 r db n)):=by
 rw[z1ne,Rel.ids_eq];refine za5 fun _=>za5 fun _=>?_;rw[z6 h];refine za5 fun _=>?_;rw[z6 (by grind [z2l,List.length_nil])];refine za5 fun c=>?_;rw[z6 h];refine za5 fun _=>?_;rw[z6 h,z6 hc,z6 (z2ia c),z6 (by omega)];refine za5 fun _=>?_;rw[z6 h]
theorem z1sh (r:Rel) (db:List Data) (_hr:WS .rel r) (hd:WL .data db) (h:r.sz≤2000000) (hc:clR r≤2000000000) : z193 r db=some (z9f (zr8 r db)):=by
 have hh:=zx8 r;have hlt:(db.take 5).length≤5:=by grind
 have key:=z2ew (L:=zd7) (st:=fun i=>z6v r db (((db.take 5).take i.toNat).foldl sumD 0) i) (er:=fun i=>ze0 r db (((db.take 5).take i.toNat).foldl sumD 0) i) (C:=zgb) (e:=.exit 0) (fun b=>some (z9f (b && z196 r db ((db.take 5).foldl sumD 0)))) (l:=db.take 5) (d:=z3e) z2b8 (by omega)
  (fun i d hi hd hmem=>by
   obtain⟨g1,g2,g3⟩:=z1vq hi hd;have hil:i<(db.take 5).length:=by omega
   have e:((db.take 5).take (i+1)).foldl sumD 0=sumD (((db.take 5).take i).foldl sumD 0) d:=by
    rw[y3p,y2g,← hd,yc,y9 hil];rfl
   have li:=fun (n:Int)=>z18w (L:=zn1) (st:=fun j=>z6w r db n i j) (C:=zn2) (e:=.exit 2) (fun b=>if b=true then zd7 (z6v r db (sumD n d) (IntKind.i64.wrap ((i:Int)+1))) else some (.ret,ze0 r db n i)) (l:=d.rows.take 9) (d:=[]) (fun x=>!decide ((x.length:Int) > 6)) (by grind)
    (fun j x hj hx _=>by
     obtain⟨f1,f2,f3⟩:=z1vq hj hx;rw[z195];simp only[g1,f1,y5];rw[z6 (by omega),z8,if_pos (by grind),z8,if_pos (by grind),z6 (by omega),z6 (by omega)]
     cases decide ((x.length:Int) > 6)<;>rfl)
    (by
     rw[z195];simp only[g1,y5,z8,decide_eq_true_eq];rw[z6 (by omega),yw]
     grind)
    (fun j=>z1io _ _ _ _ _) (by rw[z1nf,y5,g1];rfl)
   rw[z194,z40 hil (by omega)];simp;rw[z8,if_pos (by grind),z8,if_pos (by grind),z6 (by omega),e];refine (li _).trans ?_
   rw[z40 hil (by omega)];rfl)
  (by
   rw[z194];simp only[z8,decide_eq_true_eq,yw]
   grind)
  (fun i=>by simp [y1p,z1ip])
  (by rw[y18,y5,y3k];grind [z2b9])
 rw[z22n,Rel.ids_eq,z6 h];refine (z13o (x:=(db.take 5).all z2b8 && z196 r db ((db.take 5).foldl sumD 0)) (by simp) fun _=>key)
def z1fj : FnC Un:=fnF2 (dS .rel) (dL .data) fun r db=>([r.sz≤2000000,clR r≤2000000000],z9f (zr8 r db))
theorem z22p : FnOK 11 z1fj:=fnK2 zq z10 (M:=zf1) rfl ⟨z220,z26t,z2av,z270,z22l,z191,trivial⟩ trivial trivial trivial trivial Tryz.func11 fun r db=>GiF.r fun w o=>z1sh r db (wfA_ w 0) (wfA_ w 1) (obA_ o 0) (obA_ o 1)
end
end B
end Go.Proofs.YtjfpbchdcbhfgaaGreat
