/- Part 19 of the proof: Sr03b Slaw20a Slaw20o Lnthird Lnaw Slaw20b. -/
import Derived.Test.YtjfpbchdcbhfgaaGreatNth18
set_option linter.unusedVariables false
set_option linter.unusedSimpArgs false
namespace Go.Proofs.YtjfpbchdcbhfgaaGreat
namespace B
open Go Go.RowKit
set_option maxRecDepth 100000
noncomputable section
attribute [local irreducible] awp ctxK zu z1d retQ z1p awf ctxF z1o
theorem z2jr (x y:List Val) : (z7o x y == 0)=deq x y:=by
 have h:=z2l1 x y;cases h1 : (z7o x y == 0)<;>cases h2 : deq x y<;>simp_all [bne]
def zqq : Mc Un:=mcF_ [(43,z17e)] [] [] [] []
def z105 : Nat→NS:=nsF_ [(3,{ ts:=bl 23 99,bs:=bl 23 0,nm:=[],cs:=true })] true
def zas (l:List (List Val)) (r:List Val) (v0:Int) (v1:Int) : S Un:=(st 23 23 92 0 [(0,al .row l),(1,al .val r),(5,ai v0),(6,ai v1)] [] [])
def zgp : S Un→Option (EX Un):=lpF_ zqq z105 Tryz.f63 [1,1,0,1,2,2] 3
def z1bc : Exit→S Un→Option (RF Un):=cxF_ zqq z105 Tryz.f63 [1,1,0,1,2] [.d]
def z1bd (l:List (List Val)) (r:List Val) : Option (RF Un):=fnF_ zqq z105 Tryz.f63 0 [.d] [.d (.v (.dat (U:=Un) Ty.row l)),.d (.v (.dat (U:=Un) Ty.val r))]
theorem z25e (l:List (List Val)) (r:List Val) : z1bd l r=(zgp (zas l r (0:Int) (0:Int))).bind (zd z1bc):=by kernel_rfl
theorem z1be (l:List (List Val)) (r:List Val) (v0:Int) (v1:Int) : zgp (zas l r v0 v1)=cndO (decide (v1<(↑l.length:Int))) (obO (0≤v1∧v1<(↑l.length:Int)) (cndO (z7o (l.getD v1.toNat []) r == 0) (zgp (zas l r (IntKind.i64.wrap (v0+1)) (IntKind.i64.wrap (v1+1)))) (zgp (zas l r v0 (IntKind.i64.wrap (v1+1)))))) (some (.exit 0,(zas l r v0 v1))):=lpQ_ (by kernel_rfl)
theorem z1qd (l:List (List Val)) (r:List Val) (v0:Int) (v1:Int) : z1bc (.exit 0) (zas l r v0 v1)=some (z2f (v0)):=by kernel_rfl
noncomputable def z41 (l:List (List Val)) (r:List Val) : Int:=((l.countP fun x=>deq x r:Nat):Int)
theorem z1u4 (l:List (List Val)) (r:List Val) (hl:WL .row l) (_hr:WL .val r) : z1bd l r=some (z2f (z41 l r)):=by
 rw[z25e];have hlen:=hl.len
 obtain⟨lp,hI⟩:=z1q (e:=.exit 0) (L:=zgp) (st:=fun (n:Int) i=>zas l r n i) (l:=l) (d:=[]) (g:=fun (n:Int) x=>if deq x r=true then n+1 else n) (fun i n=>0≤n∧n≤(i:Int)) hlen
  (fun n i x hi hx hI=>by
   obtain⟨i1,i2⟩ : 0≤n∧n≤(i:Int):=hI;rw[z1be,z2jr];simp only[z8,hi,decide_true,if_true,and_true,y5,hx];rw[z6 (by omega)];by_cases c : deq x r=true
   ·rw[if_pos c,if_pos c,z1j (show (-9223372036854775808:Int)≤n+1∧n+1≤9223372036854775807 by omega)];exact⟨⟨by omega,by push_cast;omega⟩,rfl⟩
   ·rw[if_neg c,if_neg c]
    exact⟨⟨i1,by push_cast;omega⟩,rfl⟩)
  (fun n _=>by rw[z1be];simp [z8]) 0 ⟨y29 _,y29 _⟩
 refine (zg lp).trans ?_;rw[z1qd];have key:∀ (l:List (List Val)) (n:Int),l.foldl (fun (n:Int) x=>if deq x r=true then n+1 else n) n=n+((l.countP fun x=>deq x r:Nat):Int):=by
  intro l
  induction l with
  | nil=>intro n;simp
  | cons x l ih =>
   intro n;rw[yr,ih,List.countP_cons];split<;>push_cast<;>omega
 rw[key,Int.zero_add];rfl
def z1gs : FnC Un:=fnF2 (dL .row) (dL .val) fun l r=>([],z2f (z41 l r))
theorem z25f : FnOK 63 z1gs:=fnK2 z10 z10 (M:=zqq) rfl ⟨z1xe,trivial⟩ trivial trivial trivial trivial Tryz.func63 fun l r=>GiF.r fun w _=>z1u4 l r (wfA_ w 0) (wfA_ w 1)
def zyj : Mc Un:=mcF_ [(63,z1gs)] [] [] [] []
def z1bf : Nat→NS:=nsF_ [(2,{ ts:=bl 30 51,bs:=bl 30 0,nm:=[],cs:=true })] true
def z7z (a:List (List Val)) (b:List (List Val)) (v0:Int) : S Un:=(st 30 30 120 0 [(0,al .row a),(1,al .row b),(4,ab false),(5,ai v0)] [] [])
def znz : S Un→Option (EX Un):=lpF_ zyj z1bf Tryz.f27 [1,0,1,2,2] 2
def zu0 : Exit→S Un→Option (RF Un):=cxF_ zyj z1bf Tryz.f27 [1,0,1,2] [.d]
def z1qe (a:List (List Val)) (b:List (List Val)) : Option (RF Un):=fnF_ zyj z1bf Tryz.f27 0 [.d] [.d (.v (.dat (U:=Un) Ty.row a)),.d (.v (.dat (U:=Un) Ty.row b))]
theorem z2cy (a:List (List Val)) (b:List (List Val)) : z1qe a b=(znz (z7z a b (0:Int))).bind (zd zu0):=by kernel_rfl
theorem z1qf (a:List (List Val)) (b:List (List Val)) (v0:Int) : znz (z7z a b v0)=cndO (decide (v0<(↑a.length:Int))) (obO (0≤v0∧v0<(↑a.length:Int)) (obO (0≤v0∧v0<(↑a.length:Int)) (cndO (z41 a (a.getD v0.toNat []) != z41 b (a.getD v0.toNat [])) (some (.ret,(z7z a b v0))) (znz (z7z a b (IntKind.i64.wrap (v0+1))))))) (some (.exit 0,(z7z a b v0))):=lpQ_ (by kernel_rfl)
theorem z1u5 (a:List (List Val)) (b:List (List Val)) (v0:Int) : zu0 .ret (z7z a b v0)=some (z9f (false)):=by kernel_rfl
theorem z1zk (a:List (List Val)) (b:List (List Val)) (v0:Int) : zu0 (.exit 0) (z7z a b v0)=some (z9f ((↑a.length:Int) == (↑b.length:Int))):=by kernel_rfl
noncomputable def z12d (a b:List (List Val)) : Bool:=(a.all fun x=>z41 a x == z41 b x) && ((a.length:Int) == (b.length:Int))
theorem z25g (a b:List (List Val)) (ha:WL .row a) (_hb:WL .row b) : z1qe a b=some (z9f (z12d a b)):=by
 have key:∀ (r:List (List Val)) (i:Nat),a.drop i=r→i≤a.length→(znz (z7z a b i)).bind (zd zu0)=some (z9f ((r.all fun x=>z41 a x == z41 b x) && ((a.length:Int) == (b.length:Int)))):=by
  intro r
  induction r with
  | nil =>
   intro i hr hi;have : a.length≤i:=by rw[← y1n];exact hr
   have e:znz (z7z a b i)=some (.exit 0,z7z a b i):=by rw[z1qf,z8,if_neg (by simp;omega)]
   rw[zg e,z1zk];rfl
  | cons x r ih =>
   intro i hr hi;obtain⟨a1,a2,a3,hm⟩:=z39 hr;have hx:a.getD i []=x:=a2 [];have hl:=z1qf a b i;simp only[z8,y5,hx] at hl;rw[if_pos (by simp;omega),z6 (by omega),z6 (by omega)] at hl;by_cases hf : (z41 a x == z41 b x)=true
   ·have hn:¬ (z41 a x != z41 b x)=true:=by simp [bne,hf]
    rw[if_neg hn,z40 a1 ha.len] at hl;rw[hl,ih (i+1) a3 (by omega),y1g,hf,y18]
   ·have hn:(z41 a x != z41 b x)=true:=by simp [bne,hf]
    rw[if_pos hn] at hl;rw[zg hl,z1u5,y1g,Bool.eq_false_iff.2 hf,y1p,y1p]
 rw[z2cy];exact key a 0 rfl (yb _)
def z1x2 : FnC Un:=fnF2 (dL .row) (dL .row) fun a b=>([],z9f (z12d a b))
theorem z2cz : FnOK 27 z1x2:=fnK2 z10 z10 (M:=zyj) rfl ⟨z25f,trivial⟩ trivial trivial trivial trivial Tryz.func27 fun a b=>GiF.r fun w _=>z25g a b (wfA_ w 0) (wfA_ w 1)
theorem z2d0 {a b:List (List Val)} (h:a.Perm b) (x:List Val) : z41 a x=z41 b x:=by
 unfold z41;rw[h.countP_eq]
theorem z2js {a b:List (List Val)} (h:a.Perm b) : z12d a b=true:=by
 unfold z12d;rw[yn,y1b];refine⟨fun x _=>?_,?_⟩
 ·rw[z2d0 h x];simp
 ·rw[h.length_eq];simp
end
end B
namespace B
open Go Go.RowKit
set_option maxRecDepth 100000
noncomputable section
attribute [local irreducible] awp ctxK zu z1d retQ z1p awf ctxF z1o
def z1gt : Mc Un:=mcF_ [(32,zen),(14,z103)] [] [] [] []
def zwh : Option (RF Un):=fnF_ z1gt z269 Tryz.f12 0 [.d] []
theorem z25h : zwh=obO (okRl { env:=[],db:=[{ table:=(ByteArray.mk #[116]),rows:=[[(zf (1:Int))],[(zf (2:Int))],[z7]] }] } (Rel.mk (3:Int) (ByteArray.mk #[]) [{ table:=(ByteArray.mk #[]),name:=(ByteArray.mk #[97]),type:=(2:Int) }] [(Rel.mk (1:Int) (ByteArray.mk #[116]) [{ table:=(ByteArray.mk #[]),name:=(ByteArray.mk #[97]),type:=(2:Int) }] [] [] [] [] (0:Int) (0:Int) false [])] [(Term.mk (13:Int) z7 (0:Int) (0:Int) (ByteArray.mk #[]) [(Term.mk (2:Int) z7 (0:Int) (0:Int) (ByteArray.mk #[]) [] [] (2:Int)),(Term.mk (1:Int) (zf (2:Int)) (0:Int) (0:Int) (ByteArray.mk #[]) [] [] (2:Int))] [] (1:Int))] [] [] (0:Int) (0:Int) false [])) (cndO ((↑(z2c (Rel.mk (3:Int) (ByteArray.mk #[]) [{ table:=(ByteArray.mk #[]),name:=(ByteArray.mk #[97]),type:=(2:Int) }] [(Rel.mk (1:Int) (ByteArray.mk #[116]) [{ table:=(ByteArray.mk #[]),name:=(ByteArray.mk #[97]),type:=(2:Int) }] [] [] [] [] (0:Int) (0:Int) false [])] [(Term.mk (13:Int) z7 (0:Int) (0:Int) (ByteArray.mk #[]) [(Term.mk (2:Int) z7 (0:Int) (0:Int) (ByteArray.mk #[]) [] [] (2:Int)),(Term.mk (1:Int) (zf (2:Int)) (0:Int) (0:Int) (ByteArray.mk #[]) [] [] (2:Int))] [] (1:Int))] [] [] (0:Int) (0:Int) false []) [{ table:=(ByteArray.mk #[116]),rows:=[[(zf (1:Int))],[(zf (2:Int))],[z7]] }]).length:Int) == (1:Int)) (obO ((0:Int)≤(0:Int)∧(0:Int)<(↑(z2c (Rel.mk (3:Int) (ByteArray.mk #[]) [{ table:=(ByteArray.mk #[]),name:=(ByteArray.mk #[97]),type:=(2:Int) }] [(Rel.mk (1:Int) (ByteArray.mk #[116]) [{ table:=(ByteArray.mk #[]),name:=(ByteArray.mk #[97]),type:=(2:Int) }] [] [] [] [] (0:Int) (0:Int) false [])] [(Term.mk (13:Int) z7 (0:Int) (0:Int) (ByteArray.mk #[]) [(Term.mk (2:Int) z7 (0:Int) (0:Int) (ByteArray.mk #[]) [] [] (2:Int)),(Term.mk (1:Int) (zf (2:Int)) (0:Int) (0:Int) (ByteArray.mk #[]) [] [] (2:Int))] [] (1:Int))] [] [] (0:Int) (0:Int) false []) [{ table:=(ByteArray.mk #[116]),rows:=[[(zf (1:Int))],[(zf (2:Int))],[z7]] }]).length:Int)) (cndO ((↑(List.length ((z2c (Rel.mk (3:Int) (ByteArray.mk #[]) [{ table:=(ByteArray.mk #[]),name:=(ByteArray.mk #[97]),type:=(2:Int) }] [(Rel.mk (1:Int) (ByteArray.mk #[116]) [{ table:=(ByteArray.mk #[]),name:=(ByteArray.mk #[97]),type:=(2:Int) }] [] [] [] [] (0:Int) (0:Int) false [])] [(Term.mk (13:Int) z7 (0:Int) (0:Int) (ByteArray.mk #[]) [(Term.mk (2:Int) z7 (0:Int) (0:Int) (ByteArray.mk #[]) [] [] (2:Int)),(Term.mk (1:Int) (zf (2:Int)) (0:Int) (0:Int) (ByteArray.mk #[]) [] [] (2:Int))] [] (1:Int))] [] [] (0:Int) (0:Int) false []) [{ table:=(ByteArray.mk #[116]),rows:=[[(zf (1:Int))],[(zf (2:Int))],[z7]] }]).getD 0 [])):Int) == (1:Int)) (obO ((0:Int)≤(0:Int)∧(0:Int)<(↑(z2c (Rel.mk (3:Int) (ByteArray.mk #[]) [{ table:=(ByteArray.mk #[]),name:=(ByteArray.mk #[97]),type:=(2:Int) }] [(Rel.mk (1:Int) (ByteArray.mk #[116]) [{ table:=(ByteArray.mk #[]),name:=(ByteArray.mk #[97]),type:=(2:Int) }] [] [] [] [] (0:Int) (0:Int) false [])] [(Term.mk (13:Int) z7 (0:Int) (0:Int) (ByteArray.mk #[]) [(Term.mk (2:Int) z7 (0:Int) (0:Int) (ByteArray.mk #[]) [] [] (2:Int)),(Term.mk (1:Int) (zf (2:Int)) (0:Int) (0:Int) (ByteArray.mk #[]) [] [] (2:Int))] [] (1:Int))] [] [] (0:Int) (0:Int) false []) [{ table:=(ByteArray.mk #[116]),rows:=[[(zf (1:Int))],[(zf (2:Int))],[z7]] }]).length:Int)) (obO ((0:Int)≤(0:Int)∧(0:Int)<(↑(List.length ((z2c (Rel.mk (3:Int) (ByteArray.mk #[]) [{ table:=(ByteArray.mk #[]),name:=(ByteArray.mk #[97]),type:=(2:Int) }] [(Rel.mk (1:Int) (ByteArray.mk #[116]) [{ table:=(ByteArray.mk #[]),name:=(ByteArray.mk #[97]),type:=(2:Int) }] [] [] [] [] (0:Int) (0:Int) false [])] [(Term.mk (13:Int) z7 (0:Int) (0:Int) (ByteArray.mk #[]) [(Term.mk (2:Int) z7 (0:Int) (0:Int) (ByteArray.mk #[]) [] [] (2:Int)),(Term.mk (1:Int) (zf (2:Int)) (0:Int) (0:Int) (ByteArray.mk #[]) [] [] (2:Int))] [] (1:Int))] [] [] (0:Int) (0:Int) false []) [{ table:=(ByteArray.mk #[116]),rows:=[[(zf (1:Int))],[(zf (2:Int))],[z7]] }]).getD 0 [])):Int)) (some (z9f (andB [EK.int IntKind.i64,EK.str] ((List.getD ((z2c (Rel.mk (3:Int) (ByteArray.mk #[]) [{ table:=(ByteArray.mk #[]),name:=(ByteArray.mk #[97]),type:=(2:Int) }] [(Rel.mk (1:Int) (ByteArray.mk #[116]) [{ table:=(ByteArray.mk #[]),name:=(ByteArray.mk #[97]),type:=(2:Int) }] [] [] [] [] (0:Int) (0:Int) false [])] [(Term.mk (13:Int) z7 (0:Int) (0:Int) (ByteArray.mk #[]) [(Term.mk (2:Int) z7 (0:Int) (0:Int) (ByteArray.mk #[]) [] [] (2:Int)),(Term.mk (1:Int) (zf (2:Int)) (0:Int) (0:Int) (ByteArray.mk #[]) [] [] (2:Int))] [] (1:Int))] [] [] (0:Int) (0:Int) false []) [{ table:=(ByteArray.mk #[116]),rows:=[[(zf (1:Int))],[(zf (2:Int))],[z7]] }]).getD 0 []) 0 z7).kind == (zf (1:Int)).kind) (andB [EK.str] ((List.getD ((z2c (Rel.mk (3:Int) (ByteArray.mk #[]) [{ table:=(ByteArray.mk #[]),name:=(ByteArray.mk #[97]),type:=(2:Int) }] [(Rel.mk (1:Int) (ByteArray.mk #[116]) [{ table:=(ByteArray.mk #[]),name:=(ByteArray.mk #[97]),type:=(2:Int) }] [] [] [] [] (0:Int) (0:Int) false [])] [(Term.mk (13:Int) z7 (0:Int) (0:Int) (ByteArray.mk #[]) [(Term.mk (2:Int) z7 (0:Int) (0:Int) (ByteArray.mk #[]) [] [] (2:Int)),(Term.mk (1:Int) (zf (2:Int)) (0:Int) (0:Int) (ByteArray.mk #[]) [] [] (2:Int))] [] (1:Int))] [] [] (0:Int) (0:Int) false []) [{ table:=(ByteArray.mk #[116]),rows:=[[(zf (1:Int))],[(zf (2:Int))],[z7]] }]).getD 0 []) 0 z7).n == (zf (1:Int)).n) (andB [] ((List.getD ((z2c (Rel.mk (3:Int) (ByteArray.mk #[]) [{ table:=(ByteArray.mk #[]),name:=(ByteArray.mk #[97]),type:=(2:Int) }] [(Rel.mk (1:Int) (ByteArray.mk #[116]) [{ table:=(ByteArray.mk #[]),name:=(ByteArray.mk #[97]),type:=(2:Int) }] [] [] [] [] (0:Int) (0:Int) false [])] [(Term.mk (13:Int) z7 (0:Int) (0:Int) (ByteArray.mk #[]) [(Term.mk (2:Int) z7 (0:Int) (0:Int) (ByteArray.mk #[]) [] [] (2:Int)),(Term.mk (1:Int) (zf (2:Int)) (0:Int) (0:Int) (ByteArray.mk #[]) [] [] (2:Int))] [] (1:Int))] [] [] (0:Int) (0:Int) false []) [{ table:=(ByteArray.mk #[116]),rows:=[[(zf (1:Int))],[(zf (2:Int))],[z7]] }]).getD 0 []) 0 z7).s.toList == (zf (1:Int)).s.toList) true))))))) (some (z9f (false))))) (some (z9f (false)))):=by kernel_rfl
def colA : Term:=.mk 2 z7 0 0 ⟨#[]⟩ [] [] 2
def cA : Term:=.mk 1 (zf 2) 0 0 ⟨#[]⟩ [] [] 2
def lessA : Term:=.mk 13 z7 0 0 ⟨#[]⟩ [colA,cA] [] 1
def tabA : Rel:=.mk 1 ⟨#[116]⟩ [⟨⟨#[]⟩,⟨#[97]⟩,2⟩] [] [] [] [] 0 0 false []
def relA : Rel:=.mk 3 ⟨#[]⟩ [⟨⟨#[]⟩,⟨#[97]⟩,2⟩] [tabA] [lessA] [] [] 0 0 false []
def dbA : List Data:=[⟨⟨#[116]⟩,[[zf 1],[zf 2],[z7]]⟩]
theorem z2m1 {x:Val} (h:z12 x) : nT colA (zh ⟨[],dbA⟩ [x])=some x:=by
 rw[z1cf,if_pos (.inr rfl),zgj ⟨by decide,(z1sv colA).2 ⟨yb _,trivial⟩,fun r hr v hv=>by
  rw[yg.1 hr] at hv
  rw[yg.1 hv];exact h⟩]
 unfold z3x;rw[z1j4,if_neg (by decide),if_pos (show colA.op=2 from rfl)];rfl
theorem z2nr {x:Val} (h:z12 x) : nT cA (zh ⟨[],dbA⟩ [x])=some (zf 2):=by
 rw[z1cf,if_pos (.inl rfl),zgj ⟨by decide,(z1sv cA).2 ⟨yb _,trivial⟩,fun r hr v hv=>by
  rw[yg.1 hr] at hv
  rw[yg.1 hv];exact h⟩]
 unfold z3x;rw[z1j4,if_pos (show cA.op=1 from rfl)];rfl
theorem z1jz {x:Val} (h:z12 x) : nT lessA (zh ⟨[],dbA⟩ [x])=some (zr 13 ⟨#[]⟩ [x,zf 2]):=by
 have hk:nTs lessA.kids (zh ⟨[],dbA⟩ [x])=some [x,zf 2]:=by
  show nTs [colA,cA] _=_;simp only[nTs,z2m1 h,z2nr h,yk]
 rw[z1cf,if_neg (by decide),if_neg (by decide),if_neg (by decide),if_neg (by decide),if_pos (by decide),hk,yk,zgj ⟨by show 2≤2000000;decide,fun y hy=>by
  rcases yf.1 hy with rfl | hy
  ·exact h
  ·rw[yg.1 hy];exact yb _⟩]
 rfl
theorem z2m2 : zr 13 ⟨#[]⟩ [zf 1,zf 2]=z2n true:=by kernel_rfl
theorem z2m3 : zr 13 ⟨#[]⟩ [zf 2,zf 2]=z2n false:=by kernel_rfl
theorem z2m4 : zr 13 ⟨#[]⟩ [z7,zf 2]=z7:=by kernel_rfl
theorem soA1 : nSo [lessA] (zh ⟨[],dbA⟩ [zf 1])=some true:=by
 simp only[nSo,z1jz (zy0 1),z2m2,yk];rw[if_pos (by kernel_rfl)]
theorem soA2 : nSo [lessA] (zh ⟨[],dbA⟩ [zf 2])=some false:=by
 simp only[nSo,z1jz (zy0 2),z2m3,yk];rw[if_neg (by rw[show z1e (z2n false)=0 by kernel_rfl];decide)]
theorem soA3 : nSo [lessA] (zh ⟨[],dbA⟩ [z7])=some false:=by
 simp only[nSo,z1jz z3n,z2m4,yk];rw[if_neg (by rw[show z1e z7=1 by kernel_rfl];decide)]
theorem z2m5 : nR tabA ⟨[],dbA⟩=some [[zf 1],[zf 2],[z7]]:=by
 rw[z1cg,if_pos (show tabA.op=1 from rfl),zgj ⟨by decide,fun d hd=>by rw[yg.1 hd];decide⟩];have e:z6k ⟨[],dbA⟩ tabA.table=[[zf 1],[zf 2],[z7]]:=by
  unfold z6k;simp [dbA,tabA,Rel.table_mk]
 rw[e];rfl
theorem z29o : nR relA ⟨[],dbA⟩=some [[zf 1]]:=by
 have hk:nKid relA.kids 0 ⟨[],dbA⟩=some [[zf 1],[zf 2],[z7]]:=by
  rw[zud,if_pos (by decide)];exact z2m5
 rw[z1cg,if_neg (by decide),if_neg (by decide),if_pos (show relA.op=3 from rfl)];unfold filO;rw[if_pos (by decide)];show ((nKid relA.kids 0 ⟨[],dbA⟩).bind fun l=>zbz (fun x=>nSo [lessA] (zh ⟨[],dbA⟩ x)) l).bind capQ=_;rw[hk,yk];simp only[zbz,soA1,soA2,soA3,yk];rfl
def z6d : Bool:=true
theorem z1u6 : zwh=some (z9f z6d):=by
 have h:z2c relA dbA=[[zf 1]]:=z8h z29o;have e:=z25h;rw[show zwh=_ from e,z6 ⟨_,z29o⟩];simp only[z8];have h2:z2c (Rel.mk (3:Int) (ByteArray.mk #[]) [{ table:=(ByteArray.mk #[]),name:=(ByteArray.mk #[97]),type:=(2:Int) }] [(Rel.mk (1:Int) (ByteArray.mk #[116]) [{ table:=(ByteArray.mk #[]),name:=(ByteArray.mk #[97]),type:=(2:Int) }] [] [] [] [] (0:Int) (0:Int) false [])] [(Term.mk (13:Int) z7 (0:Int) (0:Int) (ByteArray.mk #[]) [(Term.mk (2:Int) z7 (0:Int) (0:Int) (ByteArray.mk #[]) [] [] (2:Int)),(Term.mk (1:Int) (zf (2:Int)) (0:Int) (0:Int) (ByteArray.mk #[]) [] [] (2:Int))] [] (1:Int))] [] [] (0:Int) (0:Int) false []) [{ table:=(ByteArray.mk #[116]),rows:=[[(zf (1:Int))],[(zf (2:Int))],[z7]] }]=[[zf 1]]:=h;rw[h2];simp [obO,andB,z6d]
def z1gu : FnC Un:=fnF0 ([],z9f (z6d))
theorem z25i : FnOK 12 z1gu:=fnK0 (M:=z1gt) rfl ⟨zfn,z1bb,trivial⟩ trivial trivial trivial trivial Tryz.func12 (GiF.r fun _ _=>z1u6)
theorem z1u7 : z6d=true:=rfl
end
end B
namespace B
open Go Go.RowKit
set_option maxRecDepth 100000
noncomputable section
attribute [local irreducible] awp ctxK zu z1d retQ z1p awf ctxF z1o
def z14b (r:Rel) : RF Un:=([.agg (encC Ty.rel r)],[])
def z1gv (op:Int) (kid:Rel) (t:List Term) : Option (RF Un):=fnF_ z1du z269 Tryz.f23 0 [.d] [.d (.v (.s (.int .i64 op))),.d (.agg (enc Ty.rel kid)),.d (.v (.dat (U:=Un) Ty.term t))]
theorem z28m (op:Int) (kid:Rel) (t:List Term) : z1gv op kid t=some (z14b (Rel.mk op (ByteArray.mk #[]) kid.cols [(Rel.ids kid)] t [] [] (0:Int) (0:Int) false [])):=by kernel_rfl
def z1t (op:Int) (kid:Rel) (t:List Term) : Rel:=.mk op ⟨#[]⟩ kid.cols [kid] t [] [] 0 0 false []
theorem z1zl (op:Int) (kid:Rel) (t:List Term) (_ho:WI op) (_hk:WS .rel kid) (_ht:WL .term t) : z1gv op kid t=some (z14b (z1t op kid t)):=by
 rw[z28m,Rel.ids_eq];rfl
def z1qh : FnC Un:=fnF3 (dI .i64) (dS .rel) (dL .term) fun op kid t=>([],z14b (z1t op kid t))
theorem z28n : FnOK 23 z1qh:=fnK3 z1c zq z10 (M:=z1du) rfl trivial trivial trivial trivial trivial Tryz.func23 fun op kid t=>GiF.r fun w _=>z1zl op kid t (wfA_ w 0) (wfA_ w 1) (wfA_ w 2)
def z1k0 (r:Term) : RF Un:=([.agg (encC Ty.term r)],[])
def z1x3 (k:Int) (t:List Term) : Option (RF Un):=fnF_ z1du z269 Tryz.f26 0 [.d] [.d (.v (.s (.int .i64 k))),.d (.v (.dat (U:=Un) Ty.term t))]
theorem z2h3 (k:Int) (t:List Term) : z1x3 k t=some (z1k0 (Term.mk k z7 (0:Int) (0:Int) (ByteArray.mk #[]) t [] (1:Int))):=by kernel_rfl
def z5o (k:Int) (t:List Term) : Term:=.mk k z7 0 0 ⟨#[]⟩ t [] 1
theorem z28o (k:Int) (t:List Term) (_hk:WI k) (_ht:WL .term t) : z1x3 k t=some (z1k0 (z5o k t)):=by
 rw[z2h3];rfl
def z25k : FnC Un:=fnF2 (dI .i64) (dL .term) fun k t=>([],z1k0 (z5o k t))
theorem z2h4 : FnOK 26 z25k:=fnK2 z1c z10 (M:=z1du) rfl trivial trivial trivial trivial trivial Tryz.func26 fun k t=>GiF.r fun w _=>z28o k t (wfA_ w 0) (wfA_ w 1)
end
end B
namespace B
open Go Go.RowKit
theorem tri3 (v:Val) : z1e v=0∨z1e v=1∨z1e v=2:=by
 unfold z1e zn8
 repeat' split
 all_goals simp
theorem z29p (v:Val) : zr 4 ⟨#[]⟩ [v]=z5b (zua (z1e v)):=by kernel_rfl
theorem z2ju (v:Val) : zr 19 ⟨#[]⟩ [v]=z2n (v.kind == 0):=by kernel_rfl
theorem z2h5 (v:Val) : ((z1e v == 2)=true∧(z1e (zr 4 ⟨#[]⟩ [v]) == 2)=false∧(z1e (zr 19 ⟨#[]⟩ [zr 4 ⟨#[]⟩ [v]]) == 2)=false) ∨
  ((z1e v == 2)=false∧(z1e (zr 4 ⟨#[]⟩ [v]) == 2)=true∧(z1e (zr 19 ⟨#[]⟩ [zr 4 ⟨#[]⟩ [v]]) == 2)=false) ∨
  ((z1e v == 2)=false∧(z1e (zr 4 ⟨#[]⟩ [v]) == 2)=false∧(z1e (zr 19 ⟨#[]⟩ [zr 4 ⟨#[]⟩ [v]]) == 2)=true):=by
 rw[z2ju,z29p];rcases tri3 v with h | h | h<;>rw[h]
 ·exact .inr (.inl ⟨rfl,rfl,rfl⟩)
 ·exact .inr (.inr ⟨rfl,rfl,rfl⟩)
 ·exact .inl ⟨rfl,rfl,rfl⟩
theorem z2k8 {α:Type} (p q s:α→Bool) : ∀ (l:List α),(∀ x∈l,(p x=true∧q x=false∧s x=false)∨(p x=false∧q x=true∧s x=false)∨(p x=false∧q x=false∧s x=true))→(l.filter p++l.filter q++l.filter s).Perm l
 | [],_=>List.Perm.refl _
 | x::l,h=>by
  have ih:=z2k8 p q s l fun z hz=>h z (yy _ hz);rcases h x yt with ⟨h1,h2,h3⟩ | ⟨h1,h2,h3⟩ | ⟨h1,h2,h3⟩
  ·simp only[y3y,h1,h2,h3,if_true,reduceCtorEq,if_false,y24];exact ih.cons x
  ·simp only[y3y,h1,h2,h3,if_true,reduceCtorEq,if_false,y24];rw[y12,y15];refine y3w.trans ?_;rw[← y12];exact ih.cons x
  ·simp only[y3y,h1,h2,h3,if_true,reduceCtorEq,if_false,y24];exact y3w.trans (ih.cons x)
theorem z25l {α:Type} {f:α→Option Bool} {g:α→Bool} : ∀ (l:List α),(∀ x∈l,f x=some (g x))→zbz f l=some (l.filter g)
 | [],_=>rfl
 | x::l,h=>by
  simp only[zbz,h x yt,yk,z25l l fun z hz=>h z (yy _ hz),y3y]
theorem z2n0 (t:Term) (w:Wld) {v:Val} (h:nT t w=some v) : nSo [t] w=some (z1e v == 2):=by
 simp only[nSo,h,yk];by_cases c : z1e v=2
 ·rw[if_pos c,c];rfl
 ·rw[if_neg c,beq_eq_false_iff_ne.2 c]
theorem z1bg {r:Rel} {w:Wld} {t:Term} {l:Rows} (f:List Val→Val) (hk:nR r w=some l) (he:w.env.length≤100000000) (ht:∀ x∈l,nT t (zh w x)=some (f x)) : nR (z1t 3 r [t]) w=some (l.filter fun x=>z1e (f x) == 2):=by
 have hl:=z1aq hk;have e:filO (fun w=>nKid (z1t 3 r [t]).kids 0 w) (fun w=>nSo (z1t 3 r [t]).terms w) w=some (l.filter fun x=>z1e (f x) == 2):=by
  unfold filO;dsimp only;rw[if_pos he,zud,if_pos (by show 0<1;omega)];show (nR r w).bind _=_;rw[hk,yk];exact z25l l fun x hx=>z2n0 t _ (ht x hx)
 rw[z1cg,if_neg (by show ¬ (3:Int)=1;omega),if_neg (by show ¬ (3:Int)=2;omega),if_pos (by rfl),e,yk];unfold capQ;rw[if_pos (by have:=List.length_filter_le (fun x=>z1e (f x) == 2) l;omega)]
theorem z2h6 (k:Int) (hk:k=4∨k=19) {t:Term} {w:Wld} {v:Val} (h:nT t w=some v) (hs:z12 v) : nT (z5o k [t]) w=some (zr k ⟨#[]⟩ [v]):=by
 have e:nTs [t] w=some [v]:=by simp only[nTs,h,yk]
 have ho:(z5o k [t]).op=k:=rfl;rw[z1cf,ho,if_neg (by omega),if_neg (by omega),if_neg (by omega),if_neg (by omega),if_pos (by show 1≤2000000;omega)];show (nTs [t] w).bind _=_;rw[e,yk,zgj ⟨by show 1≤2000000;omega,fun x hx=>by rw[yg] at hx;rw[hx];exact hs⟩];rfl
theorem z2h7 {db:List Data} (G:DbG db) {r:Rel} {t:Term} (hr:GoR db r [] ⟨[],db⟩) (hv:zbm t [z1y r]=true) (hf:fitT db t=true) (hs:t.sz≤2000000) (hc:clT t≤2000000) (ht:txT t) (hh:zdq (z1t 3 r [t]) db=false) (hsz:r.sz+t.sz≤1900000) :
  ∃ l a b c,nR r ⟨[],db⟩=some l∧nR (z1t 3 r [t]) ⟨[],db⟩=some a∧nR (z1t 3 r [z5o 4 [t]]) ⟨[],db⟩=some b∧nR (z1t 3 r [z5o 19 [z5o 4 [t]]]) ⟨[],db⟩=some c∧(a++b++c).Perm l:=by
 obtain⟨l,h1,h2⟩:=z2mu G hr;have hw:(wghR db (z1t 3 r [t])).2≤20000:=by
  unfold zdq z6q at hh;have:=of_decide_eq_false hh;omega
 have hosz:(z1t 3 r [t]).sz≤2000000:=by
  have:=(z1t 3 r [t]).sz_eq;have e1:(z1t 3 r [t]).kids=[r]:=rfl;have e2:(z1t 3 r [t]).terms=[t]:=rfl;have e3:(z1t 3 r [t]).aggs=[]:=rfl;have e4:(z1t 3 r [t]).rows=[]:=rfl;simp only[e1,e2,e3,e4,szRs,szTs,szAs,y1a] at this;omega
 obtain⟨_,_,_,hlt,_⟩:=zx9 G.rows hosz hw;have hio:=z1at (db:=db) (r:=z1t 3 r [t]) (by show ¬ (3:Int)=1;omega) rfl;have hfew:=h2.few;have key:∀ x∈l,∃ v,nT t (zh ⟨[],db⟩ x)=some v∧z12 v:=fun x hx=>by
  have hp:=y3q hx;refine z2lf G (env:=[z1y r]) ⟨hv,hf,hs,hc,ht,hlt ?_ t (y1s _ (yg.2 rfl)),rfl,fun y hy=>?_,?_⟩
  ·rw[hio];show 1≤(wghR db r).1;omega
  ·have hy:y∈[x]:=hy;rw[yg] at hy;rw[hy];exact h2.short x hx
  ·have:=z13p t;show ([x] : Rows).length+t.ht≤_;rw[ye];omega
 have hf':∀ x∈l,nT t (zh ⟨[],db⟩ x)=some ((nT t (zh ⟨[],db⟩ x)).getD z7)∧z12 ((nT t (zh ⟨[],db⟩ x)).getD z7):=fun x hx=>by
  obtain⟨v,k1,k2⟩:=key x hx;rw[k1];exact⟨rfl,k2⟩
 generalize hfe : (fun x=>(nT t (zh ⟨[],db⟩ x)).getD z7)=f at *;have hfx:∀ x,(nT t (zh ⟨[],db⟩ x)).getD z7=f x:=fun x=>by rw[← hfe]
 have hf2:∀ x∈l,nT t (zh ⟨[],db⟩ x)=some (f x)∧z12 (f x):=fun x hx=>by rw[← hfx];exact hf' x hx
 have hb:∀ x∈l,nT (z5o 4 [t]) (zh ⟨[],db⟩ x)=some (zr 4 ⟨#[]⟩ [f x]):=fun x hx=>z2h6 4 (.inl rfl) (hf2 x hx).1 (hf2 x hx).2;have hc':∀ x∈l,nT (z5o 19 [z5o 4 [t]]) (zh ⟨[],db⟩ x)=some (zr 19 ⟨#[]⟩ [zr 4 ⟨#[]⟩ [f x]]):=fun x hx=>z2h6 19 (.inr rfl) (hb x hx) (by rw[z29p];exact zre _);refine⟨l,_,_,_,h1,z1bg f h1 (by simp) fun x hx=>(hf2 x hx).1,z1bg _ h1 (by simp) hb,z1bg _ h1 (by simp) hc',z2k8 _ _ _ l fun x _=>z2h5 (f x)⟩
end B
namespace B
open Go Go.RowKit
theorem zp0 {R:Bool→RF Un} {b:Bool} {X:Option (RF Un)} (h:b=false→X=some (R true)) : cndO b (some (R z6d)) X=some (R true):=by
 cases b
 ·exact h rfl
 ·rfl
theorem z2d2 {b:Bool} (h:(!b)=false) : b=true:=by cases b<;>simp_all
theorem z1cj (r:Rel) : Rel.mk r.op r.table r.cols r.kids r.terms r.aggs r.keys r.limit r.skip r.all r.rows=r:=Rel.ids_eq r
theorem zwi (t:Term) : Term.mk t.op t.v t.depth t.at_ t.name t.kids t.sub t.type=t:=Term.ids_eq t
theorem z2m6 (op:Int) (r:Rel) (t:Term) : (z1t op r [t]).sz≤r.sz+t.sz+3:=by
 have:=(z1t op r [t]).sz_eq;have e1:(z1t op r [t]).kids=[r]:=rfl;have e2:(z1t op r [t]).terms=[t]:=rfl;have e3:(z1t op r [t]).aggs=[]:=rfl;have e4:(z1t op r [t]).rows=[]:=rfl;simp only[e1,e2,e3,e4,szRs,szTs,szAs,y1a] at this;omega
end B
namespace B
open Go Go.RowKit
set_option maxRecDepth 100000
noncomputable section
attribute [local irreducible] awp ctxK zu z1d retQ z1p awf ctxF z1o
def zsu : Mc Un:=mcF_ [(11,z1fj),(19,zer),(18,z1lv),(20,z1mp),(21,z185),(23,z1qh),(22,zzm),(25,zik),(24,z1fg),(12,z1gu),(14,z103),(26,z25k),(27,z1x2)] [] [] [] []
def z18 (r:Rel) (t:Term):=z1t (3:Int) (Rel.mk r.op r.table r.cols r.kids r.terms r.aggs r.keys r.limit r.skip r.all r.rows) [Term.mk t.op t.v t.depth t.at_ t.name t.kids t.sub t.type]
def z19 (t:Term):=z5o (4:Int) [Term.mk t.op t.v t.depth t.at_ t.name t.kids t.sub t.type]
def z6e (r:Rel) (t:Term):=z1t (3:Int) (Rel.mk r.op r.table r.cols r.kids r.terms r.aggs r.keys r.limit r.skip r.all r.rows) [Term.mk (z19 t).op (z19 t).v (z19 t).depth (z19 t).at_ (z19 t).name (z19 t).kids (z19 t).sub (z19 t).type]
def z2w (t:Term):=z5o (19:Int) [Term.mk (z19 t).op (z19 t).v (z19 t).depth (z19 t).at_ (z19 t).name (z19 t).kids (z19 t).sub (z19 t).type]
def zc3 (r:Rel) (t:Term) (db:List Data):=z2c (Rel.mk (z18 r t).op (z18 r t).table (z18 r t).cols (z18 r t).kids (z18 r t).terms (z18 r t).aggs (z18 r t).keys (z18 r t).limit (z18 r t).skip (z18 r t).all (z18 r t).rows) db
def z8j (r:Rel) (t:Term):=z1t (3:Int) (Rel.mk r.op r.table r.cols r.kids r.terms r.aggs r.keys r.limit r.skip r.all r.rows) [Term.mk (z2w t).op (z2w t).v (z2w t).depth (z2w t).at_ (z2w t).name (z2w t).kids (z2w t).sub (z2w t).type]
def zrq (r:Rel) (t:Term) (db:List Data) : Option (RF Un):=fnF_ zsu z269 Tryz.f4 0 [.d] [.d (.agg (enc Ty.rel r)),.d (.agg (enc Ty.term t)),.d (.v (.dat (U:=Un) Ty.data db))]
theorem z1bh (r:Rel) (t:Term) (db:List Data) : zrq r t db=obO ((Rel.ids r).sz≤(2000000:Nat)) (obO (clR (Rel.ids r)≤(2000000000:Nat)) (cndO (!zr8 (Rel.ids r) db) (some (z9f (z6d))) (obO (z2l [z2i (Rel.ids r)] (Term.ids t).ht) (cndO (!z7h (Term.ids t) [z2i (Rel.ids r)]) (some (z9f (z6d))) (cndO (t.type != 1) (some (z9f (z6d))) (obO ((Term.ids t).sz≤(2000000:Nat)) (cndO (!zai (Term.ids t) db) (some (z9f (z6d))) (obO ((Term.ids t).sz≤(2000000:Nat)) (cndO (decide (zbo (Term.ids t) > 16)) (some (z9f (z6d))) (obO ((Rel.ids (z18 r t)).sz≤(2000000:Nat)) (cndO (zdq (Rel.ids (z18 r t)) db) (some (z9f (z6d))) (obO (r.cols.length≤(2000000000:Nat)) (obO ((Term.ids t).sz≤(2000000:Nat)) (obO (clT (Term.ids t)≤(2000000000:Nat)) (obO (tyT (Term.ids t)) (obO ([z1g r.cols].length+(Term.ids t).ht≤(8000000:Nat)) (cndO (!z88 (Term.ids t) [z1g r.cols]) (some (z9f (z6d))) (obO (okRl { env:=[],db:=db } (Rel.ids (z18 r t))) (obO (okRl { env:=[],db:=db } (Rel.ids (z6e r t))) (obO (okRl { env:=[],db:=db } (Rel.ids (z8j r t))) (cndO (z6d) (obO ((0+(zc3 r t db).length)*(24:Nat)≤zi) (obO (((zc3 r t db).length+(z2c (Rel.ids (z6e r t)) db).length)*(24:Nat)≤zi) (obO (((z2c (Rel.ids (z18 r t)) db++z2c (Rel.ids (z6e r t)) db).length+(z2c (Rel.ids (z8j r t)) db).length)*(24:Nat)≤zi) (obO (okRl { env:=[],db:=db } (Rel.ids r)) (some (z9f (z12d (z2c (Rel.ids (z18 r t)) db++z2c (Rel.ids (z6e r t)) db++z2c (Rel.ids (z8j r t)) db) (z2c (Rel.ids r) db)))))))) (some (z9f (false)))))))))))))))))))))))):=by kernel_rfl
def zyk (_r:Rel) (_t:Term) (_db:List Data) : Bool:=true
theorem z14c (r:Rel) (t:Term) (db:List Data) (_hr:WS .rel r) (_ht:WS .term t) (_hd:WL .data db) (hs:r.sz+t.sz≤1900000) (hcr:clR r≤2000000) (hct:clT t≤2000000) (hxr:txR r) (hxt:txT t) (G:DbG db) : zrq r t db=some (z9f (zyk r t db)):=by
 have c1:z18 r t=z1t 3 r [t]:=by unfold z18;rw[z1cj,zwi]
 have c2:z19 t=z5o 4 [t]:=by unfold z19;rw[zwi]
 have c3:z6e r t=z1t 3 r [z5o 4 [t]]:=by unfold z6e;rw[z1cj,zwi,c2]
 have c4:z2w t=z5o 19 [z5o 4 [t]]:=by unfold z2w;rw[zwi,c2]
 have c6:z8j r t=z1t 3 r [z5o 19 [z5o 4 [t]]]:=by unfold z8j;rw[z1cj,zwi,c4]
 have c5:zc3 r t db=z2c (z1t 3 r [t]) db:=by unfold zc3;rw[z1cj,c1]
 have ht:=zx8 r;have ht2:=z13p t;have hcl:=zg4 r;have ho:=z2m6 3 r t;rw[z1bh];simp only[Rel.ids_eq,Term.ids_eq,c1,c3,c5,c6];rw[z6 (by omega),z6 (by omega)];refine zp0 fun h1=>?_;rw[z6 (by unfold z2l;rw[ye];omega)];refine zp0 fun h2=>zp0 fun _=>?_;rw[z6 (by omega)];refine zp0 fun h3=>?_;rw[z6 (by omega)];refine zp0 fun _=>?_;rw[z6 (by omega)];refine zp0 fun h4=>?_;have h2:zbm t [z1y r]=true:=z2d2 h2;rw[z6 (by omega),z6 (by omega),z6 (by omega),z6 ((z22o (t.ht+1)).1 t _ (y2m _) h2),z6 (by rw[ye];omega)];refine zp0 fun _=>?_;obtain⟨l,a,b,c,k1,k2,k3,k4,hp⟩:=z2h7 G (z2j7 (z2d2 h1) (by omega) hcr hxr) h2 (z2d2 h3) (by omega) hct hxt h4 hs;have e1:z2c r db=l:=z8h k1;have e2:z2c (z1t 3 r [t]) db=a:=z8h k2;have e3:z2c (z1t 3 r [z5o 4 [t]]) db=b:=z8h k3;have e4:z2c (z1t 3 r [z5o 19 [z5o 4 [t]]]) db=c:=z8h k4;have n2:=z1aq k2;have n3:=z1aq k3;have n4:=z1aq k4;rw[z6 ⟨_,k2⟩,z6 ⟨_,k3⟩,z6 ⟨_,k4⟩,e1,e2,e3,e4,z8,if_pos z1u7,z6 (by unfold zi;omega),z6 (by unfold zi;omega),z6 (by unfold zi;rw[ya];omega),z6 ⟨_,k1⟩,z2js hp]
def zsv : FnC Un:=fnF3 (dS .rel) (dS .term) (dL .data) fun r t db=>([r.sz+t.sz≤1900000,clR r≤2000000,clT t≤2000000,txR r,txT t,DbG db],z9f (zyk r t db))
theorem z1bi : FnOK 4 zsv:=fnK3 zq zq z10 (M:=zsu) rfl ⟨z22p,zft,z26p,z26z,z1xz,z28n,z191,zml,z22k,z25i,z1bb,z2h4,z2cz,trivial⟩ trivial trivial trivial trivial Tryz.func4 fun r t db=>GiF.r fun w o=>z14c r t db (wfA_ w 0) (wfA_ w 1) (wfA_ w 2) (obA_ o 0) (obA_ o 1) (obA_ o 2) (obA_ o 3) (obA_ o 4) (obA_ o 5)
end
end B
end Go.Proofs.YtjfpbchdcbhfgaaGreat
