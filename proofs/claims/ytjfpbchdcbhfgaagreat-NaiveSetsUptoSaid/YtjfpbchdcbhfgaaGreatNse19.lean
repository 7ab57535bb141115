/- Part 19 of the proof: Sr03b Sr03l Slaw20a Slaw20o Lnset Lnaw Slaw20c. -/
import Derived.Test.YtjfpbchdcbhfgaaGreatNse18
set_option linter.unusedVariables false
set_option linter.unusedSimpArgs false
namespace Go.Proofs.YtjfpbchdcbhfgaaGreat
namespace B
open Go Go.RowKit
set_option maxRecDepth 100000
noncomputable section
attribute [local irreducible] awp ctxK zu z1a retQ z1m awf ctxF z1k
theorem z2jy(x y:List Val):(z7f x y==0)=deq x y:=by
 grind[z29c,z7f,deq,bne]
def zq7:Mc Un:=mcF_ [(43,zun)] [] [] [] []
def zzw:Nat→NS:=nsF_ [(3,{ts:=bl 23 99,bs:=bl 23 0,nm:=[],cs:=true})] true
def zac(l:List (List Val))(r:List Val)(v0:Int)(v1:Int):S Un:=(st 23 23 92 0 [(0,al .row l),(1,al .val r),(5,ai v0),(6,ai v1)] [] [])
def zgd:S Un→Option (EX Un):=lpF_ zq7 zzw Tryz.f63 [1,1,0,1,2,2] 3
def z1be:Exit→S Un→Option (RF Un):=cxF_ zq7 zzw Tryz.f63 [1,1,0,1,2] [.d]
def z1bf(l:List (List Val))(r:List Val):Option (RF Un):=fnF_ zq7 zzw Tryz.f63 0 [.d] [.d (.v (.dat (U:=Un) Ty.row l)),.d (.v (.dat (U:=Un) Ty.val r))]
theorem z25k(l:List (List Val))(r:List Val):z1bf l r=(zgd (zac l r (0:Int) (0:Int))).bind (zd z1be):=by kernel_rfl
theorem z1bg(l:List (List Val))(r:List Val)(v0:Int)(v1:Int):zgd (zac l r v0 v1)=cndO (decide (v1<(↑l.length:Int))) (obO (0≤v1∧v1<(↑l.length:Int)) (cndO (z7f (l.getD v1.toNat []) r==0) (zgd (zac l r (IntKind.i64.wrap (v0+1)) (IntKind.i64.wrap (v1+1)))) (zgd (zac l r v0 (IntKind.i64.wrap (v1+1)))))) (some (.exit 0,(zac l r v0 v1))):=lpQ_ (by kernel_rfl)
theorem z1qh(l:List (List Val))(r:List Val)(v0:Int)(v1:Int):z1be (.exit 0) (zac l r v0 v1)=some (z2b (v0)):=by kernel_rfl
noncomputable def z3w(l:List (List Val))(r:List Val):Int:=((l.countP fun x=>deq x r:Nat):Int)
theorem z1ua(l:List (List Val))(r:List Val)(hl:WL .row l)(_hr:WL .val r):z1bf l r=some (z2b (z3w l r)):=by
 rw[z25k];have hlen:=hl.len
 obtain⟨lp,hI⟩:=z1n (e:=.exit 0) (L:=zgd) (st:=fun(n:Int) i=>zac l r n i) (l:=l) (d:=[]) (g:=fun(n:Int) x=>if deq x r=true then n+1 else n) (fun i n=>0≤n∧n≤(i:Int)) hlen
  (fun n i x hi hx hI=>by
   rw[z1bg,z2jy];simp only[z8,hi,decide_true,if_true,and_true,y5,hx];rw[z6 (by omega)];by_cases c:deq x r=true
   ·rw[if_pos c,if_pos c,z1p (show(-9223372036854775808:Int)≤n+1∧n+1≤9223372036854775807 by omega)];grind
   grind)
  (fun n _=>by rw[z1bg];simp[z8]) 0 ⟨y27 _,y27 _⟩
 refine(zg lp).trans ?_;rw[z1qh];have key:∀(l:List (List Val))(n:Int),l.foldl (fun(n:Int) x=>if deq x r=true then n+1 else n) n=n+((l.countP fun x=>deq x r:Nat):Int):=by
  intro l
  induction l with
  |nil=>simp
  |cons x l ih=>
   grind
 rw[key,Int.zero_add];rfl
def z1gm:FnC Un:=fnF2 (dL .row) (dL .val) fun l r=>([],z2b (z3w l r))
theorem z25l:FnOK 63 z1gm:=fnK2 zx zx (M:=zq7) rfl ⟨z14g,trivial⟩ trivial trivial trivial trivial Tryz.func63 fun l r=>GiF.r fun w _=>z1ua l r (wfA_ w 0) (wfA_ w 1)
def zy5:Mc Un:=mcF_ [(63,z1gm)] [] [] [] []
def z1bh:Nat→NS:=nsF_ [(2,{ts:=bl 30 51,bs:=bl 30 0,nm:=[],cs:=true})] true
def z7q(a:List (List Val))(b:List (List Val))(v0:Int):S Un:=(st 30 30 120 0 [(0,al .row a),(1,al .row b),(4,ab false),(5,ai v0)] [] [])
def znc:S Un→Option (EX Un):=lpF_ zy5 z1bh Tryz.f27 [1,0,1,2,2] 2
def ztn:Exit→S Un→Option (RF Un):=cxF_ zy5 z1bh Tryz.f27 [1,0,1,2] [.d]
def z1qi(a:List (List Val))(b:List (List Val)):Option (RF Un):=fnF_ zy5 z1bh Tryz.f27 0 [.d] [.d (.v (.dat (U:=Un) Ty.row a)),.d (.v (.dat (U:=Un) Ty.row b))]
theorem z2d4(a:List (List Val))(b:List (List Val)):z1qi a b=(znc (z7q a b (0:Int))).bind (zd ztn):=by kernel_rfl
theorem z1qj(a:List (List Val))(b:List (List Val))(v0:Int):znc (z7q a b v0)=cndO (decide (v0<(↑a.length:Int))) (obO (0≤v0∧v0<(↑a.length:Int)) (obO (0≤v0∧v0<(↑a.length:Int)) (cndO (z3w a (a.getD v0.toNat []) !=z3w b (a.getD v0.toNat [])) (some (.ret,(z7q a b v0))) (znc (z7q a b (IntKind.i64.wrap (v0+1))))))) (some (.exit 0,(z7q a b v0))):=lpQ_ (by kernel_rfl)
theorem z1ub(a:List (List Val))(b:List (List Val))(v0:Int):ztn .ret (z7q a b v0)=some (z91 (false)):=by kernel_rfl
theorem z1zr(a:List (List Val))(b:List (List Val))(v0:Int):ztn (.exit 0) (z7q a b v0)=some (z91 ((↑a.length:Int)==(↑b.length:Int))):=by kernel_rfl
noncomputable def zty(a b:List (List Val)):Bool:=(a.all fun x=>z3w a x==z3w b x)&&((a.length:Int)==(b.length:Int))
theorem z25m(a b:List (List Val))(ha:WL .row a)(_hb:WL .row b):z1qi a b=some (z91 (zty a b)):=by
 have key:∀(r:List (List Val))(i:Nat),a.drop i=r→i≤a.length→(znc (z7q a b i)).bind (zd ztn)=some (z91 ((r.all fun x=>z3w a x==z3w b x)&&((a.length:Int)==(b.length:Int)))):=by
  intro r
  induction r with
  |nil=>
   intro i hr hi;have:a.length≤i:=by simp_all
   have e:znc (z7q a b i)=some (.exit 0,z7q a b i):=by rw[z1qj,z8,if_neg (by grind)]
   rw[zg e,z1zr];rfl
  |cons x r ih=>
   intro i hr hi;obtain⟨a1,a2,a3,hm⟩:=z32 hr;have hx:a.getD i []=x:=a2 [];have hl:=z1qj a b i;simp only[z8,y5,hx]at hl;rw[if_pos (by grind),z6 (by omega),z6 (by omega)]at hl;by_cases hf:(z3w a x==z3w b x)=true
   ·have hn:¬(z3w a x !=z3w b x)=true:=by grind
    rw[if_neg hn,z3e a1 ha.len]at hl;grind
   ·have hn:(z3w a x !=z3w b x)=true:=by grind
    rw[if_pos hn]at hl;rw[zg hl,z1ub,y1g,Bool.eq_false_iff.2 hf,y1q,y1q]
 rw[z2d4];exact key a 0 rfl (yb _)
def z1bi:FnC Un:=fnF2 (dL .row) (dL .row) fun a b=>([],z91 (zty a b))
theorem z2d5:FnOK 27 z1bi:=fnK2 zx zx (M:=zy5) rfl ⟨z25l,trivial⟩ trivial trivial trivial trivial Tryz.func27 fun a b=>GiF.r fun w _=>z25m a b (wfA_ w 0) (wfA_ w 1)
theorem z2d6{a b:List (List Val)}(h:a.Perm b)(x:List Val):z3w a x=z3w b x:=by
 unfold z3w;rw[h.countP_eq]
theorem z25n{a b:List (List Val)}(h:a.Perm b):zty a b=true:=by
 unfold zty;rw[yn,y19];refine⟨fun x _=>?_,?_⟩
 ·grind[z2d6]
 ·rw[h.length_eq];simp
end
end B
namespace B
open Go Go.RowKit
set_option maxRecDepth 100000
noncomputable section
attribute [local irreducible] awp ctxK zu z1a retQ z1m awf ctxF z1k
def z144:Nat→NS:=nsF_ [(2,{ts:=bl 33 51,bs:=bl 33 0,nm:=[],cs:=true})] true
def z7r(a:List (List Val))(b:List (List Val))(v0:Int):S Un:=(st 33 33 132 0 [(0,al .row a),(1,al .row b),(4,ab false),(5,ai v0)] [] [])
def zq8:S Un→Option (EX Un):=lpF_ zq7 z144 Tryz.f13 [1,0,1,2,2] 2
def zzx:Exit→S Un→Option (RF Un):=cxF_ zq7 z144 Tryz.f13 [1,0,1,2] [.d]
def z1gn(a:List (List Val))(b:List (List Val)):Option (RF Un):=fnF_ zq7 z144 Tryz.f13 0 [.d] [.d (.v (.dat (U:=Un) Ty.row a)),.d (.v (.dat (U:=Un) Ty.row b))]
theorem z28m(a:List (List Val))(b:List (List Val)):z1gn a b=(zq8 (z7r a b (0:Int))).bind (zd zzx):=by kernel_rfl
theorem z1go(a:List (List Val))(b:List (List Val))(v0:Int):zq8 (z7r a b v0)=cndO (decide (v0<(↑a.length:Int))) (cndO (decide (v0<(↑b.length:Int))) (obO (0≤v0∧v0<(↑a.length:Int)) (obO (0≤v0∧v0<(↑b.length:Int)) (cndO (z7f (a.getD v0.toNat []) (b.getD v0.toNat []) !=0) (some (.ret,(z7r a b v0))) (zq8 (z7r a b (IntKind.i64.wrap (v0+1))))))) (some (.exit 0,(z7r a b v0)))) (some (.exit 0,(z7r a b v0))):=lpQ_ (by kernel_rfl)
theorem z1qk(a:List (List Val))(b:List (List Val))(v0:Int):zzx .ret (z7r a b v0)=some (z91 (false)):=by kernel_rfl
theorem z1uc(a:List (List Val))(b:List (List Val))(v0:Int):zzx (.exit 0) (z7r a b v0)=some (z91 ((↑a.length:Int)==(↑b.length:Int))):=by kernel_rfl
noncomputable def z145(a b:List (List Val)):Bool:=deq a b
theorem z1zs(a b:List (List Val))(ha:WL .row a)(_hb:WL .row b):z1gn a b=some (z91 (z145 a b)):=by
 rw[z28m]
 exact z2il (L:=zq8) (st:=fun i=>z7r a b i) (fun r=>some (z91 r)) (d:=[]) ha.len
  (fun i hi hj=>by
   rw[z1go,z29c];simp only[z8,y5];rw[if_pos (by simp;omega),if_pos (by simp;omega),z6 (by omega),z6 (by omega)]
   cases deq (a.getD i []) (b.getD i [])<;>simp)
  (fun i h=>by
   rw[z1go];simp only[z8,decide_eq_true_eq];by_cases h1:(i:Int)<(a.length:Int)
   ·rw[if_pos h1,if_neg (by omega)]
   ·rw[if_neg h1])
  (fun i=>z1qk _ _ _) (fun i=>z1uc _ _ _)
def z146:FnC Un:=fnF2 (dL .row) (dL .row) fun a b=>([],z91 (z145 a b))
theorem z28n:FnOK 13 z146:=fnK2 zx zx (M:=zq7) rfl ⟨z14g,trivial⟩ trivial trivial trivial trivial Tryz.func13 fun a b=>GiF.r fun w _=>z1zs a b (wfA_ w 0) (wfA_ w 1)
end
end B
namespace B
open Go Go.RowKit
set_option maxRecDepth 100000
noncomputable section
attribute [local irreducible] awp ctxK zu z1a retQ z1m awf ctxF z1k
def z1gp:Mc Un:=mcF_ [(32,ze9),(14,zq6)] [] [] [] []
def zw9:Option (RF Un):=fnF_ z1gp z26d Tryz.f12 0 [.d] []
theorem z25o:zw9=obO (okRl {env:=[],db:=[{table:=(ByteArray.mk #[116]),rows:=[[(zf (1:Int))],[(zf (2:Int))],[z7]]}]} (Rel.mk (3:Int) (ByteArray.mk #[]) [{table:=(ByteArray.mk #[]),name:=(ByteArray.mk #[97]),type:=(2:Int)}] [(Rel.mk (1:Int) (ByteArray.mk #[116]) [{table:=(ByteArray.mk #[]),name:=(ByteArray.mk #[97]),type:=(2:Int)}] [] [] [] [] (0:Int) (0:Int) false [])] [(Term.mk (13:Int) z7 (0:Int) (0:Int) (ByteArray.mk #[]) [(Term.mk (2:Int) z7 (0:Int) (0:Int) (ByteArray.mk #[]) [] [] (2:Int)),(Term.mk (1:Int) (zf (2:Int)) (0:Int) (0:Int) (ByteArray.mk #[]) [] [] (2:Int))] [] (1:Int))] [] [] (0:Int) (0:Int) false [])) (cndO ((↑(z1b (Rel.mk (3:Int) (ByteArray.mk #[]) [{table:=(ByteArray.mk #[]),name:=(ByteArray.mk #[97]),type:=(2:Int)}] [(Rel.mk (1:Int) (ByteArray.mk #[116]) [{table:=(ByteArray.mk #[]),name:=(ByteArray.mk #[97]),type:=(2:Int)}] [] [] [] [] (0:Int) (0:Int) false [])] [(Term.mk (13:Int) z7 (0:Int) (0:Int) (ByteArray.mk #[]) [(Term.mk (2:Int) z7 (0:Int) (0:Int) (ByteArray.mk #[]) [] [] (2:Int)),(Term.mk (1:Int) (zf (2:Int)) (0:Int) (0:Int) (ByteArray.mk #[]) [] [] (2:Int))] [] (1:Int))] [] [] (0:Int) (0:Int) false []) [{table:=(ByteArray.mk #[116]),rows:=[[(zf (1:Int))],[(zf (2:Int))],[z7]]}]).length:Int)==(1:Int)) (obO ((0:Int)≤(0:Int)∧(0:Int)<(↑(z1b (Rel.mk (3:Int) (ByteArray.mk #[]) [{table:=(ByteArray.mk #[]),name:=(ByteArray.mk #[97]),type:=(2:Int)}] [(Rel.mk (1:Int) (ByteArray.mk #[116]) [{table:=(ByteArray.mk #[]),name:=(ByteArray.mk #[97]),type:=(2:Int)}] [] [] [] [] (0:Int) (0:Int) false [])] [(Term.mk (13:Int) z7 (0:Int) (0:Int) (ByteArray.mk #[]) [(Term.mk (2:Int) z7 (0:Int) (0:Int) (ByteArray.mk #[]) [] [] (2:Int)),(Term.mk (1:Int) (zf (2:Int)) (0:Int) (0:Int) (ByteArray.mk #[]) [] [] (2:Int))] [] (1:Int))] [] [] (0:Int) (0:Int) false []) [{table:=(ByteArray.mk #[116]),rows:=[[(zf (1:Int))],[(zf (2:Int))],[z7]]}]).length:Int)) (cndO ((↑(List.length ((z1b (Rel.mk (3:Int) (ByteArray.mk #[]) [{table:=(ByteArray.mk #[]),name:=(ByteArray.mk #[97]),type:=(2:Int)}] [(Rel.mk (1:Int) (ByteArray.mk #[116]) [{table:=(ByteArray.mk #[]),name:=(ByteArray.mk #[97]),type:=(2:Int)}] [] [] [] [] (0:Int) (0:Int) false [])] [(Term.mk (13:Int) z7 (0:Int) (0:Int) (ByteArray.mk #[]) [(Term.mk (2:Int) z7 (0:Int) (0:Int) (ByteArray.mk #[]) [] [] (2:Int)),(Term.mk (1:Int) (zf (2:Int)) (0:Int) (0:Int) (ByteArray.mk #[]) [] [] (2:Int))] [] (1:Int))] [] [] (0:Int) (0:Int) false []) [{table:=(ByteArray.mk #[116]),rows:=[[(zf (1:Int))],[(zf (2:Int))],[z7]]}]).getD 0 [])):Int)==(1:Int)) (obO ((0:Int)≤(0:Int)∧(0:Int)<(↑(z1b (Rel.mk (3:Int) (ByteArray.mk #[]) [{table:=(ByteArray.mk #[]),name:=(ByteArray.mk #[97]),type:=(2:Int)}] [(Rel.mk (1:Int) (ByteArray.mk #[116]) [{table:=(ByteArray.mk #[]),name:=(ByteArray.mk #[97]),type:=(2:Int)}] [] [] [] [] (0:Int) (0:Int) false [])] [(Term.mk (13:Int) z7 (0:Int) (0:Int) (ByteArray.mk #[]) [(Term.mk (2:Int) z7 (0:Int) (0:Int) (ByteArray.mk #[]) [] [] (2:Int)),(Term.mk (1:Int) (zf (2:Int)) (0:Int) (0:Int) (ByteArray.mk #[]) [] [] (2:Int))] [] (1:Int))] [] [] (0:Int) (0:Int) false []) [{table:=(ByteArray.mk #[116]),rows:=[[(zf (1:Int))],[(zf (2:Int))],[z7]]}]).length:Int)) (obO ((0:Int)≤(0:Int)∧(0:Int)<(↑(List.length ((z1b (Rel.mk (3:Int) (ByteArray.mk #[]) [{table:=(ByteArray.mk #[]),name:=(ByteArray.mk #[97]),type:=(2:Int)}] [(Rel.mk (1:Int) (ByteArray.mk #[116]) [{table:=(ByteArray.mk #[]),name:=(ByteArray.mk #[97]),type:=(2:Int)}] [] [] [] [] (0:Int) (0:Int) false [])] [(Term.mk (13:Int) z7 (0:Int) (0:Int) (ByteArray.mk #[]) [(Term.mk (2:Int) z7 (0:Int) (0:Int) (ByteArray.mk #[]) [] [] (2:Int)),(Term.mk (1:Int) (zf (2:Int)) (0:Int) (0:Int) (ByteArray.mk #[]) [] [] (2:Int))] [] (1:Int))] [] [] (0:Int) (0:Int) false []) [{table:=(ByteArray.mk #[116]),rows:=[[(zf (1:Int))],[(zf (2:Int))],[z7]]}]).getD 0 [])):Int)) (some (z91 (andB [EK.int IntKind.i64,EK.str] ((List.getD ((z1b (Rel.mk (3:Int) (ByteArray.mk #[]) [{table:=(ByteArray.mk #[]),name:=(ByteArray.mk #[97]),type:=(2:Int)}] [(Rel.mk (1:Int) (ByteArray.mk #[116]) [{table:=(ByteArray.mk #[]),name:=(ByteArray.mk #[97]),type:=(2:Int)}] [] [] [] [] (0:Int) (0:Int) false [])] [(Term.mk (13:Int) z7 (0:Int) (0:Int) (ByteArray.mk #[]) [(Term.mk (2:Int) z7 (0:Int) (0:Int) (ByteArray.mk #[]) [] [] (2:Int)),(Term.mk (1:Int) (zf (2:Int)) (0:Int) (0:Int) (ByteArray.mk #[]) [] [] (2:Int))] [] (1:Int))] [] [] (0:Int) (0:Int) false []) [{table:=(ByteArray.mk #[116]),rows:=[[(zf (1:Int))],[(zf (2:Int))],[z7]]}]).getD 0 []) 0 z7).kind ==(zf (1:Int)).kind) (andB [EK.str] ((List.getD ((z1b (Rel.mk (3:Int) (ByteArray.mk #[]) [{table:=(ByteArray.mk #[]),name:=(ByteArray.mk #[97]),type:=(2:Int)}] [(Rel.mk (1:Int) (ByteArray.mk #[116]) [{table:=(ByteArray.mk #[]),name:=(ByteArray.mk #[97]),type:=(2:Int)}] [] [] [] [] (0:Int) (0:Int) false [])] [(Term.mk (13:Int) z7 (0:Int) (0:Int) (ByteArray.mk #[]) [(Term.mk (2:Int) z7 (0:Int) (0:Int) (ByteArray.mk #[]) [] [] (2:Int)),(Term.mk (1:Int) (zf (2:Int)) (0:Int) (0:Int) (ByteArray.mk #[]) [] [] (2:Int))] [] (1:Int))] [] [] (0:Int) (0:Int) false []) [{table:=(ByteArray.mk #[116]),rows:=[[(zf (1:Int))],[(zf (2:Int))],[z7]]}]).getD 0 []) 0 z7).n ==(zf (1:Int)).n) (andB [] ((List.getD ((z1b (Rel.mk (3:Int) (ByteArray.mk #[]) [{table:=(ByteArray.mk #[]),name:=(ByteArray.mk #[97]),type:=(2:Int)}] [(Rel.mk (1:Int) (ByteArray.mk #[116]) [{table:=(ByteArray.mk #[]),name:=(ByteArray.mk #[97]),type:=(2:Int)}] [] [] [] [] (0:Int) (0:Int) false [])] [(Term.mk (13:Int) z7 (0:Int) (0:Int) (ByteArray.mk #[]) [(Term.mk (2:Int) z7 (0:Int) (0:Int) (ByteArray.mk #[]) [] [] (2:Int)),(Term.mk (1:Int) (zf (2:Int)) (0:Int) (0:Int) (ByteArray.mk #[]) [] [] (2:Int))] [] (1:Int))] [] [] (0:Int) (0:Int) false []) [{table:=(ByteArray.mk #[116]),rows:=[[(zf (1:Int))],[(zf (2:Int))],[z7]]}]).getD 0 []) 0 z7).s.toList ==(zf (1:Int)).s.toList) true))))))) (some (z91 (false))))) (some (z91 (false)))):=by kernel_rfl
def colA:Term:=.mk 2 z7 0 0 ⟨#[]⟩ [] [] 2
def cA:Term:=.mk 1 (zf 2) 0 0 ⟨#[]⟩ [] [] 2
def lessA:Term:=.mk 13 z7 0 0 ⟨#[]⟩ [colA,cA] [] 1
def tabA:Rel:=.mk 1 ⟨#[116]⟩ [⟨⟨#[]⟩,⟨#[97]⟩,2⟩] [] [] [] [] 0 0 false []
def relA:Rel:=.mk 3 ⟨#[]⟩ [⟨⟨#[]⟩,⟨#[97]⟩,2⟩] [tabA] [lessA] [] [] 0 0 false []
def dbA:List Data:=[⟨⟨#[116]⟩,[[zf 1],[zf 2],[z7]]⟩]
theorem z2m2{x:Val}(h:z17 x):nT colA (zj ⟨[],dbA⟩ [x])=some x:=by
 rw[z1pp,if_pos (.inr rfl),zk5 ⟨by decide,(z1t1 colA).2 ⟨yb _,trivial⟩,fun r hr v hv=>by
  rw[yh.1 hr]at hv
  grind⟩]
 rfl
theorem z2nt{x:Val}(h:z17 x):nT cA (zj ⟨[],dbA⟩ [x])=some (zf 2):=by
 rw[z1pp,if_pos (.inl rfl),zk5 ⟨by decide,(z1t1 cA).2 ⟨yb _,trivial⟩,fun r hr v hv=>by
  rw[yh.1 hr]at hv
  grind⟩]
 rfl
theorem z1jw{x:Val}(h:z17 x):nT lessA (zj ⟨[],dbA⟩ [x])=some (z1x 13 ⟨#[]⟩ [x,zf 2]):=by
 have hk:nTs lessA.kids (zj ⟨[],dbA⟩ [x])=some [x,zf 2]:=by
  show nTs [colA,cA] _=_;simp only[nTs,z2m2 h,z2nt h,ym]
 rw[z1pp,if_neg (by decide),if_neg (by decide),if_neg (by decide),if_neg (by decide),if_pos (by decide),hk,ym,zk5 ⟨by simp,fun y hy=>by
  rcases yf.1 hy with rfl|hy
  ·exact h
  ·rw[yh.1 hy];exact yb _⟩]
 rfl
theorem z2m3:z1x 13 ⟨#[]⟩ [zf 1,zf 2]=z2v true:=by rfl
theorem z2m4:z1x 13 ⟨#[]⟩ [zf 2,zf 2]=z2v false:=by rfl
theorem z2m5:z1x 13 ⟨#[]⟩ [z7,zf 2]=z7:=by rfl
theorem soA1:nSo [lessA] (zj ⟨[],dbA⟩ [zf 1])=some true:=by
 simp only[nSo,z1jw (zxl 1),z2m3,ym];rfl
theorem soA2:nSo [lessA] (zj ⟨[],dbA⟩ [zf 2])=some false:=by
 simp only[nSo,z1jw (zxl 2),z2m4,ym];rfl
theorem soA3:nSo [lessA] (zj ⟨[],dbA⟩ [z7])=some false:=by
 simp only[nSo,z1jw z3h,z2m5,ym];rfl
theorem z2m6:nR tabA ⟨[],dbA⟩=some [[zf 1],[zf 2],[z7]]:=by
 rw[z1cd,if_pos (show tabA.op=1 from rfl),zk5 ⟨by decide,fun d hd=>by rw[yh.1 hd];simp⟩];have e:z6e ⟨[],dbA⟩ tabA.table=[[zf 1],[zf 2],[z7]]:=by
  simp[z6e,dbA,tabA,Rel.table_mk]
 rw[e];rfl
theorem z29r:nR relA ⟨[],dbA⟩=some [[zf 1]]:=by
 have hk:nKid relA.kids 0 ⟨[],dbA⟩=some [[zf 1],[zf 2],[z7]]:=by
  exact z2m6
 show((nKid relA.kids 0 ⟨[],dbA⟩).bind fun l=>zdm (fun x=>nSo [lessA] (zj ⟨[],dbA⟩ x)) l).bind capQ=_;rw[hk,ym];simp only[zdm,soA1,soA2,soA3,ym];rfl
def zbi:Bool:=true
theorem z1ud:zw9=some (z91 zbi):=by
 have h:z1b relA dbA=[[zf 1]]:=z36 z29r;have e:=z25o;rw[show zw9=_ from e,z6 ⟨_,z29r⟩];simp only[z8];have h2:z1b (Rel.mk (3:Int) (ByteArray.mk #[]) [{table:=(ByteArray.mk #[]),name:=(ByteArray.mk #[97]),type:=(2:Int)}] [(Rel.mk (1:Int) (ByteArray.mk #[116]) [{table:=(ByteArray.mk #[]),name:=(ByteArray.mk #[97]),type:=(2:Int)}] [] [] [] [] (0:Int) (0:Int) false [])] [(Term.mk (13:Int) z7 (0:Int) (0:Int) (ByteArray.mk #[]) [(Term.mk (2:Int) z7 (0:Int) (0:Int) (ByteArray.mk #[]) [] [] (2:Int)),(Term.mk (1:Int) (zf (2:Int)) (0:Int) (0:Int) (ByteArray.mk #[]) [] [] (2:Int))] [] (1:Int))] [] [] (0:Int) (0:Int) false []) [{table:=(ByteArray.mk #[116]),rows:=[[(zf (1:Int))],[(zf (2:Int))],[z7]]}]=[[zf 1]]:=h;simp_all[obO,andB,zbi]
def zzy:FnC Un:=fnF0 ([],z91 (zbi))
theorem z25p:FnOK 12 zzy:=fnK0 (M:=z1gp) rfl ⟨zfa,z1bd,trivial⟩ trivial trivial trivial trivial Tryz.func12 (GiF.r fun _ _=>z1ud)
theorem z1ue:zbi=true:=rfl
end
end B
namespace B
open Go Go.RowKit
set_option maxRecDepth 100000
noncomputable section
attribute [local irreducible] awp ctxK zu z1a retQ z1m awf ctxF z1k
def z147(r:Rel):RF Un:=([.agg (encC Ty.rel r)],[])
def z1gq(op:Int)(kid:Rel)(t:List Term):Option (RF Un):=fnF_ z1dq z26d Tryz.f23 0 [.d] [.d (.v (.s (.int .i64 op))),.d (.agg (enc Ty.rel kid)),.d (.v (.dat (U:=Un) Ty.term t))]
theorem z28p(op:Int)(kid:Rel)(t:List Term):z1gq op kid t=some (z147 (Rel.mk op (ByteArray.mk #[]) kid.cols [(Rel.ids kid)] t [] [] (0:Int) (0:Int) false [])):=by kernel_rfl
def z8o(op:Int)(kid:Rel)(t:List Term):Rel:=.mk op ⟨#[]⟩ kid.cols [kid] t [] [] 0 0 false []
theorem z1zt(op:Int)(kid:Rel)(t:List Term)(_ho:WI op)(_hk:WS .rel kid)(_ht:WL .term t):z1gq op kid t=some (z147 (z8o op kid t)):=by
 rw[z28p,Rel.ids_eq];rfl
def z148:FnC Un:=fnF3 (dI .i64) (dS .rel) (dL .term) fun op kid t=>([],z147 (z8o op kid t))
theorem z28q:FnOK 23 z148:=fnK3 z1c zr zx (M:=z1dq) rfl trivial trivial trivial trivial trivial Tryz.func23 fun op kid t=>GiF.r fun w _=>z1zt op kid t (wfA_ w 0) (wfA_ w 1) (wfA_ w 2)
end
end B
namespace B
open Go Go.RowKit
open Classical in
theorem z1qm(l:Rows)(x:List Val):(0≤zi l x↔x∈l)∧(x∈l→l.Perm (x::l.eraseIdx (zi l x).toNat)):=by
 unfold zi;have hp:∀y,plc1 y x=true↔y=x:=fun y=>by
  show(ordR y x==0)=true↔y=x;rw[beq_iff_eq,ordR_zero]
 cases h:l.findIdx? (fun y=>plc1 y x)with
 |none=>
  grind
 |some i=>
  obtain⟨hi,h1,_⟩:=y2d.1 h;grind[List.getElem_mem,Int.toNat_natCast,List.take_append_drop,List.drop_eq_getElem_cons,List.eraseIdx_eq_take_drop_succ,List.perm_middle]
theorem z1xa(l:Rows)(x:List Val):zi l x<0↔x ∉l:=by
 rw[←(z1qm l x).1];omega
theorem z1xb:∀(a b:Rows),(setL true a b++setL false a b).Perm a
 |[],_=>List.Perm.refl _
 |y::l,b=>by
  simp only[setL];have ih:=z1xb l (if 0≤zi b y then b.eraseIdx (zi b y).toNat else b);by_cases c:0≤zi b y
  ·simp_all
  ·simp only[c,decide_false,if_false,reduceCtorEq,if_true,yx]at ih ⊢;exact(y3v (a:=y)).trans (ih.cons y)
open Classical in
theorem z149(x:List Val):∀(a b:Rows),(setL true a b).count x=min (a.count x) (b.count x)
 |[],b=>by rfl
 |y::l,b=>by
  simp only[setL];obtain⟨h1,h2⟩:=z1qm b y;by_cases c:0≤zi b y
  ·have hp:=(h2 (h1.1 c)).count_eq x;simp only[c,decide_true,if_true,List.singleton_append];rw[y3x,y3x,z149 x l,hp,y3x];simp
  ·simp;rw[z149 x l,y3x];grind
open Classical in
theorem z2hb(a b:Rows):(setL true a b).Perm (setL true b a):=by
 simp[List.perm_iff_count,z149,Nat.min_comm]
theorem z29s:∀(l o:Rows),o.Nodup→(l.foldl (fun o x=>if zi o x<0 then o++[x]else o) o).Nodup
 |[],o,h=>h
 |y::l,o,h=>by
  rw[yt];refine z29s l _ ?_;split
  ·rename_i c;have hn:=(z1xa o y).1 c;grind
  omega
theorem z2d8(l:Rows):(z13 l).Nodup:=z29s l [] List.nodup_nil
theorem z1xc:∀(l o:Rows),(o++l).Nodup→l.foldl (fun o x=>if zi o x<0 then o++[x]else o) o=o++l
 |[],o,_=>by simp
 |y::l,o,h=>by
  have hn:y ∉o:=fun hy=>(List.nodup_append.1 h).2.2 y hy y y10 rfl;rw[yt,if_pos ((z1xa o y).2 hn),z1xc l (o++[y]) (by grind),y11];rfl
theorem z2hc(l:Rows):z13 (z13 l)=z13 l:=z1xc (z13 l) [] (z2d8 l)
def setR(op:Int)(cols:List Col)(a b:Rel)(all:Bool):Rel:=.mk op ⟨#[]⟩ cols [a,b] [] [] [] 0 0 all []
theorem z127{op:Int}(ho:op=9∨op=10∨op=11)(cols:List Col){a b:Rel}(all:Bool){w:Wld}{A B:Rows}(ha:nR a w=some A)(hb:nR b w=some B)(hl:A.length+B.length≤100000000):
  nR (setR op cols a b all) w=some (setE op all (if op=9 then A++B else A) B):=by
 have hop:(setR op cols a b all).op=op:=rfl;have hall:(setR op cols a b all).all=all:=rfl;have hkids:(setR op cols a b all).kids=[a,b]:=rfl;have e:setO (fun w=>nKid [a,b] 0 w) (fun w=>nKid [a,b] 1 w) op all w=some (setE op all (if op=9 then A++B else A) B):=by
  show(nR a w).bind (fun x=>(nR b w).bind _)=_;by_cases c:op=9
  all_goals simp_all[if_pos,capQ,ya,ym,if_neg]
 have hs:(setE op all (if op=9 then A++B else A) B).length≤100000000:=by
  grind[Nat.le_trans,z24r,List.length_append]
 rw[z1cd,hop,hall,hkids,if_neg (by omega),if_neg (by omega),if_neg (by omega),if_neg (by omega),if_neg (by omega),if_neg (by omega),if_neg (by omega),if_pos ho,e,ym];simp_all[capQ,if_pos]
theorem z1gr{r:Rel}{w:Wld}{l:Rows}(hr:nR r w=some l):nR (z8o 8 r []) w=some (z13 l):=by
 have hl:=z1pu hr;have e:(nKid (z8o 8 r []).kids 0 w).bind (fun l=>some (z13 l))=some (z13 l):=by
  show(nR r w).bind _=_;grind
 rw[z1cd,if_neg (by show¬(8:Int)=1;omega),if_neg (by show¬(8:Int)=2;omega),if_neg (by show¬(8:Int)=3;omega),if_neg (by show¬(8:Int)=4;omega),if_neg (by show¬((8:Int)=5∨(8:Int)=6);omega),if_neg (by show¬(8:Int)=7;omega),if_pos (by rfl),e,ym];unfold capQ;rw[if_pos (by grind[zoa])]
theorem z2m7{a b:Rel}{w:Wld}{A B:Rows}(cols:List Col)(ha:nR a w=some A)(hb:nR b w=some B)(hl:A.length+B.length≤100000000):
  nR (setR 9 cols a b true) w=some (A++B)∧(∃i o,nR (setR 10 cols a b true) w=some i∧nR (setR 11 cols a b true) w=some o∧(i++o).Perm A∧∃j,nR (setR 10 cols b a true) w=some j∧j.Perm i)∧
  (∃u,nR (setR 9 cols a b false) w=some u∧nR (z8o 8 (setR 9 cols a b false) []) w=some u)∧∃o d,nR (setR 11 cols a b false) w=some o∧nR (z8o 8 a []) w=some d∧o.length≤d.length:=by
 have h9:∀all,setE 9 all (A++B) B=if all=true then A++B else z13 (A++B):=fun all=>by rfl
 have h1:=z127 (op:=9) (.inl rfl) cols true ha hb hl;have h2:=z127 (op:=10) (.inr (.inl rfl)) cols true ha hb hl;have h3:=z127 (op:=11) (.inr (.inr rfl)) cols true ha hb hl;have h4:=z127 (op:=10) (.inr (.inl rfl)) cols true hb ha (by omega);have h5:=z127 (op:=9) (.inl rfl) cols false ha hb hl;have h6:=z127 (op:=11) (.inr (.inr rfl)) cols false ha hb hl;rw[if_pos rfl,h9,if_neg (by simp)]at h5;refine⟨h1,⟨_,_,h2,h3,z1xb A B,_,h4,z2hb B A⟩,⟨_,h5,?_⟩,_,_,h6,z1gr ha,?_⟩
 ·rw[z1gr h5,z2hc]
 ·exact(z1ji false (z13 A) B).1
end B
namespace B
open Go Go.RowKit
theorem z1uf{R:Bool→RF Un}{b:Bool}{X:Option (RF Un)}(h:b=false→X=some (R true)):cndO b (some (R zbi)) X=some (R true):=by
 cases b
 ·exact h rfl
 ·rfl
theorem z2kb{b:Bool}(h:(!b)=false):b=true:=by cases b<;>simp_all
theorem ztz(r:Rel):Rel.mk r.op r.table r.cols r.kids r.terms r.aggs r.keys r.limit r.skip r.all r.rows=r:=Rel.ids_eq r
theorem z2d9{α:Type}{b:Bool}{X Y Z:Option α}(hb:b=true)(h:X=Z):cndO b X Y=Z:=by subst hb;exact h
theorem z2kc{α:Type}{b:Bool}{X Y Z:Option α}(hb:b=false)(h:Y=Z):cndO b X Y=Z:=by subst hb;exact h
theorem z2hd(l:Rows):z145 l l=true:=deq_iff.2 rfl
end B
namespace B
open Go Go.RowKit
set_option maxRecDepth 100000
noncomputable section
attribute [local irreducible] awp ctxK zu z1a retQ z1m awf ctxF z1k
def zy6:Mc Un:=mcF_ [(11,zze),(25,zek),(31,zpi),(12,zzy),(14,zq6),(27,z1bi),(23,z148),(13,z146)] [] [] [] []
def zdq(a:Rel)(db:List Data):=z1b (Rel.mk a.op a.table a.cols a.kids a.terms a.aggs a.keys a.limit a.skip a.all a.rows) db
def zad(a:Rel)(b:Rel)(db:List Data):=z1b (Rel.mk (10:Int) (ByteArray.mk #[]) a.cols [Rel.mk a.op a.table a.cols a.kids a.terms a.aggs a.keys a.limit a.skip a.all a.rows,Rel.mk b.op b.table b.cols b.kids b.terms b.aggs b.keys b.limit b.skip b.all b.rows] [] [] [] (0:Int) (0:Int) true []) db
def zdr(a:Rel)(b:Rel):=z8o (8:Int) (Rel.mk (9:Int) (ByteArray.mk #[]) a.cols [Rel.mk a.op a.table a.cols a.kids a.terms a.aggs a.keys a.limit a.skip a.all a.rows,Rel.mk b.op b.table b.cols b.kids b.terms b.aggs b.keys b.limit b.skip b.all b.rows] [] [] [] (0:Int) (0:Int) false []) []
def zds(a:Rel):=z8o (8:Int) (Rel.mk a.op a.table a.cols a.kids a.terms a.aggs a.keys a.limit a.skip a.all a.rows) []
def zwa(a:Rel)(b:Rel)(db:List Data):Option (RF Un):=fnF_ zy6 z26d Tryz.f6 0 [.d] [.d (.agg (enc Ty.rel a)),.d (.agg (enc Ty.rel b)),.d (.v (.dat (U:=Un) Ty.data db))]
theorem z1jx(a:Rel)(b:Rel)(db:List Data):zwa a b db=obO ((Rel.ids a).sz≤(2000000:Nat)) (obO (clR (Rel.ids a)≤(2000000000:Nat)) (cndO (!zke (Rel.ids a) db) (some (z1fp (zbi))) (obO ((Rel.ids b).sz≤(2000000:Nat)) (obO (clR (Rel.ids b)≤(2000000000:Nat)) (cndO (!zke (Rel.ids b) db) (some (z1fp (zbi))) (obO (a.cols.length≤(2000000000:Nat)) (obO (b.cols.length≤(2000000000:Nat)) (cndO (!zqp (z1e a.cols) (z1e b.cols)) (some (z1fp (zbi))) (obO (okRl {env:=[],db:=db} (Rel.ids a)) (obO (okRl {env:=[],db:=db} (Rel.mk (9:Int) (ByteArray.mk #[]) a.cols [(Rel.ids a),(Rel.ids b)] [] [] [] (0:Int) (0:Int) true [])) (obO (okRl {env:=[],db:=db} (Rel.ids b)) (cndO ((↑(z1b (Rel.mk (9:Int) (ByteArray.mk #[]) a.cols [(Rel.ids a),(Rel.ids b)] [] [] [] (0:Int) (0:Int) true []) db).length:Int) !=IntKind.i64.wrap ((↑(zdq a db).length:Int)+(↑(z1b (Rel.ids b) db).length:Int))) (some (z1fp (false))) (obO (okRl {env:=[],db:=db} (Rel.mk (10:Int) (ByteArray.mk #[]) a.cols [(Rel.ids a),(Rel.ids b)] [] [] [] (0:Int) (0:Int) true [])) (obO ((0+(zad a b db).length)*(24:Nat)≤zh) (obO (okRl {env:=[],db:=db} (Rel.mk (11:Int) (ByteArray.mk #[]) a.cols [(Rel.ids a),(Rel.ids b)] [] [] [] (0:Int) (0:Int) true [])) (obO (((zad a b db).length+(z1b (Rel.mk (11:Int) (ByteArray.mk #[]) a.cols [(Rel.ids a),(Rel.ids b)] [] [] [] (0:Int) (0:Int) true []) db).length)*(24:Nat)≤zh) (cndO (!zty (z1b (Rel.mk (10:Int) (ByteArray.mk #[]) a.cols [(Rel.ids a),(Rel.ids b)] [] [] [] (0:Int) (0:Int) true []) db++z1b (Rel.mk (11:Int) (ByteArray.mk #[]) a.cols [(Rel.ids a),(Rel.ids b)] [] [] [] (0:Int) (0:Int) true []) db) (zdq a db)) (some (z1fp (false))) (obO (okRl {env:=[],db:=db} (Rel.mk (9:Int) (ByteArray.mk #[]) a.cols [(Rel.ids a),(Rel.ids b)] [] [] [] (0:Int) (0:Int) false [])) (cndO (zbi) (obO (okRl {env:=[],db:=db} (Rel.ids (zdr a b))) (cndO (z145 (z1b (Rel.mk (9:Int) (ByteArray.mk #[]) a.cols [(Rel.ids a),(Rel.ids b)] [] [] [] (0:Int) (0:Int) false []) db) (z1b (Rel.ids (zdr a b)) db)) (obO (okRl {env:=[],db:=db} (Rel.mk (10:Int) (ByteArray.mk #[]) a.cols [(Rel.ids b),(Rel.ids a)] [] [] [] (0:Int) (0:Int) true [])) (obO (okRl {env:=[],db:=db} (Rel.mk (10:Int) (ByteArray.mk #[]) a.cols [(Rel.ids a),(Rel.ids b)] [] [] [] (0:Int) (0:Int) true [])) (cndO (zty (z1b (Rel.mk (10:Int) (ByteArray.mk #[]) a.cols [(Rel.ids b),(Rel.ids a)] [] [] [] (0:Int) (0:Int) true []) db) (zad a b db)) (obO (okRl {env:=[],db:=db} (Rel.mk (11:Int) (ByteArray.mk #[]) a.cols [(Rel.ids a),(Rel.ids b)] [] [] [] (0:Int) (0:Int) false [])) (obO (okRl {env:=[],db:=db} (Rel.ids (zds a))) (some (z1fp (decide ((↑(z1b (Rel.mk (11:Int) (ByteArray.mk #[]) a.cols [(Rel.ids a),(Rel.ids b)] [] [] [] (0:Int) (0:Int) false []) db).length:Int)≤(↑(z1b (Rel.ids (zds a)) db).length:Int))))))) (some (z1fp (false)))))) (some (z1fp (false))))) (some (z1fp (false)))))))))))))))))))))):=by kernel_rfl
def zsd(_a _b:Rel)(_db:List Data):Bool:=true
theorem z1bj(a b:Rel)(db:List Data)(_ha:WS .rel a)(_hb:WS .rel b)(_hd:WL .data db)(hs:a.sz+b.sz≤1900000)(hca:clR a≤2000000)(hcb:clR b≤2000000)(hxa:txR a)(hxb:txR b)(G:DbG db):zwa a b db=some (z1fp (zsd a b db)):=by
 have hca':=ze0 a;have hcb':=ze0 b;have c1:zdq a db=z1b a db:=by unfold zdq;rw[ztz]
 have c2:zad a b db=z1b (setR 10 a.cols a b true) db:=by unfold zad;rw[ztz,ztz];rfl
 have c3:zdr a b=z8o 8 (setR 9 a.cols a b false) []:=by unfold zdr;rw[ztz,ztz];rfl
 have c4:zds a=z8o 8 a []:=by unfold zds;rw[ztz]
 have e:∀(op:Int)(x y:Rel)(all:Bool),Rel.mk op (ByteArray.mk #[]) a.cols [x,y] [] [] [] 0 0 all []=setR op a.cols x y all:=fun _ _ _ _=>rfl;rw[z1jx];simp only[Rel.ids_eq,c1,c2,c3,c4,e];rw[z6 (by omega),z6 (by omega)];refine z1uf fun h1=>?_;rw[z6 (by omega),z6 (by omega)];refine z1uf fun h2=>?_;rw[z6 (by omega),z6 (by omega)];refine z1uf fun _=>?_;have ga:=z24x (z2kb h1) (by omega) hca hxa;have gb:=z24x (z2kb h2) (by omega) hcb hxb;obtain⟨A,hA,fA⟩:=z2gu G ga;obtain⟨B,hB,fB⟩:=z2gu G gb;have wA:=(z5a G.rows ga.sz).1.2;have wB:=(z5a G.rows gb.sz).1.2;have lA:=fA.few;have lB:=fB.few;obtain⟨k1,⟨i,o,k2,k3,k4,j,k5,k6⟩,⟨u,k7,k8⟩,o2,d,k9,k10,k11⟩:=z2m7 a.cols hA hB (by omega);have n2:=z1pu k2;have n3:=z1pu k3;have e0:z1b a db=A:=z36 hA;have e1:z1b b db=B:=z36 hB;have e2:z1b (setR 9 a.cols a b true) db=A++B:=z36 k1;have e3:z1b (setR 10 a.cols a b true) db=i:=z36 k2;have e4:z1b (setR 11 a.cols a b true) db=o:=z36 k3;have e5:z1b (setR 10 a.cols b a true) db=j:=z36 k5;have e6:z1b (setR 9 a.cols a b false) db=u:=z36 k7;have e7:z1b (z8o 8 (setR 9 a.cols a b false) []) db=u:=z36 k8;have e8:z1b (setR 11 a.cols a b false) db=o2:=z36 k9;have e9:z1b (z8o 8 a []) db=d:=z36 k10;rw[e0,e1,e2,e3,e4,e5,e6,e7,e8,e9,z6 ⟨_,hA⟩,z6 ⟨_,k1⟩,z6 ⟨_,hB⟩];refine z2kc (by rw[bne_eq_false_iff_eq,ya,z1p (by omega)];omega) ?_;rw[z6 ⟨_,k2⟩,z6 (by unfold zh;omega),z6 ⟨_,k3⟩,z6 (by unfold zh;omega)];refine z2kc (by rw[z25n k4];rfl) ?_;rw[z6 ⟨_,k7⟩];refine z2d9 z1ue ?_;rw[z6 ⟨_,k8⟩];refine z2d9 (z2hd u) ?_;rw[z6 ⟨_,k5⟩,z6 ⟨_,k2⟩];refine z2d9 (z25n k6) ?_;rw[z6 ⟨_,k9⟩,z6 ⟨_,k10⟩,decide_eq_true (by omega)]
def zne:FnC Un:=fun args=>match args with
 |[x0,x1,x2]=>(dS .rel x0).bind fun a=>(dS .rel x1).bind fun b=>(dL .data x2).bind fun db=>some ([a.sz+b.sz≤1900000,clR a≤2000000,clR b≤2000000,txR a,txR b,DbG db],zuc (zsd a b db),zud (zsd a b db))
 |_=>none
theorem z1jy:FnOK 6 zne:=by
 intro args ob rs os h hob;unfold zne at h;split at h
 ·simp only[y6,y8,yl]at h;obtain⟨a,e0,b,e1,db,e2,rfl,rfl,rfl⟩:=h;obtain rfl:=zr e0;obtain rfl:=zr e1;obtain rfl:=zx e2;exact⟨z2c (M:=zy6) rfl (z4p (l1:=[(11,zze),(25,zek),(31,zpi),(12,zzy),(14,zq6),(27,z1bi),(23,z148),(13,z146)]) (l2:=[]) (l3:=[]) (l4:=[]) (l5:=[]) ⟨z22v,zm2,z18i,z25p,z1bd,z2d5,z28q,z28n,trivial⟩ trivial trivial trivial trivial) Tryz.func6 (by kernel_rfl) z26d 0 [.d] (fun hwf=>(z1bj a b db (z46 hwf (a:=.d (.agg (enc Ty.rel a))) (yd (i:=0) rfl)) (z46 hwf (a:=.d (.agg (enc Ty.rel b))) (yd (i:=1) rfl)) (z46 hwf (a:=.d (.v (.dat (U:=Un) Ty.data db))) (yd (i:=2) rfl)) (hob _ (yd (i:=0) rfl)) (hob _ (yd (i:=1) rfl)) (hob _ (yd (i:=2) rfl)) (hob _ (yd (i:=3) rfl)) (hob _ (yd (i:=4) rfl)) (hob _ (yd (i:=5) rfl)))),zk Tryz.func6 (by kernel_rfl) (by kernel_rfl)⟩
 ·simp at h
end
end B
end Go.Proofs.YtjfpbchdcbhfgaaGreat
