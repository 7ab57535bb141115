/- Part 19 of the proof: Slaw20a Slaw20o Lnset Sr20a Lnthird Lnjoin Lnaw Slaw20f Ljoi. -/
import Derived.Test.YtjfpbchdcbhfgaaGreatNjo18
set_option linter.unusedVariables false
set_option linter.unusedSimpArgs false
namespace Go.Proofs.YtjfpbchdcbhfgaaGreat
namespace B
open Go Go.RowKit
set_option maxRecDepth 100000
noncomputable section
attribute [local irreducible] awp ctxK zw z1a retQ z1m awf ctxF z1l
def z1i6:Mc Un:=mcF_ [(32,zer),(14,zqz)] [] [] [] []
def zx5:Option (RF Un):=fnF_ z1i6 z28d Tryz.f12 0 [.d] []
theorem z27i:zx5=obO (okRl {env:=[],db:=[{table:=(ByteArray.mk #[116]),rows:=[[(zh (1:Int))],[(zh (2:Int))],[z7]]}]} (Rel.mk (3:Int) (ByteArray.mk #[]) [{table:=(ByteArray.mk #[]),name:=(ByteArray.mk #[97]),type:=(2:Int)}] [(Rel.mk (1:Int) (ByteArray.mk #[116]) [{table:=(ByteArray.mk #[]),name:=(ByteArray.mk #[97]),type:=(2:Int)}] [] [] [] [] (0:Int) (0:Int) false [])] [(Term.mk (13:Int) z7 (0:Int) (0:Int) (ByteArray.mk #[]) [(Term.mk (2:Int) z7 (0:Int) (0:Int) (ByteArray.mk #[]) [] [] (2:Int)),(Term.mk (1:Int) (zh (2:Int)) (0:Int) (0:Int) (ByteArray.mk #[]) [] [] (2:Int))] [] (1:Int))] [] [] (0:Int) (0:Int) false [])) (cndO ((↑(z1r (Rel.mk (3:Int) (ByteArray.mk #[]) [{table:=(ByteArray.mk #[]),name:=(ByteArray.mk #[97]),type:=(2:Int)}] [(Rel.mk (1:Int) (ByteArray.mk #[116]) [{table:=(ByteArray.mk #[]),name:=(ByteArray.mk #[97]),type:=(2:Int)}] [] [] [] [] (0:Int) (0:Int) false [])] [(Term.mk (13:Int) z7 (0:Int) (0:Int) (ByteArray.mk #[]) [(Term.mk (2:Int) z7 (0:Int) (0:Int) (ByteArray.mk #[]) [] [] (2:Int)),(Term.mk (1:Int) (zh (2:Int)) (0:Int) (0:Int) (ByteArray.mk #[]) [] [] (2:Int))] [] (1:Int))] [] [] (0:Int) (0:Int) false []) [{table:=(ByteArray.mk #[116]),rows:=[[(zh (1:Int))],[(zh (2:Int))],[z7]]}]).length:Int)==(1:Int)) (obO ((0:Int)≤(0:Int)∧(0:Int)<(↑(z1r (Rel.mk (3:Int) (ByteArray.mk #[]) [{table:=(ByteArray.mk #[]),name:=(ByteArray.mk #[97]),type:=(2:Int)}] [(Rel.mk (1:Int) (ByteArray.mk #[116]) [{table:=(ByteArray.mk #[]),name:=(ByteArray.mk #[97]),type:=(2:Int)}] [] [] [] [] (0:Int) (0:Int) false [])] [(Term.mk (13:Int) z7 (0:Int) (0:Int) (ByteArray.mk #[]) [(Term.mk (2:Int) z7 (0:Int) (0:Int) (ByteArray.mk #[]) [] [] (2:Int)),(Term.mk (1:Int) (zh (2:Int)) (0:Int) (0:Int) (ByteArray.mk #[]) [] [] (2:Int))] [] (1:Int))] [] [] (0:Int) (0:Int) false []) [{table:=(ByteArray.mk #[116]),rows:=[[(zh (1:Int))],[(zh (2:Int))],[z7]]}]).length:Int)) (cndO ((↑(List.length ((z1r (Rel.mk (3:Int) (ByteArray.mk #[]) [{table:=(ByteArray.mk #[]),name:=(ByteArray.mk #[97]),type:=(2:Int)}] [(Rel.mk (1:Int) (ByteArray.mk #[116]) [{table:=(ByteArray.mk #[]),name:=(ByteArray.mk #[97]),type:=(2:Int)}] [] [] [] [] (0:Int) (0:Int) false [])] [(Term.mk (13:Int) z7 (0:Int) (0:Int) (ByteArray.mk #[]) [(Term.mk (2:Int) z7 (0:Int) (0:Int) (ByteArray.mk #[]) [] [] (2:Int)),(Term.mk (1:Int) (zh (2:Int)) (0:Int) (0:Int) (ByteArray.mk #[]) [] [] (2:Int))] [] (1:Int))] [] [] (0:Int) (0:Int) false []) [{table:=(ByteArray.mk #[116]),rows:=[[(zh (1:Int))],[(zh (2:Int))],[z7]]}]).getD 0 [])):Int)==(1:Int)) (obO ((0:Int)≤(0:Int)∧(0:Int)<(↑(z1r (Rel.mk (3:Int) (ByteArray.mk #[]) [{table:=(ByteArray.mk #[]),name:=(ByteArray.mk #[97]),type:=(2:Int)}] [(Rel.mk (1:Int) (ByteArray.mk #[116]) [{table:=(ByteArray.mk #[]),name:=(ByteArray.mk #[97]),type:=(2:Int)}] [] [] [] [] (0:Int) (0:Int) false [])] [(Term.mk (13:Int) z7 (0:Int) (0:Int) (ByteArray.mk #[]) [(Term.mk (2:Int) z7 (0:Int) (0:Int) (ByteArray.mk #[]) [] [] (2:Int)),(Term.mk (1:Int) (zh (2:Int)) (0:Int) (0:Int) (ByteArray.mk #[]) [] [] (2:Int))] [] (1:Int))] [] [] (0:Int) (0:Int) false []) [{table:=(ByteArray.mk #[116]),rows:=[[(zh (1:Int))],[(zh (2:Int))],[z7]]}]).length:Int)) (obO ((0:Int)≤(0:Int)∧(0:Int)<(↑(List.length ((z1r (Rel.mk (3:Int) (ByteArray.mk #[]) [{table:=(ByteArray.mk #[]),name:=(ByteArray.mk #[97]),type:=(2:Int)}] [(Rel.mk (1:Int) (ByteArray.mk #[116]) [{table:=(ByteArray.mk #[]),name:=(ByteArray.mk #[97]),type:=(2:Int)}] [] [] [] [] (0:Int) (0:Int) false [])] [(Term.mk (13:Int) z7 (0:Int) (0:Int) (ByteArray.mk #[]) [(Term.mk (2:Int) z7 (0:Int) (0:Int) (ByteArray.mk #[]) [] [] (2:Int)),(Term.mk (1:Int) (zh (2:Int)) (0:Int) (0:Int) (ByteArray.mk #[]) [] [] (2:Int))] [] (1:Int))] [] [] (0:Int) (0:Int) false []) [{table:=(ByteArray.mk #[116]),rows:=[[(zh (1:Int))],[(zh (2:Int))],[z7]]}]).getD 0 [])):Int)) (some (z9b (andB [EK.int IntKind.i64,EK.str] ((List.getD ((z1r (Rel.mk (3:Int) (ByteArray.mk #[]) [{table:=(ByteArray.mk #[]),name:=(ByteArray.mk #[97]),type:=(2:Int)}] [(Rel.mk (1:Int) (ByteArray.mk #[116]) [{table:=(ByteArray.mk #[]),name:=(ByteArray.mk #[97]),type:=(2:Int)}] [] [] [] [] (0:Int) (0:Int) false [])] [(Term.mk (13:Int) z7 (0:Int) (0:Int) (ByteArray.mk #[]) [(Term.mk (2:Int) z7 (0:Int) (0:Int) (ByteArray.mk #[]) [] [] (2:Int)),(Term.mk (1:Int) (zh (2:Int)) (0:Int) (0:Int) (ByteArray.mk #[]) [] [] (2:Int))] [] (1:Int))] [] [] (0:Int) (0:Int) false []) [{table:=(ByteArray.mk #[116]),rows:=[[(zh (1:Int))],[(zh (2:Int))],[z7]]}]).getD 0 []) 0 z7).kind ==(zh (1:Int)).kind) (andB [EK.str] ((List.getD ((z1r (Rel.mk (3:Int) (ByteArray.mk #[]) [{table:=(ByteArray.mk #[]),name:=(ByteArray.mk #[97]),type:=(2:Int)}] [(Rel.mk (1:Int) (ByteArray.mk #[116]) [{table:=(ByteArray.mk #[]),name:=(ByteArray.mk #[97]),type:=(2:Int)}] [] [] [] [] (0:Int) (0:Int) false [])] [(Term.mk (13:Int) z7 (0:Int) (0:Int) (ByteArray.mk #[]) [(Term.mk (2:Int) z7 (0:Int) (0:Int) (ByteArray.mk #[]) [] [] (2:Int)),(Term.mk (1:Int) (zh (2:Int)) (0:Int) (0:Int) (ByteArray.mk #[]) [] [] (2:Int))] [] (1:Int))] [] [] (0:Int) (0:Int) false []) [{table:=(ByteArray.mk #[116]),rows:=[[(zh (1:Int))],[(zh (2:Int))],[z7]]}]).getD 0 []) 0 z7).n ==(zh (1:Int)).n) (andB [] ((List.getD ((z1r (Rel.mk (3:Int) (ByteArray.mk #[]) [{table:=(ByteArray.mk #[]),name:=(ByteArray.mk #[97]),type:=(2:Int)}] [(Rel.mk (1:Int) (ByteArray.mk #[116]) [{table:=(ByteArray.mk #[]),name:=(ByteArray.mk #[97]),type:=(2:Int)}] [] [] [] [] (0:Int) (0:Int) false [])] [(Term.mk (13:Int) z7 (0:Int) (0:Int) (ByteArray.mk #[]) [(Term.mk (2:Int) z7 (0:Int) (0:Int) (ByteArray.mk #[]) [] [] (2:Int)),(Term.mk (1:Int) (zh (2:Int)) (0:Int) (0:Int) (ByteArray.mk #[]) [] [] (2:Int))] [] (1:Int))] [] [] (0:Int) (0:Int) false []) [{table:=(ByteArray.mk #[116]),rows:=[[(zh (1:Int))],[(zh (2:Int))],[z7]]}]).getD 0 []) 0 z7).s.toList ==(zh (1:Int)).s.toList) true))))))) (some (z9b (false))))) (some (z9b (false)))):=by kernel_rfl
def colA:Term:=.mk 2 z7 0 0 ⟨#[]⟩ [] [] 2
def cA:Term:=.mk 1 (zh 2) 0 0 ⟨#[]⟩ [] [] 2
def lessA:Term:=.mk 13 z7 0 0 ⟨#[]⟩ [colA,cA] [] 1
def tabA:Rel:=.mk 1 ⟨#[116]⟩ [⟨⟨#[]⟩,⟨#[97]⟩,2⟩] [] [] [] [] 0 0 false []
def relA:Rel:=.mk 3 ⟨#[]⟩ [⟨⟨#[]⟩,⟨#[97]⟩,2⟩] [tabA] [lessA] [] [] 0 0 false []
def dbA:List Data:=[⟨⟨#[116]⟩,[[zh 1],[zh 2],[z7]]⟩]
theorem z2ob{x:Val}(h:z16 x):nT colA (zi ⟨[],dbA⟩ [x])=some x:=by
 rw[z1rc,if_pos (.inr rfl),zko ⟨by decide,(z1uq colA).2 ⟨yb _,trivial⟩,fun r hr v hv=>by
  rw[yi.1 hr]at hv
  grind⟩]
 rfl
theorem z2q3{x:Val}(h:z16 x):nT cA (zi ⟨[],dbA⟩ [x])=some (zh 2):=by
 rw[z1rc,if_pos (.inl rfl),zko ⟨by decide,(z1uq cA).2 ⟨yb _,trivial⟩,fun r hr v hv=>by
  rw[yi.1 hr]at hv
  grind⟩]
 rfl
theorem z1ld{x:Val}(h:z16 x):nT lessA (zi ⟨[],dbA⟩ [x])=some (z1y 13 ⟨#[]⟩ [x,zh 2]):=by
 have hk:nTs lessA.kids (zi ⟨[],dbA⟩ [x])=some [x,zh 2]:=by
  show nTs [colA,cA] _=_;simp only[nTs,z2ob h,z2q3 h,yh]
 rw[z1rc,if_neg (by decide),if_neg (by decide),if_neg (by decide),if_neg (by decide),if_pos (by decide),hk,yh,zko ⟨by simp,fun y hy=>by
  rcases yg.1 hy with rfl|hy
  ·exact h
  ·rw[yi.1 hy];exact yb _⟩]
 rfl
theorem z2oc:z1y 13 ⟨#[]⟩ [zh 1,zh 2]=z2z true:=by rfl
theorem z2od:z1y 13 ⟨#[]⟩ [zh 2,zh 2]=z2z false:=by rfl
theorem z2oe:z1y 13 ⟨#[]⟩ [z7,zh 2]=z7:=by rfl
theorem soA1:nSo [lessA] (zi ⟨[],dbA⟩ [zh 1])=some true:=by
 simp only[nSo,z1ld (zyi 1),z2oc,yh];rfl
theorem soA2:nSo [lessA] (zi ⟨[],dbA⟩ [zh 2])=some false:=by
 simp only[nSo,z1ld (zyi 2),z2od,yh];rfl
theorem soA3:nSo [lessA] (zi ⟨[],dbA⟩ [z7])=some false:=by
 simp only[nSo,z1ld z3j,z2oe,yh];rfl
theorem z2of:nR tabA ⟨[],dbA⟩=some [[zh 1],[zh 2],[z7]]:=by
 rw[z156,if_pos (show tabA.op=1 from rfl),zko ⟨by decide,fun d hd=>by rw[yi.1 hd];simp⟩];have e:z6i ⟨[],dbA⟩ tabA.table=[[zh 1],[zh 2],[z7]]:=by
  simp[z6i,dbA,tabA,Rel.table_mk]
 rw[e];rfl
theorem z2bt:nR relA ⟨[],dbA⟩=some [[zh 1]]:=by
 have hk:nKid relA.kids 0 ⟨[],dbA⟩=some [[zh 1],[zh 2],[z7]]:=by
  exact z2of
 show((nKid relA.kids 0 ⟨[],dbA⟩).bind fun l=>zau (fun x=>nSo [lessA] (zi ⟨[],dbA⟩ x)) l).bind capQ=_;rw[hk,yh];simp only[zau,soA1,soA2,soA3,yh];rfl
def z5e:Bool:=true
theorem z1w0:zx5=some (z9b z5e):=by
 have h:z1r relA dbA=[[zh 1]]:=z4y z2bt;have e:=z27i;rw[show zx5=_ from e,z6 ⟨_,z2bt⟩];simp only[z8];have h2:z1r (Rel.mk (3:Int) (ByteArray.mk #[]) [{table:=(ByteArray.mk #[]),name:=(ByteArray.mk #[97]),type:=(2:Int)}] [(Rel.mk (1:Int) (ByteArray.mk #[116]) [{table:=(ByteArray.mk #[]),name:=(ByteArray.mk #[97]),type:=(2:Int)}] [] [] [] [] (0:Int) (0:Int) false [])] [(Term.mk (13:Int) z7 (0:Int) (0:Int) (ByteArray.mk #[]) [(Term.mk (2:Int) z7 (0:Int) (0:Int) (ByteArray.mk #[]) [] [] (2:Int)),(Term.mk (1:Int) (zh (2:Int)) (0:Int) (0:Int) (ByteArray.mk #[]) [] [] (2:Int))] [] (1:Int))] [] [] (0:Int) (0:Int) false []) [{table:=(ByteArray.mk #[116]),rows:=[[(zh (1:Int))],[(zh (2:Int))],[z7]]}]=[[zh 1]]:=h;simp_all[obO,andB,z5e]
def z10r:FnC Un:=fnF0 ([],z9b (z5e))
theorem z27j:FnOK 12 z10r:=fnK0 (M:=z1i6) rfl ⟨zfs,z1cq,trivial⟩ trivial trivial trivial trivial Tryz.func12 (GiF.r fun _ _=>z1w0)
theorem z1w1:z5e=true:=rfl
end
end B
namespace B
open Go Go.RowKit
set_option maxRecDepth 100000
noncomputable section
attribute [local irreducible] awp ctxK zw z1a retQ z1m awf ctxF z1l
def z15f(r:Rel):RF Un:=([.agg (encC Ty.rel r)],[])
def z1i7(op:Int)(kid:Rel)(t:List Term):Option (RF Un):=fnF_ z1f6 z28d Tryz.f23 0 [.d] [.d (.v (.s (.int .i64 op))),.d (.agg (enc Ty.rel kid)),.d (.v (.dat (U:=Un) Ty.term t))]
theorem z2aq(op:Int)(kid:Rel)(t:List Term):z1i7 op kid t=some (z15f (Rel.mk op (ByteArray.mk #[]) kid.cols [(Rel.ids kid)] t [] [] (0:Int) (0:Int) false [])):=by kernel_rfl
def zeb(op:Int)(kid:Rel)(t:List Term):Rel:=.mk op ⟨#[]⟩ kid.cols [kid] t [] [] 0 0 false []
theorem z21l(op:Int)(kid:Rel)(t:List Term)(_ho:WI op)(_hk:WS .rel kid)(_ht:WL .term t):z1i7 op kid t=some (z15f (zeb op kid t)):=by
 rw[z2aq,Rel.ids_eq];rfl
def z15g:FnC Un:=fnF3 (dI .i64) (dS .rel) (dL .term) fun op kid t=>([],z15f (zeb op kid t))
theorem z2ar:FnOK 23 z15g:=fnK3 z17 zt zr (M:=z1f6) rfl trivial trivial trivial trivial trivial Tryz.func23 fun op kid t=>GiF.r fun w _=>z21l op kid t (wfA_ w 0) (wfA_ w 1) (wfA_ w 2)
end
end B
namespace B
open Go Go.RowKit
open Classical in
theorem z2f6(l:Rows)(x:List Val):(0≤zg l x↔x∈l)∧(x∈l→l.Perm (x::l.eraseIdx (zg l x).toNat)):=by
 unfold zg;have hp:∀y,plc1 y x=true↔y=x:=fun y=>by
  show(ordR y x==0)=true↔y=x;rw[beq_iff_eq,ordR_zero]
 cases h:l.findIdx? (fun y=>plc1 y x)with
 |none=>
  grind
 |some i=>
  obtain⟨hi,h1,_⟩:=y2b.1 h;grind[List.getElem_mem,Int.toNat_natCast,List.take_append_drop,List.drop_eq_getElem_cons,List.eraseIdx_eq_take_drop_succ,List.perm_middle]
theorem z1yz:∀(a b:Rows),(setL true a b++setL false a b).Perm a
 |[],_=>List.Perm.refl _
 |y::l,b=>by
  simp only[setL];have ih:=z1yz l (if 0≤zg b y then b.eraseIdx (zg b y).toNat else b);by_cases c:0≤zg b y
  ·simp_all
  ·simp only[c,decide_false,if_false,reduceCtorEq,if_true,yw]at ih ⊢;exact(y3y (a:=y)).trans (ih.cons y)
open Classical in
theorem z15h(x:List Val):∀(a b:Rows),(setL true a b).count x=min (a.count x) (b.count x)
 |[],b=>by rfl
 |y::l,b=>by
  simp only[setL];obtain⟨h1,h2⟩:=z2f6 b y;by_cases c:0≤zg b y
  ·have hp:=(h2 (h1.1 c)).count_eq x;simp only[c,decide_true,if_true,List.singleton_append];rw[y40,y40,z15h x l,hp,y40];simp
  ·simp;rw[z15h x l,y40];grind
end B
namespace B
open Go Go.RowKit
set_option maxRecDepth 100000
noncomputable section
attribute [local irreducible] awp ctxK zw z1a retQ z1m awf ctxF z1l
def z10s:Nat→NS:=nsF_ [(2,{ts:=bl 20 51,bs:=bl 20 0,nm:=[],cs:=true})] true
def zdk(l:List (List Val))(r:List Val)(v0:Int):S Un:=(st 20 20 80 0 [(0,al .row l),(1,al .val r),(4,ai (0:Int)),(5,ai v0)] [] [])
def zkq(l:List (List Val))(r:List Val)(v0:Int)(v1:Int):S Un:=(st 20 20 80 0 [(0,al .row l),(1,al .val r),(4,ai v1),(5,ai v0)] [] [])
def zo2:S Un→Option (EX Un):=lpF_ zum z10s Tryz.f102 [1,0,1,2,2] 2
def zo3:Exit→S Un→Option (RF Un):=cxF_ zum z10s Tryz.f102 [1,0,1,2] [.d]
def z1cr(l:List (List Val))(r:List Val):Option (RF Un):=fnF_ zum z10s Tryz.f102 0 [.d] [.d (.v (.dat (U:=Un) Ty.row l)),.d (.v (.dat (U:=Un) Ty.val r))]
theorem z27k(l:List (List Val))(r:List Val):z1cr l r=(zo2 (zdk l r (0:Int))).bind (zd zo3):=by kernel_rfl
theorem z1cs(l:List (List Val))(r:List Val)(v0:Int):zo2 (zdk l r v0)=cndO (decide (v0<(↑l.length:Int))) (obO (0≤v0∧v0<(↑l.length:Int)) (cndO (zbh (l.getD v0.toNat []) r==0) (some (.ret,(zkq l r v0 v0))) (zo2 (zdk l r (IntKind.i64.wrap (v0+1)))))) (some (.exit 0,(zdk l r v0))):=lpQ_ (by kernel_rfl)
theorem z1le(l:List (List Val))(r:List Val)(v0:Int)(v1:Int):zo3 .ret (zkq l r v0 v1)=some (z2c (v1)):=by kernel_rfl
theorem z1s5(l:List (List Val))(r:List Val)(v0:Int):zo3 (.exit 0) (zdk l r v0)=some (z2c ((-1:Int))):=by kernel_rfl
theorem z1dt{α:Type}{b:Bool}{X Y Z:Option α}(hb:b=true)(h:X=Z):cndO b X Y=Z:=by subst hb;exact h
theorem z1s6{α:Type}{b:Bool}{X Y Z:Option α}(hb:b=false)(h:Y=Z):cndO b X Y=Z:=by subst hb;exact h
theorem z2jc{α β:Type}{L:S Un→Option (EX Un)}{st er:Int→S Un}{C:Exit→S Un→Option β}(R:Int→Option β){l:List α}{d:α}{e:Exit}(p:α→Bool)(hl:l.length≤9223372036854775807)
  (step:∀(i:Nat)(x:α),(i:Int)<(l.length:Int)→l.getD i d=x→L (st i)=if p x=true then some (.ret,er i)else L (st (IntKind.i64.wrap ((i:Int)+1))))
  (stop:L (st (l.length:Int))=some (e,st (l.length:Int)))(r1:∀i:Nat,C .ret (er (i:Int))=R i)(r2:C e (st (l.length:Int))=R (-1)):(L (st 0)).bind (zd C)=R (match l.findIdx? p with|some i=>(i:Int)|none=>-1):=by
 have key:∀(k i:Nat),i+k=l.length→(L (st i)).bind (zd C)=R (match(l.drop i).findIdx? p with|some j=>((i+j:Nat):Int)|none=>-1):=by
  intro k
  induction k with
  |zero=>
   intro i hi;obtain rfl:i=l.length:=by omega
   rw[stop,y3c];exact r2
  |succ k ih=>
   intro i hi;have hlt:i<l.length:=by omega
   rw[step i l[i] (by omega) (by rw[yd,ya hlt];rfl),y1l hlt,y2n];cases hq:p l[i]
   ·rw[if_neg (by decide),if_neg (by decide),z1f (by omega)];refine(ih (i+1) (by omega)).trans ?_;cases(l.drop (i+1)).findIdx? p with
    |none=>rfl
    |some j=>show R ((i+1+j:Nat):Int)=R ((i+(j+1):Nat):Int);rw[show i+1+j=i+(j+1) by omega]
   ·rw[if_pos rfl,if_pos rfl];exact r1 i
 have:=key l.length 0 (by omega);simpa using this
def zbx(l:List (List Val))(r:List Val):Int:=zg l r
theorem z1w2(l:List (List Val))(r:List Val)(hl:WL .row l)(_hr:WL .val r):z1cr l r=some (z2c (zbx l r)):=by
 rw[z27k]
 exact z2jc (L:=zo2) (st:=fun i=>zdk l r i) (er:=fun i=>zkq l r i i) (C:=zo3) (e:=.exit 0) (fun i=>some (z2c i)) (l:=l) (d:=[]) (fun x=>plc1 x r) hl.len
  (fun i x hi hx=>by
   rw[z1cs];simp only[z8,hi,decide_true,if_true,and_true,y5,hx]
   rw[z6 (by omega)];rfl)
  (by rw[z1cs];simp[z8]) (fun i=>z1le _ _ _ _) (z1s5 _ _ _)
def z10t:FnC Un:=fnF2 (dL .row) (dL .val) fun l r=>([],z2c (zbx l r))
theorem z1ct:FnOK 102 z10t:=fnK2 zr zr (M:=zum) rfl ⟨z15r,trivial⟩ trivial trivial trivial trivial Tryz.func102 fun l r=>GiF.r fun w _=>z1w2 l r (wfA_ w 0) (wfA_ w 1)
def zhw:Mc Un:=mcF_ [(102,z10t)] [] [] [] []
def zp7:Nat→NS:=nsF_ [(3,{ts:=bl 27 25,bs:=bl 27 0,nm:=[(.sl 3,108)],cs:=true})] true
def z6z(l:List (List Val))(v0:Int)(v1:List (List Val)):S Un:=(st 27 27 109 0 [(0,al .row l),(3,ao 108),(4,ai v0)] [] [(108,some ⟨(0:Nat),Ty.row,v1,some (0:Nat),true⟩)])
def zby:S Un→Option (EX Un):=lpF_ zhw zp7 Tryz.f53 [1,1,0,1,2,2] 3
def zz2:Exit→S Un→Option (RF Un):=cxF_ zhw zp7 Tryz.f53 [1,1,0,1,2] [.d]
def zz3(l:List (List Val)):Option (RF Un):=fnF_ zhw zp7 Tryz.f53 1 [.d] [.d (.v (.dat (U:=Un) Ty.row l))]
theorem z1s7(l:List (List Val)):zz3 l=(zby (z6z l (0:Int) ([]))).bind (zd zz2):=by kernel_rfl
theorem zz4(l:List (List Val))(v0:Int)(v1:List (List Val)):zby (z6z l v0 v1)=cndO (decide (v0<(↑l.length:Int))) (obO (0≤v0∧v0<(↑l.length:Int)) (cndO (decide (zbx v1 (l.getD v0.toNat [])<0)) (obO (0≤v0∧v0<(↑l.length:Int)) (obO ((v1.length+[l.getD v0.toNat []].length)*(24:Nat)≤ze) (zby (z6z l (IntKind.i64.wrap (v0+1)) (v1++[l.getD v0.toNat []]))))) (zby (z6z l (IntKind.i64.wrap (v0+1)) v1)))) (some (.exit 0,(z6z l v0 v1))):=lpQ_ (by kernel_rfl)
theorem z1cu(l:List (List Val))(v0:Int)(v1:List (List Val)):zz2 (.exit 0) (z6z l v0 v1)=some (z10n (v1)):=by kernel_rfl
def z8e(l:List (List Val)):List (List Val):=z1q l
theorem z1eu(l:List (List Val))(hl:WL .row l)(h:l.length≤100000000):zz3 l=some (z10n (z8e l)):=by
 obtain⟨lp,_⟩:=z1j (e:=.exit 0) (L:=zby) (st:=fun(o:List (List Val)) i=>z6z l i o) (l:=l) (d:=[]) (g:=fun o x=>if zg o x<0 then o++[x]else o) (fun i o=>o.length≤i) hl.len
  (fun o i x hi hx hI=>by
   refine⟨by split<;>(try rw[y9,yf])<;>omega,?_⟩;rw[zz4];simp only[z8,hi,decide_true,if_true,and_true,y5,hx];rw[z6 (by omega),z6 (by omega),z6 (by unfold ze;rw[yf];omega)];simp only[decide_eq_true_eq];show(if zg o x<0 then _ else _)=_
   split<;>rfl)
  (fun o _=>by rw[zz4];simp[z8]) [] (y6 _)
 rw[z1s7];refine(zj lp).trans ?_;rw[z1cu];rfl
def z137:FnC Un:=fnF1 (dL .row) fun l=>([l.length≤100000000],z10n (z8e l))
theorem z1s8:FnOK 53 z137:=fnK1 zr (M:=zhw) rfl ⟨z1ct,trivial⟩ trivial trivial trivial trivial Tryz.func53 fun l=>GiF.r fun w o=>z1eu l (wfA_ w 0) (obA_ o 0)
def z138(l:List (List Val))(k:Int):Option (RF Un):=fnF_ z1f6 z28d Tryz.f150 0 [.m] [.d (.v (.dat (U:=Un) Ty.row l)),.d (.v (.s (.int .i64 k)))]
theorem z1w3(l:List (List Val))(k:Int):z138 l k=obO (0≤k∧k≤(↑l.length:Int)) (obO ((0+(List.take k.toNat l).length)*(24:Nat)≤ze) (obO (0≤IntKind.i64.wrap (k+1)∧IntKind.i64.wrap (k+1)≤(↑l.length:Int)) (obO (((List.take k.toNat l).length+(List.drop (IntKind.i64.wrap (k+1)).toNat l).length)*(24:Nat)≤ze) (some (zwq (List.take k.toNat l++List.drop (IntKind.i64.wrap (k+1)).toNat l)))))):=by kernel_rfl
def zr2(l:List (List Val))(k:Int):List (List Val):=l.eraseIdx k.toNat
theorem z1lf(l:List (List Val))(k:Int)(_hl:WL .row l)(_hk:WI k)(h:l.length≤100000000)(h2:0≤k∧k<l.length):z138 l k=some (zwq (zr2 l k)):=by
 have e:(IntKind.i64.wrap (k+1)).toNat=k.toNat+1:=by rw[z1f (by omega)];omega
 rw[z1w3,z6 (by omega),z6 (by unfold ze;rw[yq];omega),z6 (by rw[z1f (by omega)];omega),z6 (by unfold ze;rw[yq,yr];omega),e];unfold zr2;rw[y4m]
def z17s:FnC Un:=fnF2 (dL .row) (dI .i64) fun l k=>([l.length≤100000000,0≤k∧k<l.length],zwq (zr2 l k))
theorem z1w4:FnOK 150 z17s:=fnK2 zr z17 (M:=z1f6) rfl trivial trivial trivial trivial trivial Tryz.func150 fun l k=>GiF.r fun w o=>z1lf l k (wfA_ w 0) (wfA_ w 1) (obA_ o 0) (obA_ o 1)
def zr3:Mc Un:=mcF_ [(102,z10t),(150,z17s)] [] [] [] []
def z10u(r:List (List Val)×List (List Val)):RF Un:=([.c (.sl (U:=Un) Ty.row r.1 false),.c (.sl (U:=Un) Ty.row r.2 false)],[])
def z10v:Nat→NS:=nsF_ [(4,{ts:=bl 49 961,bs:=bl 49 0,nm:=[(.sl 6,196),(.sl 7,197),(.sl 8,198)],cs:=true})] true
def zap(a:List (List Val))(v0:Int)(v1:List (List Val))(v2:List (List Val))(v3:List (List Val)):S Un:=(st 49 49 199 0 [(0,al .row a),(6,ao 196),(7,ao 197),(8,ao 198),(9,ai v0)] [] [(196,some ⟨(0:Nat),Ty.row,v2,some (0:Nat),true⟩),(197,some ⟨(0:Nat),Ty.row,v3,some (0:Nat),true⟩),(198,some ⟨(0:Nat),Ty.row,v1,some (0:Nat),true⟩)])
def zgu:S Un→Option (EX Un):=lpF_ zr3 z10v Tryz.f98 [1,1,1,0,1,2,2] 4
def z1cv:Exit→S Un→Option (RF Un):=cxF_ zr3 z10v Tryz.f98 [1,1,1,0,1,2] [.d,.d]
def z1cw(a:List (List Val))(b:List (List Val)):Option (RF Un):=fnF_ zr3 z10v Tryz.f98 3 [.d,.d] [.d (.v (.dat (U:=Un) Ty.row a)),.d (.v (.dat (U:=Un) Ty.row b))]
theorem z27l(a:List (List Val))(b:List (List Val)):z1cw a b=obO ((0+b.length)*(24:Nat)≤ze) ((zgu (zap a (0:Int) ([]) b ([]))).bind (zd z1cv)):=by kernel_rfl
theorem z1cx(a:List (List Val))(v0:Int)(v1:List (List Val))(v2:List (List Val))(v3:List (List Val)):zgu (zap a v0 v1 v2 v3)=cndO (decide (v0<(↑a.length:Int))) (obO (0≤v0∧v0<(↑a.length:Int)) (cndO (decide (zbx v2 (a.getD v0.toNat [])<0)) (obO (0≤v0∧v0<(↑a.length:Int)) (obO ((v1.length+[a.getD v0.toNat []].length)*(24:Nat)≤ze) (zgu (zap a (IntKind.i64.wrap (v0+1)) (v1++[a.getD v0.toNat []]) v2 v3)))) (obO (0≤v0∧v0<(↑a.length:Int)) (obO ((v3.length+[a.getD v0.toNat []].length)*(24:Nat)≤ze) (obO (v2.length≤(100000000:Nat)) (obO (0≤zbx v2 (a.getD v0.toNat [])∧zbx v2 (a.getD v0.toNat [])<(↑v2.length:Int)) (zgu (zap a (IntKind.i64.wrap (v0+1)) v1 (zr2 v2 (zbx v2 (a.getD v0.toNat []))) (v3++[a.getD v0.toNat []]))))))))) (some (.exit 0,(zap a v0 v1 v2 v3))):=lpQ_ (by kernel_rfl)
theorem z1s9(a:List (List Val))(v0:Int)(v1:List (List Val))(v2:List (List Val))(v3:List (List Val)):z1cv (.exit 0) (zap a v0 v1 v2 v3)=some (z10u (v3,v1)):=by kernel_rfl
def zun(p:List (List Val)×List (List Val)×List (List Val))(x:List Val):List (List Val)×List (List Val)×List (List Val):=
 if zg p.2.1 x<0 then(p.1++[x],p.2.1,p.2.2)else(p.1,p.2.1.eraseIdx (zg p.2.1 x).toNat,p.2.2++[x])
theorem z1lg:∀(a o left i:List (List Val)),(a.foldl zun (o,left,i)).1=o++setL false a left∧(a.foldl zun (o,left,i)).2.2=i++setL true a left
 |[],o,left,i=>by simp[setL]
 |x::a,o,left,i=>by
  by_cases c:0≤zg left x
  ·have e:zun (o,left,i) x=(o,left.eraseIdx (zg left x).toNat,i++[x]):=by unfold zun;exact if_neg (by dsimp only;omega)
   obtain⟨h1,h2⟩:=z1lg a o (left.eraseIdx (zg left x).toNat) (i++[x]);rw[yx,e,h1,h2];simp only[setL,c,decide_true,if_true,reduceCtorEq,if_false,yw,y11,and_self]
  ·have e:zun (o,left,i) x=(o++[x],left,i):=by unfold zun;exact if_pos (by dsimp only;omega)
   obtain⟨h1,h2⟩:=z1lg a (o++[x]) left i;rw[yx,e,h1,h2];simp only[setL,c,decide_false,if_true,reduceCtorEq,if_false,yw,y11,and_self]
def zdt(a b:List (List Val)):List (List Val)×List (List Val):=(setL true a b,setL false a b)
theorem z2m4(l:List (List Val))(x:List Val):zg l x<l.length:=by
 unfold zg;cases h:l.findIdx? (fun y=>plc1 y x)with
 |none=>dsimp only;omega
 |some i=>have:=(y2b.1 h).1;dsimp only;omega
theorem z1w5(a b:List (List Val))(ha:WL .row a)(_hb:WL .row b)(h:a.length≤100000000)(h2:b.length≤100000000):z1cw a b=some (z10u (zdt a b)):=by
 obtain⟨lp,_⟩:=z1j (e:=.exit 0) (L:=zgu) (st:=fun(p:List (List Val)×List (List Val)×List (List Val)) i=>zap a i p.1 p.2.1 p.2.2) (l:=a) (d:=[]) (g:=zun) (fun i p=>p.1.length≤i∧p.2.1.length≤100000000∧p.2.2.length≤i) ha.len
  (fun p i x hi hx hI=>by
   obtain⟨i1,i2,i3⟩:=hI;have hlt:=z2m4 p.2.1 x;have hle:(p.2.1.eraseIdx (zg p.2.1 x).toNat).length≤p.2.1.length:=List.length_eraseIdx_le _ _;refine⟨by unfold zun;split<;>(try simp only[y9,yf])<;>omega,?_⟩;rw[z1cx];simp only[hi,decide_true,and_true,y5,hx];refine z1dt rfl ?_;rw[z6 (by omega)];unfold zun;by_cases c:zg p.2.1 x<0
   ·rw[if_pos c];refine z1dt (decide_eq_true c) ?_;rw[z6 (by omega),z6 (by unfold ze;rw[yf];omega)]
   ·rw[if_neg c];refine z1s6 (decide_eq_false c) ?_
    rw[z6 (by omega),z6 (by unfold ze;rw[yf];omega),z6 i2,z6 (show 0≤zbx p.2.1 x∧zbx p.2.1 x<_ from⟨by show 0≤zg p.2.1 x;omega,hlt⟩)];rfl)
  (fun p _=>by rw[z1cx];simp[z8]) ([],b,[]) ⟨yb _,h2,yb _⟩
 obtain⟨e1,e2⟩:=z1lg a [] b [];rw[z27l,z6 (by unfold ze;omega)];refine(zj lp).trans ?_;rw[z1s9,e1,e2];rfl
def z1i8:FnC Un:=fnF2 (dL .row) (dL .row) fun a b=>([a.length≤100000000,b.length≤100000000],z10u (zdt a b))
theorem z27m:FnOK 98 z1i8:=fnK2 zr zr (M:=zr3) rfl ⟨z1ct,z1w4,trivial⟩ trivial trivial trivial trivial Tryz.func98 fun a b=>GiF.r fun w o=>z1w5 a b (wfA_ w 0) (wfA_ w 1) (obA_ o 0) (obA_ o 1)
def z1z0:Mc Un:=mcF_ [(53,z137),(98,z1i8)] [] [] [] []
def z1sa(op:Int)(all:Bool)(a:List (List Val))(b:List (List Val)):Option (RF Un):=fnF_ z1z0 z28d Tryz.f49 0 [.d] [.d (.v (.s (.int .i64 op))),.d (.v (cb all)),.d (.v (.dat (U:=Un) Ty.row a)),.d (.v (.dat (U:=Un) Ty.row b))]
theorem z2f7(op:Int)(all:Bool)(a:List (List Val))(b:List (List Val)):z1sa op all a b=cndO (op==9) (cndO (all) (obO ((0+a.length)*(24:Nat)≤ze) (obO (((a).length+b.length)*(24:Nat)≤ze) (some (z10n (a++b))))) (obO ((0+a.length)*(24:Nat)≤ze) (obO (((a).length+b.length)*(24:Nat)≤ze) (obO ((a++b).length≤(100000000:Nat)) (some (z10n (z8e (a++b)))))))) (cndO (!all) (obO (a.length≤(100000000:Nat)) (obO ((z8e a).length≤(100000000:Nat)) (obO (b.length≤(100000000:Nat)) (cndO (op==10) (some (z10n ((zdt (z8e a) b).fst))) (some (z10n ((zdt (z8e a) b).snd))))))) (obO (a.length≤(100000000:Nat)) (obO (b.length≤(100000000:Nat)) (cndO (op==10) (some (z10n ((zdt a b).fst))) (some (z10n ((zdt a b).snd))))))):=by kernel_rfl
def z139(op:Int)(all:Bool)(a b:List (List Val)):List (List Val):=setE op all (if op=9 then a++b else a) b
theorem z27n(op:Int)(all:Bool)(a b:List (List Val))(_ho:WI op)(_ha:WL .row a)(_hb:WL .row b)(h:a.length≤10000000)(h2:b.length≤10000000):z1sa op all a b=some (z10n (z139 op all a b)):=by
 have hd:=(zoy a).1;rw[z2f7];unfold z139 setE;by_cases c:op=9
 ·refine z1dt (by rw[c];rfl) ?_;rw[if_pos c,if_pos c];cases all
  ·refine z1s6 rfl ?_;rw[z6 (by unfold ze;omega),z6 (by unfold ze;omega),z6 (by rw[y9];omega)];rfl
  ·refine z1dt rfl ?_;rw[z6 (by unfold ze;omega),z6 (by unfold ze;omega)];rfl
 ·refine z1s6 (beq_eq_false_iff_ne.2 c) ?_;rw[if_neg c,if_neg c];have key:∀a:List (List Val),cndO (op==10) (some (z10n (zdt a b).1)) (some (z10n (zdt a b).2))=some (z10n (setL (decide (op=10)) a b)):=fun a=>by
   by_cases c2:op=10
   ·rw[decide_eq_true c2];exact z1dt (by rw[c2];rfl) rfl
   ·rw[decide_eq_false c2];exact z1s6 (beq_eq_false_iff_ne.2 c2) rfl
  cases all
  ·refine z1dt rfl ?_;rw[z6 (by omega),z6 (show(z8e a).length≤_ by unfold z8e;omega),z6 (by omega)];exact key _
  ·refine z1s6 rfl ?_;rw[z6 (by omega),z6 (by omega)];exact key _
def z1z1:FnC Un:=fnF4 (dI .i64) dB (dL .row) (dL .row) fun op all a b=>([a.length≤10000000,b.length≤10000000],z10n (z139 op all a b))
theorem z2f8:FnOK 49 z1z1:=fnK4 z17 z1d7 zr zr (M:=z1z0) rfl ⟨z1s8,z27m,trivial⟩ trivial trivial trivial trivial Tryz.func49 fun op all a b=>GiF.r fun w o=>z27n op all a b (wfA_ w 0) (wfA_ w 2) (wfA_ w 3) (obA_ o 0) (obA_ o 1)
def z1sb:Mc Un:=mcF_ [(49,z1z1)] [] [] [] []
def z1i9(a:List (List Val))(b:List (List Val)):Option (RF Un):=fnF_ z1sb z28d Tryz.f30 0 [.d,.d] [.d (.v (.dat (U:=Un) Ty.row a)),.d (.v (.dat (U:=Un) Ty.row b))]
theorem z2as(a:List (List Val))(b:List (List Val)):z1i9 a b=obO (a.length≤(10000000:Nat)) (obO (b.length≤(10000000:Nat)) (obO (a.length≤(10000000:Nat)) (obO (b.length≤(10000000:Nat)) (some (z10u (z139 (10:Int) true a b,z139 (11:Int) true a b)))))):=by kernel_rfl
theorem z21n(a b:List (List Val))(_ha:WL .row a)(_hb:WL .row b)(h:a.length≤10000000)(h2:b.length≤10000000):z1i9 a b=some (z10u (zdt a b)):=by
 rw[z2as,z6 h,z6 h2,z6 h,z6 h2];rfl
def z15j:FnC Un:=fnF2 (dL .row) (dL .row) fun a b=>([a.length≤10000000,b.length≤10000000],z10u (zdt a b))
theorem z2at:FnOK 30 z15j:=fnK2 zr zr (M:=z1sb) rfl ⟨z2f8,trivial⟩ trivial trivial trivial trivial Tryz.func30 fun a b=>GiF.r fun w o=>z21n a b (wfA_ w 0) (wfA_ w 1) (obA_ o 0) (obA_ o 1)
end
end B
namespace B
open Go Go.RowKit
theorem z1li{α:Type}{f:α→Option Bool}{g:α→Bool}:∀(l:List α),(∀x∈l,f x=some (g x))→zau f l=some (l.filter g)
 |[],_=>rfl
 |x::l,h=>by
  simp only[zau,h x y10,yh,z1li l fun z hz=>h z (y12 _ hz),List.filter_cons]
theorem z2je(t:Term)(w:Wld){v:Val}(h:nT t w=some v):nSo [t] w=some (z2k v==2):=by
 simp only[nSo,h,yh];grind
theorem z2jf{r:Rel}{w:Wld}{t:Term}{l:Rows}(f:List Val→Val)(hk:nR r w=some l)(he:w.env.length≤100000000)(ht:∀x∈l,nT t (zi w x)=some (f x)):nR (zeb 3 r [t]) w=some (l.filter fun x=>z2k (f x)==2):=by
 have hl:=z2im hk;have e:filO (fun w=>nKid (zeb 3 r [t]).kids 0 w) (fun w=>nSo (zeb 3 r [t]).terms w) w=some (l.filter fun x=>z2k (f x)==2):=by
  unfold filO;dsimp only;rw[if_pos he,z12s,if_pos (by show 0<1;omega)];show(nR r w).bind _=_;rw[hk,yh];exact z1li l fun x hx=>z2je t _ (ht x hx)
 rw[z156,if_neg (by show¬(3:Int)=1;omega),if_neg (by show¬(3:Int)=2;omega),if_pos (by rfl),e,yh];unfold capQ;grind
end B
namespace B
open Go Go.RowKit
def z2p(op:Int)(cols:List Col)(a b:Rel)(ts:List Term):Rel:=.mk op ⟨#[]⟩ cols [a,b] ts [] [] 0 0 false []
def rowR(cols:List Col)(x:List Val):Rel:=.mk 2 ⟨#[]⟩ cols [] [] [] [] 0 0 false [x]
theorem z2bu{db:List Data}(G:DbG db){r:Rel}{env:List Int}{w:Wld}{L:Rows}(gr:GoR db r env w)(fL:Fine db r L):L.length≤20000:=by
 have h0:=fL.few;obtain⟨_,_,h6,_,h5⟩:=zrm G.rows gr.sz gr.wgh;have h7:=z2is db r;rw[h5,zb6]at h0;rw[zhe]at h7;rcases h7 with h7|h7<;>rw[h7]at h0<;>split at h0<;>(try split at h0)<;>omega
def z98(g:List Val→Bool)(B:Rows)(x:List Val):Rows:=(B.map (x++·)).filter g
def zr4(g:List Val→Bool)(B:Rows)(nn x:List Val):Rows:=if(z98 g B x).length=0 then[x++nn]else z98 g B x
theorem z27o{nn:List Val}{F:List Val→Option Bool}{g:List Val→Bool}{B:Rows}:∀(l:Rows),(∀x∈l,(∀y∈B,F (x++y)=some (g (x++y)))∧(x++nn).length≤100000000)→
  zfk false nn F B l=some (l.flatMap (z98 g B))∧zfk true nn F B l=some (l.flatMap (zr4 g B nn))
 |[],_=>⟨rfl,rfl⟩
 |x::l,h=>by
  obtain⟨h1,h2⟩:=h x y10;obtain⟨i1,i2⟩:=z27o l fun z hz=>h z (y12 _ hz);have e:zau F (B.map (x++·))=some (z98 g B x):=z1li _ fun z hz=>by
   obtain⟨y,hy,rfl⟩:=y2a.1 hz;exact h1 y hy
  constructor
  ·simp only[zfk,e,yh,i1,reduceCtorEq,and_false,if_false,y2g,y2c]
  ·simp only[zfk,e,yh,i2,and_true,y2c];unfold zr4;by_cases c:(z98 g B x).length=0
   ·rw[if_pos c,if_pos c,if_pos h2];rfl
   ·rw[if_neg c,if_neg c];rfl
theorem z1lj{a b:Rel}{w:Wld}{A B:Rows}{ts:List Term}(cols:List Col)(g:List Val→Bool)(ha:nR a w=some A)(hb:nR b w=some B)(he:w.env.length≤100000000)(hc:b.cols.length≤50000000)
  (hw:∀x∈A,x.length≤50000000)(hwB:∀y∈B,y.length≤50000000)(hg:∀x∈A,∀y∈B,nSo ts (zi w (x++y))=some (g (x++y)))(hl:A.length*max B.length 1≤20000):
  nR (z2p 5 cols a b ts) w=some (A.flatMap (z98 g B))∧nR (z2p 6 cols a b ts) w=some (A.flatMap (zr4 g B (List.replicate b.cols.length z7)))∧(A.flatMap (z98 g B)).length≤20000∧(A.flatMap (zr4 g B (List.replicate b.cols.length z7))).length≤20000:=by
 have hlen:∀(f:List Val→Rows),(∀x,(f x).length≤max B.length 1)→(A.flatMap f).length≤20000:=fun f hf=>by
  have:∀l:Rows,(l.flatMap f).length≤l.length*max B.length 1:=by
   intro l
   induction l with
   |nil=>simp
   |cons x l ih=>have:=hf x;rw[y2c,y9,yt,y4j];omega
  exact y1c (this A) hl
 have hm:∀x,(z98 g B x).length≤max B.length 1:=fun x=>by
  have:(z98 g B x).length≤(B.map (x++·)).length:=List.length_filter_le _ _;rw[yu]at this;omega
 have hL:∀x,(zr4 g B (List.replicate b.cols.length z7) x).length≤max B.length 1:=fun x=>by
  unfold zr4;split
  ·rw[yf];omega
  ·exact hm x
 obtain⟨j1,j2⟩:=z27o (nn:=List.replicate b.cols.length z7) (F:=fun x=>if x.length≤100000000 then nSo ts (zi w x)else none) (g:=g) (B:=B) A fun x hx=>⟨fun y hy=>by
  rw[if_pos (by rw[y9];have:=hw x hx;have:=hwB y hy;omega)];exact hg x hx y hy,by rw[y9,y2u];have:=hw x hx;omega⟩
 have l1:=hlen _ hm;have l2:=hlen _ hL;have key:∀(op:Int)(left:Bool)(s:Rows),(op=5∨op=6)→decide (op=6)=left→zfk left (List.replicate b.cols.length z7) (fun x=>if x.length≤100000000 then nSo ts (zi w x)else none) B A=some s→s.length≤20000→nR (z2p op cols a b ts) w=some s:=fun op left s ho hleft hj hs=>by
  have hop:(z2p op cols a b ts).op=op:=rfl;have e:zyu (fun w=>nKid (z2p op cols a b ts).kids 0 w) (fun w=>nKid (z2p op cols a b ts).kids 1 w) (fun w=>nSo (z2p op cols a b ts).terms w) (z2p op cols a b ts).kids.length ((z2p op cols a b ts).kids.getD 1 za).cols.length (decide ((z2p op cols a b ts).op=6)) w=some s:=by
   unfold zyu;rw[hop,hleft,if_neg (by show¬2<2;omega),if_pos ⟨he,by show b.cols.length≤_;omega⟩];show(nR b w).bind (fun right=>(nR a w).bind fun l=>(zfk left (List.replicate b.cols.length z7) (fun x=>if x.length≤100000000 then nSo ts (zi w x)else none) right l).bind capQ)=some s;rw[hb,yh,ha,yh,hj,yh];unfold capQ;rw[if_pos (by omega)]
  rw[z156,e,hop,if_neg (by omega),if_neg (by omega),if_neg (by omega),if_neg (by omega),if_pos ho,yh];unfold capQ;rw[if_pos (by omega)]
 exact⟨key 5 false _ (.inl rfl) rfl j1 l1,key 6 true _ (.inr rfl) rfl j2 l2,l1,l2⟩
theorem z1cy(g:List Val→Bool)(B:Rows)(nn:List Val):∀A:Rows,(A.flatMap (zr4 g B nn)).length=(A.flatMap (z98 g B)).length+A.countP (fun x=>decide ((z98 g B x).length=0))
 |[]=>rfl
 |x::l=>by
  rw[y2c,y2c,y9,y9,z1cy g B nn l,List.countP_cons];unfold zr4;by_cases c:(z98 g B x).length=0
  ·rw[if_pos c,decide_eq_true c,if_pos rfl,c,yf];omega
  ·rw[if_neg c,decide_eq_false c,if_neg (by decide)];omega
theorem z1z2(g:List Val→Bool)(B:Rows)(nn:List Val):∀A:Rows,(A.flatMap (z98 g B)).Sublist (A.flatMap (zr4 g B nn))
 |[]=>List.Sublist.refl _
 |x::l=>by
  rw[y2c,y2c];refine List.Sublist.append ?_ (z1z2 g B nn l);unfold zr4;split
  ·rename_i c;rw[yz c];exact List.nil_sublist _
  ·exact List.Sublist.refl _
open Classical in
theorem z2jg{a b:Rows}(h:b.Sublist a):(setL false a b).length+b.length=a.length:=by
 have h1:=(z1yz a b).length_eq;have h2:(setL true a b).Perm b:=by
  rw[List.perm_iff_count];intro x;rw[z15h];have:=h.count_le x;omega
 rw[y9,h2.length_eq]at h1;omega
theorem z2pa(cols:List Col)(x:List Val)(w:Wld):nR (rowR cols x) w=some [x]:=by
 rw[z156,if_neg (by show¬(2:Int)=1;omega),if_pos (by rfl),yh];unfold capQ;rw[if_pos (by show 1≤100000000;omega)];rfl
theorem z2m5{db:List Data}(G:DbG db){a b:Rel}{t:Term}{ev:List Int}(cols:List Col)(ga:GoR db a [] ⟨[],db⟩)(gb:GoR db b [] ⟨[],db⟩)(hv:zcr t ev=true)(hf:fitT db t=true)(hs:t.sz≤2000000)(hc:clT t≤2000000)(ht:txT t)
  (hw:(wghR db (z2p 5 cols a b [t])).2≤20000)(hsz:(z2p 5 cols a b [t]).sz≤2000000):
  ∃A B met all pairs,nR a ⟨[],db⟩=some A∧nR b ⟨[],db⟩=some B∧nR (z2p 5 cols a b [t]) ⟨[],db⟩=some met∧nR (z2p 6 cols a b [t]) ⟨[],db⟩=some all∧nR (z2p 5 cols a b []) ⟨[],db⟩=some pairs∧nR (zeb 3 (z2p 5 cols a b []) [t]) ⟨[],db⟩=some met∧
   pairs.length=A.length*B.length∧A.length*B.length≤20000∧A.length≤20000∧all.length≤20000∧met.length≤20000∧
   ∃p:List Val→Bool,(∀x∈A,∃u,nR (z2p 5 cols (rowR a.cols x) b [t]) ⟨[],db⟩=some u∧p x=decide (u.length=0))∧all.length=met.length+A.countP p∧(setL false all met).length=A.countP p:=by
 obtain⟨A,hA,fA⟩:=z2iw G ga;obtain⟨B,hB,fB⟩:=z2iw G gb;have lA:=z2bu G ga fA;have lB:=z2bu G gb fB;have cA:=(z4s ga.v).2.2.1;have cB:=(z4s gb.v).2.2.1;have kA:=zbo a;have kB:=zbo b;have gac:=ga.cl;have gbc:=gb.cl;have fewA:=fA.few;have fewB:=fB.few;have wA:=(z5f G.rows ga.sz).1;have wB:=(z5f G.rows gb.sz).1;obtain⟨_,io0,io1,hlt,_⟩:=zrm G.rows hsz hw;obtain⟨W0,e0⟩:=y3e wA.1;obtain⟨W1,e1⟩:=y3e wB.1;have hio:(ioR db (z2p 5 cols a b [t])).1=((W0*max W1 1:Nat):Int):=by
  have hmx:maxI (W1:Int) 1=((max W1 1:Nat):Int):=by rw[zhe];split<;>omega
  have hp:=z11u (a:=(W0:Int)) (b:=((max W1 1:Nat):Int)) (by omega) (by omega) (by omega) (by omega);have h2:(z2p 5 cols a b [t]).kids.length=2:=rfl;have k0:=zah db (z2p 5 cols a b [t]) 0 (by omega);have k1:=zah db (z2p 5 cols a b [t]) 1 (by omega);have k0:((z2p 5 cols a b [t]).kids.map fun k=>(wghR db k).1).getD 0 0=(W0:Int):=k0.trans e0;have k1:((z2p 5 cols a b [t]).kids.map fun k=>(wghR db k).1).getD 1 0=(W1:Int):=k1.trans e1;unfold ioR ioW;rw[if_neg (by show¬(5:Int)=1;omega),if_neg (by rw[yu];omega),if_neg (by rw[yu];omega),if_pos (by exact .inl rfl),k0,k1,hmx,z1f (by omega),y4k]
 rw[hio]at io1 hlt;have hmul:A.length*max B.length 1≤20000:=by
  have:=y22 (show A.length≤W0 by omega) (show max B.length 1≤max W1 1 by omega);omega
 have key:∀x∈A,∀y∈B,nT t (zi ⟨[],db⟩ (x++y))=some ((nT t (zi ⟨[],db⟩ (x++y))).getD z7):=fun x hx y hy=>by
  have hp:=y3s hx;have h1:=y22 (show 1≤W0 by omega) (show 1≤max W1 1 by omega)
  obtain⟨v,q1,_⟩:=z2no G (t:=t) (env:=ev) (w:=zi ⟨[],db⟩ (x++y)) ⟨hv,hf,hs,hc,ht,hlt (by omega) t (y1p _ (yi.2 rfl)),rfl,fun z hz v hv=>by
   have hz:z∈[x++y]:=hz;rw[yi]at hz;rw[hz]at hv;rcases yc.1 hv with hv|hv
   ·exact fA.short x hx v hv
   ·exact fB.short y hy v hv,by
   have:=z14o t;show([x++y]:Rows).length+t.ht≤_
   rw[yf];omega⟩
  rw[q1];rfl
 have hwA:∀x∈A,x.length≤50000000:=fun x hx=>by have:=fA.wide x hx;omega
 have hwB:∀y∈B,y.length≤50000000:=fun y hy=>by have:=fB.wide y hy;omega
 obtain⟨g,hg⟩:∃g:List Val→Bool,∀z,g z=(z2k ((nT t (zi ⟨[],db⟩ z)).getD z7)==2):=⟨_,fun _=>rfl⟩;have hso:∀x∈A,∀y∈B,nSo [t] (zi ⟨[],db⟩ (x++y))=some (g (x++y)):=fun x hx y hy=>by rw[hg];exact z2je t _ (key x hx y hy)
 obtain⟨r1,r2,r3,r4⟩:=z1lj cols g hA hB (by simp) (by omega) hwA hwB hso hmul;obtain⟨s1,_,s3,_⟩:=z1lj (ts:=[]) cols (fun _=>true) hA hB (by simp) (by omega) hwA hwB (fun x _ y _=>by simp only[nSo]) hmul;have hpm:∀x,z98 (fun _=>true) B x=B.map (x++·):=fun x=>List.filter_eq_self.2 fun _ _=>rfl;have hpl:(A.flatMap (z98 (fun _=>true) B)).length=A.length*B.length:=by
  have:∀l:Rows,(l.flatMap (z98 (fun _=>true) B)).length=l.length*B.length:=by
   intro l
   induction l with
   |nil=>simp
   |cons x l ih=>rw[y2c,y9,ih,hpm,yu,yt,y4j];omega
  exact this A
 have hfil:=z2jf (t:=t) (fun z=>(nT t (zi ⟨[],db⟩ z)).getD z7) s1 (by simp) fun z hz=>by
  obtain⟨x,hx,hz⟩:=List.mem_flatMap.1 hz;rw[hpm]at hz;obtain⟨y,hy,rfl⟩:=y2a.1 hz;exact key x hx y hy
 have hmet:(A.flatMap (z98 (fun _=>true) B)).filter (fun z=>z2k ((nT t (zi ⟨[],db⟩ z)).getD z7)==2)=A.flatMap (z98 g B):=by
  have:(fun z=>z2k ((nT t (zi ⟨[],db⟩ z)).getD z7)==2)=g:=funext fun z=>(hg z).symm;rw[this,List.filter_flatMap];congr 1;funext x;rw[hpm];rfl
 rw[hmet]at hfil;refine⟨A,B,_,_,_,hA,hB,r1,r2,s1,hfil,hpl,by omega,lA,r4,r3,fun x=>decide ((z98 g B x).length=0),fun x hx=>?_,z1cy g B _ A,?_⟩
 ·obtain⟨q1,_⟩:=z1lj cols g (z2pa a.cols x ⟨[],db⟩) hB (by simp) (by omega) (fun y hy=>by rw[yi]at hy;rw[hy];exact hwA x hx) hwB (fun y hy z hz=>by rw[yi]at hy;rw[hy];exact hso x hx z hz) (by rw[yf];omega);refine⟨_,q1,?_⟩;rw[y2c,List.flatMap_nil,y13]
 ·have:=z2jg (z1z2 g B (List.replicate b.cols.length z7) A);have h2:=z1cy g B (List.replicate b.cols.length z7) A;omega
end B
namespace B
open Go Go.RowKit
theorem zle{R:Bool→RF Un}{b:Bool}{X:Option (RF Un)}(h:b=false→X=some (R true)):cndO b (some (R z5e)) X=some (R true):=by
 cases b
 ·exact h rfl
 ·rfl
theorem z221{b:Bool}(h:(!b)=false):b=true:=by cases b<;>simp_all
theorem zp8(r:Rel):Rel.mk r.op r.table r.cols r.kids r.terms r.aggs r.keys r.limit r.skip r.all r.rows=r:=Rel.ids_eq r
theorem z1lk(t:Term):Term.mk t.op t.v t.depth t.at_ t.name t.kids t.sub t.type=t:=Term.ids_eq t
theorem z2jh(l:Rows):z15d l l=true:=deq_iff.2 rfl
end B
namespace B
open Go Go.RowKit
set_option maxRecDepth 100000
noncomputable section
attribute [local irreducible] awp ctxK zw z1a retQ z1m awf ctxF z1l
def z1ll(r:List Int):RF Un:=([.c (.ob 0 0)],[⟨0,Ty.int,r,some 0,true⟩])
def z1z3:Exit→S Un→Option (RF Un):=cxF_ z1f6 zzz Tryz.f25 [1,1,0,1,2] [.m]
def z1z4(l:List Col):Option (RF Un):=fnF_ z1f6 zzz Tryz.f25 1 [.m] [.d (.v (.dat (U:=Un) Ty.col l))]
theorem z2ji(l:List Col):z1z4 l=(zmq (zd5 l (0:Int) ([]))).bind (zd z1z3):=by kernel_rfl
theorem z27p(l:List Col)(v0:Int)(v1:List Int):z1z3 (.exit 0) (zd5 l v0 v1)=some (z1ll (v1)):=by kernel_rfl
def zj2(l:List Col):List Int:=z1c l
theorem z2au(l:List Col)(hl:WL .col l)(h:l.length≤2000000000):z1z4 l=some (z1ll (zj2 l)):=by
 obtain⟨lp,_⟩:=z1j (e:=.exit 0) (L:=zmq) (st:=fun(n:List Int) i=>zd5 l i n) (l:=l) (d:=z9t) (g:=fun n c=>n++[c.type]) (fun i n=>n.length=i) hl.len
  (fun n i c hi hc hI=>by
   refine⟨by rw[y9,yf,hI],?_⟩;rw[z19t];simp only[z8,hi,decide_true,if_true,and_true,y5,hc]
   rw[z6 (by omega),z6 (by unfold ze;rw[yf];omega)])
  (fun n _=>by rw[z19t];simp[z8]) [] rfl
 rw[z14k,yw]at lp;rw[z2ji];refine(zj lp).trans ?_;rw[z27p];rfl
def z1ln:FnC Un:=fnF1 (dL .col) fun l=>([l.length≤2000000000],z1ll (zj2 l))
theorem z2jj:FnOK 25 z1ln:=fnK1 zr (M:=z1f6) rfl trivial trivial trivial trivial trivial Tryz.func25 fun l=>GiF.r fun w o=>z2au l (wfA_ w 0) (obA_ o 0)
def zec:Mc Un:=mcF_ [(19,zc6),(11,z109),(18,z149),(20,z14g),(21,zvy),(28,zu2),(25,z1ln),(24,z107),(12,z10r),(29,zma),(14,zqz),(23,z15g),(13,z15e),(30,z15j)] [] [] [] []
def zed:Nat→NS:=nsF_ [(21,{ts:=bl 196 8065412,bs:=bl 196 4480,nm:=[(.cell 12 2,784),(.cell 12 3,785),(.cell 12 4,786)],cs:=true})] true
def zcl(two0:Rel)(two1:Rel)(t:Term):=zeb (3:Int) (Rel.mk (5:Int) (ByteArray.mk #[]) (two0.cols++two1.cols) [Rel.mk two0.op two0.table two0.cols two0.kids two0.terms two0.aggs two0.keys two0.limit two0.skip two0.all two0.rows,Rel.mk two1.op two1.table two1.cols two1.kids two1.terms two1.aggs two1.keys two1.limit two1.skip two1.all two1.rows] [] [] [] (0:Int) (0:Int) false []) [Term.mk t.op t.v t.depth t.at_ t.name t.kids t.sub t.type]
def z5c(two0:Rel)(two1:Rel)(t:Term)(db:List Data):=z1r (Rel.mk (5:Int) (ByteArray.mk #[]) (two0.cols++two1.cols) [Rel.mk two0.op two0.table two0.cols two0.kids two0.terms two0.aggs two0.keys two0.limit two0.skip two0.all two0.rows,Rel.mk two1.op two1.table two1.cols two1.kids two1.terms two1.aggs two1.keys two1.limit two1.skip two1.all two1.rows] [Term.mk t.op t.v t.depth t.at_ t.name t.kids t.sub t.type] [] [] (0:Int) (0:Int) false []) db
def z4d(two0:Rel)(db:List Data):=z1r (Rel.mk two0.op two0.table two0.cols two0.kids two0.terms two0.aggs two0.keys two0.limit two0.skip two0.all two0.rows) db
def z72(two0:Rel)(two1:Rel)(t:Term)(db:List Data):=z1r (Rel.mk (6:Int) (ByteArray.mk #[]) (two0.cols++two1.cols) [Rel.mk two0.op two0.table two0.cols two0.kids two0.terms two0.aggs two0.keys two0.limit two0.skip two0.all two0.rows,Rel.mk two1.op two1.table two1.cols two1.kids two1.terms two1.aggs two1.keys two1.limit two1.skip two1.all two1.rows] [Term.mk t.op t.v t.depth t.at_ t.name t.kids t.sub t.type] [] [] (0:Int) (0:Int) false []) db
def zcm(two0:Rel)(two1:Rel)(t:Term)(db:List Data):=zdt (z72 two0 two1 t db) (z5c two0 two1 t db)
def z4z(two0:Rel)(two1:Rel)(t:Term)(db:List Data)(v0:Int)(v1:Int):S Un:=(st 196 196 787 0 [(2,al .data db),(7,ax 7),(8,ax 8),(12,ax 12),(16,al .row (z5c two0 two1 t db)),(17,al .row (z72 two0 two1 t db)),(19,AV.one (A.c (C.sl Ty.row (zcm two0 two1 t db).snd false))),(20,ai v0),(21,al .row (z4d two0 db)),(22,ai v1)] [(7,bg .rel two0),(8,bg .rel two1),(12,some (false,[C.s (Value.int IntKind.i64 (5:Int)),C.s (Value.string (ByteArray.mk #[])),C.ob (784:Nat) (0:Nat),C.ob (785:Nat) (0:Nat),C.ob (786:Nat) (0:Nat),C.sl Ty.agg [] true,C.sl Ty.by_ [] true,C.s (Value.int IntKind.i64 (0:Int)),C.s (Value.int IntKind.i64 (0:Int)),C.s (Value.bool false),C.sl Ty.row [] true]))] [(784,some ⟨(0:Nat),Ty.col,two0.cols++two1.cols,none,true⟩),(785,some ⟨(0:Nat),Ty.rel,[(Rel.ids two0),(Rel.ids two1)],none,true⟩),(786,some ⟨(0:Nat),Ty.term,[(Term.ids t)],none,true⟩)])
def z8g:S Un→Option (EX Un):=lpF_ zec zed Tryz.f5 [1,1,1,1,1,1,1,1,1,1,1,1,1,1,1,1,0,1,2,2] 21
def zs8:Exit→S Un→Option (RF Un):=cxF_ zec zed Tryz.f5 [1,1,1,1,1,1,1,1,1,1,1,1,1,1,1,1,0,1,2] [.d]
def ztf(two0:Rel)(two1:Rel)(t:Term)(db:List Data):Option (RF Un):=fnF_ zec zed Tryz.f5 3 [.d] [.d (.agg (enc Ty.rel two0++enc Ty.rel two1)),.d (.agg (enc Ty.term t)),.d (.v (.dat (U:=Un) Ty.data db))]
theorem z1ev(two0:Rel)(two1:Rel)(t:Term)(db:List Data):ztf two0 two1 t db=obO ((Rel.ids two0).sz≤(2000000:Nat)) (obO (clR (Rel.ids two0)≤(2000000000:Nat)) (cndO (!zl0 (Rel.ids two0) db) (some (z1h7 (z5e))) (obO ((Rel.ids two1).sz≤(2000000:Nat)) (obO (clR (Rel.ids two1)≤(2000000000:Nat)) (cndO (!zl0 (Rel.ids two1) db) (some (z1h7 (z5e))) (obO (z2j [IntKind.i64.wrap (z2e (Rel.ids two0)+z2e (Rel.ids two1))] (Term.ids t).ht) (cndO (!z7g (Term.ids t) [IntKind.i64.wrap (z2e (Rel.ids two0)+z2e (Rel.ids two1))]) (some (z1h7 (z5e))) (obO ((Term.ids t).sz≤(2000000:Nat)) (cndO (!zaf (Term.ids t) db) (some (z1h7 (z5e))) (obO ((Term.ids t).sz≤(2000000:Nat)) (cndO (decide (zbk (Term.ids t)>12)) (some (z1h7 (z5e))) (obO ((Rel.ids two0).sz≤(2000000:Nat)) (obO ((Rel.ids two1).sz≤(2000000:Nat)) (cndO (decide (IntKind.i64.wrap (zc9 (Rel.ids two0)+zc9 (Rel.ids two1))>20)) (some (z1h7 (z5e))) (obO (two0.cols.length≤(2000000000:Nat)) (obO (two1.cols.length≤(2000000000:Nat)) (obO (((zj2 two0.cols).length+(zj2 two1.cols).length)*(8:Nat)≤ze) (obO ((Term.ids t).sz≤(2000000:Nat)) (obO (clT (Term.ids t)≤(2000000000:Nat)) (obO (tyT (Term.ids t)) (obO ([zj2 two0.cols++zj2 two1.cols].length+(Term.ids t).ht≤(8000000:Nat)) (cndO (!z85 (Term.ids t) [zj2 two0.cols++zj2 two1.cols]) (some (z1h7 (z5e))) (obO ((0+two0.cols.length)*(40:Nat)≤ze) (obO (((two0.cols).length+two1.cols.length)*(40:Nat)≤ze) (obO ((Rel.mk (5:Int) (ByteArray.mk #[]) (two0.cols++two1.cols) [(Rel.ids two0),(Rel.ids two1)] [(Term.ids t)] [] [] (0:Int) (0:Int) false []).sz≤(2000000:Nat)) (cndO (decide ((z6n (Rel.mk (5:Int) (ByteArray.mk #[]) (two0.cols++two1.cols) [(Rel.ids two0),(Rel.ids two1)] [(Term.ids t)] [] [] (0:Int) (0:Int) false []) db).snd >2000)) (some (z1h7 (z5e))) (obO (okRl {env:=[],db:=db} (Rel.mk (5:Int) (ByteArray.mk #[]) (two0.cols++two1.cols) [(Rel.ids two0),(Rel.ids two1)] [(Term.ids t)] [] [] (0:Int) (0:Int) false [])) (obO (okRl {env:=[],db:=db} (Rel.mk (6:Int) (ByteArray.mk #[]) (two0.cols++two1.cols) [(Rel.ids two0),(Rel.ids two1)] [(Term.ids t)] [] [] (0:Int) (0:Int) false [])) (obO (okRl {env:=[],db:=db} (Rel.ids (zcl two0 two1 t))) (cndO (!z15d (z5c two0 two1 t db) (z1r (Rel.ids (zcl two0 two1 t)) db)) (some (z1h7 (false))) (obO (okRl {env:=[],db:=db} (Rel.mk (5:Int) (ByteArray.mk #[]) (two0.cols++two1.cols) [(Rel.ids two0),(Rel.ids two1)] [] [] [] (0:Int) (0:Int) false [])) (obO (okRl {env:=[],db:=db} (Rel.ids two0)) (obO (okRl {env:=[],db:=db} (Rel.ids two1)) (cndO ((↑(z1r (Rel.mk (5:Int) (ByteArray.mk #[]) (two0.cols++two1.cols) [(Rel.ids two0),(Rel.ids two1)] [] [] [] (0:Int) (0:Int) false []) db).length:Int) !=IntKind.i64.wrap ((↑(z4d two0 db).length:Int)*(↑(z1r (Rel.ids two1) db).length:Int))) (some (z1h7 (false))) (obO ((z72 two0 two1 t db).length≤(10000000:Nat)) (obO ((z5c two0 two1 t db).length≤(10000000:Nat)) (obO (okRl {env:=[],db:=db} (Rel.ids two0)) ((z8g (z4z two0 two1 t db (0:Int) (0:Int))).bind (zd zs8))))))))))))))))))))))))))))))))))))))):=by kernel_rfl
theorem zs9(two0:Rel)(two1:Rel)(t:Term)(db:List Data)(v0:Int)(v1:Int):z8g (z4z two0 two1 t db v0 v1)=cndO (decide (v1<(↑(z4d two0 db).length:Int))) (obO (0≤v1∧v1<(↑(z4d two0 db).length:Int)) (obO (okRl {env:=[],db:=db} (Rel.mk (5:Int) (ByteArray.mk #[]) (two0.cols++two1.cols) [(Rel.mk (2:Int) (ByteArray.mk #[]) two0.cols [] [] [] [] (0:Int) (0:Int) false [(z4d two0 db).getD v1.toNat []]),(Rel.ids two1)] [(Term.ids t)] [] [] (0:Int) (0:Int) false [])) (cndO ((↑(z1r (Rel.mk (5:Int) (ByteArray.mk #[]) (two0.cols++two1.cols) [(Rel.mk (2:Int) (ByteArray.mk #[]) two0.cols [] [] [] [] (0:Int) (0:Int) false [(z4d two0 db).getD v1.toNat []]),(Rel.ids two1)] [(Term.ids t)] [] [] (0:Int) (0:Int) false []) db).length:Int)==(0:Int)) (z8g (z4z two0 two1 t db (IntKind.i64.wrap (v0+1)) (IntKind.i64.wrap (v1+1)))) (z8g (z4z two0 two1 t db v0 (IntKind.i64.wrap (v1+1))))))) (some (.exit 0,(z4z two0 two1 t db v0 v1))):=lpQ_ (by kernel_rfl)
theorem z13a(two0:Rel)(two1:Rel)(t:Term)(db:List Data)(v0:Int)(v1:Int):zs8 (.exit 0) (z4z two0 two1 t db v0 v1)=cndO (z5e) (cndO (v0==(↑(zcm two0 two1 t db).snd.length:Int)) (some (z1h7 ((↑(z72 two0 two1 t db).length:Int)==IntKind.i64.wrap ((↑(z5c two0 two1 t db).length:Int)+v0)))) (some (z1h7 (false)))) (some (z1h7 (false))):=by kernel_rfl
def zdl(_a _b:Rel)(_t:Term)(_db:List Data):Bool:=true
theorem z2og(op:Int)(cols:List Col)(a b:Rel)(t:Term):(z2p op cols a b [t]).sz≤a.sz+b.sz+t.sz+4:=by
 have:=(z2p op cols a b [t]).sz_eq;have e1:(z2p op cols a b [t]).kids=[a,b]:=rfl;have e2:(z2p op cols a b [t]).terms=[t]:=rfl;have e3:(z2p op cols a b [t]).aggs=[]:=rfl;have e4:(z2p op cols a b [t]).rows=[]:=rfl;simp only[e1,e2,e3,e4,szRs,szTs,szAs,y1r]at this;omega
theorem z17w(two0 two1:Rel)(t:Term)(db:List Data)(hs:two0.sz+two1.sz+t.sz≤1900000)(hca:clR two0≤2000000)(hcb:clR two1≤2000000)(hct:clT t≤2000000)(hxa:txR two0)(hxb:txR two1)(hxt:txT t)(G:DbG db):ztf two0 two1 t db=some (z1h7 (zdl two0 two1 t db)):=by
 have hca':=zbo two0;have hcb':=zbo two1;have ht:=z14o t;have hj:=z2og 5 (two0.cols++two1.cols) two0 two1 t;have c1:zcl two0 two1 t=zeb 3 (z2p 5 (two0.cols++two1.cols) two0 two1 []) [t]:=by unfold zcl;rw[zp8,zp8,z1lk];rfl
 have c2:z5c two0 two1 t db=z1r (z2p 5 (two0.cols++two1.cols) two0 two1 [t]) db:=by unfold z5c;rw[zp8,zp8,z1lk];rfl
 have c3:z4d two0 db=z1r two0 db:=by unfold z4d;rw[zp8]
 have c4:z72 two0 two1 t db=z1r (z2p 6 (two0.cols++two1.cols) two0 two1 [t]) db:=by unfold z72;rw[zp8,zp8,z1lk];rfl
 have e:∀(op:Int)(x:Rel)(ts:List Term),Rel.mk op (ByteArray.mk #[]) (two0.cols++two1.cols) [x,two1] ts [] [] 0 0 false []=z2p op (two0.cols++two1.cols) x two1 ts:=fun _ _ _=>rfl;have eR:∀x:List Val,Rel.mk 2 (ByteArray.mk #[]) two0.cols [] [] [] [] 0 0 false [x]=rowR two0.cols x:=fun _=>rfl;rw[z1ev];simp only[Rel.ids_eq,Term.ids_eq,c1,e];rw[z6 (by omega),z6 (by omega)];refine zle fun h1=>?_;rw[z6 (by omega),z6 (by omega)];refine zle fun h2=>?_;rw[z6 (by unfold z2j;rw[yf];omega)];refine zle fun h3=>?_;rw[z6 (by omega)];refine zle fun h4=>?_;rw[z6 (by omega)];refine zle fun _=>?_;rw[z6 (by omega),z6 (by omega)];refine zle fun _=>?_;have hk:∀l:List Col,(zj2 l).length=l.length:=fun l=>by unfold zj2 z1c;rw[yu]
 have h3:=z221 h3;rw[z6 (by omega),z6 (by omega),z6 (by unfold ze;rw[hk,hk];omega),z6 (by omega),z6 (by omega),z6 ((z24t (t.ht+1)).1 t _ (y2l _) h3),z6 (by rw[yf];omega)];refine zle fun _=>?_;rw[z6 (by unfold ze;omega),z6 (by unfold ze;omega),z6 (by omega)];refine zle fun h5=>?_;have h5:(wghR db (z2p 5 (two0.cols++two1.cols) two0 two1 [t])).2≤20000:=by
  have:¬(wghR db (z2p 5 (two0.cols++two1.cols) two0 two1 [t])).2 >2000:=of_decide_eq_false h5;omega
 obtain⟨A,B,met,all,pairs,k1,k2,k3,k4,k5,k6,n1,n2,n3,n4,n5,p,k7,k8,k9⟩:=z2m5 G (two0.cols++two1.cols) (z26w (z221 h1) (by omega) hca hxa) (z26w (z221 h2) (by omega) hcb hxb) h3 (z221 h4) (by omega) hct hxt h5 (by omega);have e1:z1r two0 db=A:=z4y k1;have e2:z1r two1 db=B:=z4y k2;have e3:z1r (z2p 5 (two0.cols++two1.cols) two0 two1 [t]) db=met:=z4y k3;have e4:z1r (z2p 6 (two0.cols++two1.cols) two0 two1 [t]) db=all:=z4y k4;have e5:z1r (z2p 5 (two0.cols++two1.cols) two0 two1 []) db=pairs:=z4y k5;have e6:z1r (zeb 3 (z2p 5 (two0.cols++two1.cols) two0 two1 []) [t]) db=met:=z4y k6;have c2:=c2.trans e3;have c3:=c3.trans e1;have c4:=c4.trans e4;have c5:zcm two0 two1 t db=(setL true all met,setL false all met):=by unfold zcm;rw[c2,c4];rfl
 rw[c2,c3,c4,e2,e5,e6,z6 ⟨_,k3⟩,z6 ⟨_,k4⟩,z6 ⟨_,k6⟩];refine z1s6 (by rw[z2jh];rfl) ?_;rw[z6 ⟨_,k5⟩,z6 ⟨_,k1⟩,z6 ⟨_,k2⟩];refine z1s6 (by rw[bne_eq_false_iff_eq,←y4k,z1f (by omega),n1]) ?_;rw[z6 (by omega),z6 (by omega),z6 ⟨_,k1⟩];have hct2:∀i,(A.take i).countP p≤A.length:=fun i=>y1c List.countP_le_length (by rw[yq];omega)
 have lp:=za0 (σ:=Unit) (L:=z8g) (st:=fun _ i=>z4z two0 two1 t db ((A.take i.toNat).countP p:Nat) i) (e:=.exit 0) (l:=A) (d:=[]) (fun _ _=>()) (by omega)
  (fun _ i x hi hx hm=>by
   have hil:i<A.length:=by omega
   obtain⟨u,q1,q2⟩:=k7 x hm;have eu:z1r (z2p 5 (two0.cols++two1.cols) (rowR two0.cols x) two1 [t]) db=u:=z4y q1;have hs1:(A.take (i+1)).countP p=(A.take i).countP p+if p x=true then 1 else 0:=by
    rw[y3d,ya hil];have:A[i]=x:=by rw[←hx,yd,ya hil];rfl
    rw[this,List.countP_append];simp[List.countP_cons]
   have hle:=hct2 i;rw[zs9];simp only[Rel.ids_eq,Term.ids_eq,c3,y5,hx,eR,e,eu];refine z1dt (decide_eq_true (by omega)) ?_;rw[z6 (by omega),z6 ⟨_,q1⟩,z3g hil (by omega),y5,hs1,q2];by_cases c:u.length=0
   ·refine z1dt (by rw[c];rfl) ?_;rw[decide_eq_true c,if_pos rfl,z1f (by omega)];rfl
   ·refine z1s6 (beq_eq_false_iff_ne.2 (by omega)) ?_
    rw[decide_eq_false c,if_neg (by decide)];rfl)
  (fun _=>by
   rw[zs9,c3]
   exact z1s6 (decide_eq_false (by omega)) rfl) ()
 refine(zj lp).trans ?_;rw[z13a];simp only[c2,c4,c5,y5,y2s];refine z1dt z1w1 (z1dt (by rw[k9];exact beq_self_eq_true _) ?_);rw[z1f (by have:=hct2 A.length;rw[y2s]at this;omega),k8];exact congrArg (fun b=>some (z1h7 b)) (by rw[beq_iff_eq];omega)
end
end B
namespace B
open Go Go.RowKit
set_option maxRecDepth 100000
theorem BKS.split:∀{us vs:List (V Un)}{n:Nat},BKS (us++vs) n→∃a b,BKS us a∧BKS vs b∧a+b≤n
 |[],vs,n,h=>⟨0,n,.nil 0,h,by omega⟩
 |u::us,vs,n,h=>by
  obtain⟨a,b,h1,h2,h3⟩:=BKS.cons_inv h;obtain⟨c,d,h4,h5,h6⟩:=BKS.split h2;exact⟨a+c,d,.cons _ _ a c _ h1 h4 (y6 _),h5,by omega⟩
section
variable {H:Type} {enc':TypeId×Value→H} {w:World} {spare:Nat→Bool} {held:Bool} {r:Reach} {b0:Nat}
theorem z2m6{t e:TypeId}(hu:Tryz.prog.underlying t=some (.array 2 e))(hl:lay Tryz.prog tiL 8 t=some (fls .rel++fls .rel)){v:Value}{d:DataW H}{ps:List MemPlace}(hval:Value.okWide Tryz.prog w r b0 t v)(hd:DataW.Trod enc' Tryz.prog w 0 spare held t v d ps):
  ∃a b:Rel,DRel Tryz.prog En (StA w) w v (.d (.agg (B.enc Ty.rel a++B.enc Ty.rel b)))∧∃n m,BKS (B.enc Ty.rel a) n∧BKS (B.enc Ty.rel b) m∧n+m≤Rows.uptoBulk d- 1:=by
 have hv:=hval;simp only[Value.okWide,hu]at hv;obtain⟨cs,rfl,hsz,_⟩:=hv;obtain⟨vs,h1,h2,h4,h5⟩:=z1c9 hd hl;have t1:(vs.take 11).map flOf=(fls Ty.rel).map some:=by rw[List.map_take,h2];rfl
 have t2:(vs.drop 11).map flOf=(fls Ty.rel).map some:=by rw[List.map_drop,h2];rfl
 obtain⟨a,ha⟩:=z1c8 Ty.rel _ t1;obtain⟨b,hb⟩:=z1c8 Ty.rel _ t2;have e:B.enc Ty.rel a++B.enc Ty.rel b=vs:=by rw[zdx _ _ _ ha,zdx _ _ _ hb,y1m]
 refine⟨a,b,?_,?_⟩
 ·rw[e];exact⟨cs,rfl,h1⟩
 ·rw[←e]at h5;exact h5.split
end
noncomputable def zx6:FnC Un:=fun args=>match args with
 |[.d (.agg vs),x1,x2]=>(dec .rel (vs.take 11)).bind fun a=>(dec .rel (vs.drop 11)).bind fun b=>(dS .term x1).bind fun t=>(dL .data x2).bind fun db=>some ([a.sz+b.sz+t.sz≤1900000,clR a≤2000000,clR b≤2000000,clT t≤2000000,txR a,txR b,txT t,DbG db],zv8 (zdl a b t db),zv9 (zdl a b t db))
 |_=>none
theorem z1ew:FnOK 5 zx6:=by
 intro args ob rs os h hob;unfold zx6 at h;split at h
 ·rename_i vs x1 x2;simp only[y7,y8,ym]at h;obtain⟨a,ea,b,eb,t,e1,db,e2,rfl,rfl,rfl⟩:=h;obtain rfl:=zt e1;obtain rfl:=zr e2;have e:vs=enc Ty.rel a++enc Ty.rel b:=by rw[zdx _ _ _ ea,zdx _ _ _ eb,y1m]
  subst e;exact⟨z2d (M:=zec) rfl (z4o (l1:=[(19,zc6),(11,z109),(18,z149),(20,z14g),(21,zvy),(28,zu2),(25,z1ln),(24,z107),(12,z10r),(29,zma),(14,zqz),(23,z15g),(13,z15e),(30,z15j)]) (l2:=[]) (l3:=[]) (l4:=[]) (l5:=[]) ⟨zg1,z24u,z28t,z292,z200,z1g6,z2jj,z24o,z27j,z168,z1cq,z2ar,z2ao,z2at,trivial⟩ trivial trivial trivial trivial) Tryz.func5 (by kernel_rfl) zed 3 [.d] (fun _=>(z17w a b t db (hob _ (ye (i:=0) rfl)) (hob _ (ye (i:=1) rfl)) (hob _ (ye (i:=2) rfl)) (hob _ (ye (i:=3) rfl)) (hob _ (ye (i:=4) rfl)) (hob _ (ye (i:=5) rfl)) (hob _ (ye (i:=6) rfl)) (hob _ (ye (i:=7) rfl)))),zk Tryz.func5 (by kernel_rfl) (by kernel_rfl)⟩
 ·simp at h
end B
end Go.Proofs.YtjfpbchdcbhfgaaGreat
