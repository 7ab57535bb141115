/- Part 19 of the proof: Slaw20a Slaw20o Lnset Lngrp Lnaw Slaw20d. -/
import Derived.Test.YtjfpbchdcbhfgaaGreatNgr18
set_option linter.unusedVariables false
set_option linter.unusedSimpArgs false
namespace Go.Proofs.YtjfpbchdcbhfgaaGreat
namespace B
open Go Go.RowKit
set_option maxRecDepth 100000
noncomputable section
attribute [local irreducible] awp ctxK zx z1f retQ z1l awf ctxF z1k
def z1et:Mc Un:=mcF_ [(32,z8y),(14,zp6)] [] [] [] []
def zuv:Option (RF Un):=fnF_ z1et z23g Tryz.f12 0 [.d] []
theorem z22o:zuv=obO (okRl {env:=[],db:=[{table:=(ByteArray.mk #[116]),rows:=[[(zd (1:Int))],[(zd (2:Int))],[z7]]}]} (Rel.mk (3:Int) (ByteArray.mk #[]) [{table:=(ByteArray.mk #[]),name:=(ByteArray.mk #[97]),type:=(2:Int)}] [(Rel.mk (1:Int) (ByteArray.mk #[116]) [{table:=(ByteArray.mk #[]),name:=(ByteArray.mk #[97]),type:=(2:Int)}] [] [] [] [] (0:Int) (0:Int) false [])] [(Term.mk (13:Int) z7 (0:Int) (0:Int) (ByteArray.mk #[]) [(Term.mk (2:Int) z7 (0:Int) (0:Int) (ByteArray.mk #[]) [] [] (2:Int)),(Term.mk (1:Int) (zd (2:Int)) (0:Int) (0:Int) (ByteArray.mk #[]) [] [] (2:Int))] [] (1:Int))] [] [] (0:Int) (0:Int) false [])) (cndO ((↑(z3t (Rel.mk (3:Int) (ByteArray.mk #[]) [{table:=(ByteArray.mk #[]),name:=(ByteArray.mk #[97]),type:=(2:Int)}] [(Rel.mk (1:Int) (ByteArray.mk #[116]) [{table:=(ByteArray.mk #[]),name:=(ByteArray.mk #[97]),type:=(2:Int)}] [] [] [] [] (0:Int) (0:Int) false [])] [(Term.mk (13:Int) z7 (0:Int) (0:Int) (ByteArray.mk #[]) [(Term.mk (2:Int) z7 (0:Int) (0:Int) (ByteArray.mk #[]) [] [] (2:Int)),(Term.mk (1:Int) (zd (2:Int)) (0:Int) (0:Int) (ByteArray.mk #[]) [] [] (2:Int))] [] (1:Int))] [] [] (0:Int) (0:Int) false []) [{table:=(ByteArray.mk #[116]),rows:=[[(zd (1:Int))],[(zd (2:Int))],[z7]]}]).length:Int)==(1:Int)) (obO ((0:Int)≤(0:Int)∧(0:Int)<(↑(z3t (Rel.mk (3:Int) (ByteArray.mk #[]) [{table:=(ByteArray.mk #[]),name:=(ByteArray.mk #[97]),type:=(2:Int)}] [(Rel.mk (1:Int) (ByteArray.mk #[116]) [{table:=(ByteArray.mk #[]),name:=(ByteArray.mk #[97]),type:=(2:Int)}] [] [] [] [] (0:Int) (0:Int) false [])] [(Term.mk (13:Int) z7 (0:Int) (0:Int) (ByteArray.mk #[]) [(Term.mk (2:Int) z7 (0:Int) (0:Int) (ByteArray.mk #[]) [] [] (2:Int)),(Term.mk (1:Int) (zd (2:Int)) (0:Int) (0:Int) (ByteArray.mk #[]) [] [] (2:Int))] [] (1:Int))] [] [] (0:Int) (0:Int) false []) [{table:=(ByteArray.mk #[116]),rows:=[[(zd (1:Int))],[(zd (2:Int))],[z7]]}]).length:Int)) (cndO ((↑(List.length ((z3t (Rel.mk (3:Int) (ByteArray.mk #[]) [{table:=(ByteArray.mk #[]),name:=(ByteArray.mk #[97]),type:=(2:Int)}] [(Rel.mk (1:Int) (ByteArray.mk #[116]) [{table:=(ByteArray.mk #[]),name:=(ByteArray.mk #[97]),type:=(2:Int)}] [] [] [] [] (0:Int) (0:Int) false [])] [(Term.mk (13:Int) z7 (0:Int) (0:Int) (ByteArray.mk #[]) [(Term.mk (2:Int) z7 (0:Int) (0:Int) (ByteArray.mk #[]) [] [] (2:Int)),(Term.mk (1:Int) (zd (2:Int)) (0:Int) (0:Int) (ByteArray.mk #[]) [] [] (2:Int))] [] (1:Int))] [] [] (0:Int) (0:Int) false []) [{table:=(ByteArray.mk #[116]),rows:=[[(zd (1:Int))],[(zd (2:Int))],[z7]]}]).getD 0 [])):Int)==(1:Int)) (obO ((0:Int)≤(0:Int)∧(0:Int)<(↑(z3t (Rel.mk (3:Int) (ByteArray.mk #[]) [{table:=(ByteArray.mk #[]),name:=(ByteArray.mk #[97]),type:=(2:Int)}] [(Rel.mk (1:Int) (ByteArray.mk #[116]) [{table:=(ByteArray.mk #[]),name:=(ByteArray.mk #[97]),type:=(2:Int)}] [] [] [] [] (0:Int) (0:Int) false [])] [(Term.mk (13:Int) z7 (0:Int) (0:Int) (ByteArray.mk #[]) [(Term.mk (2:Int) z7 (0:Int) (0:Int) (ByteArray.mk #[]) [] [] (2:Int)),(Term.mk (1:Int) (zd (2:Int)) (0:Int) (0:Int) (ByteArray.mk #[]) [] [] (2:Int))] [] (1:Int))] [] [] (0:Int) (0:Int) false []) [{table:=(ByteArray.mk #[116]),rows:=[[(zd (1:Int))],[(zd (2:Int))],[z7]]}]).length:Int)) (obO ((0:Int)≤(0:Int)∧(0:Int)<(↑(List.length ((z3t (Rel.mk (3:Int) (ByteArray.mk #[]) [{table:=(ByteArray.mk #[]),name:=(ByteArray.mk #[97]),type:=(2:Int)}] [(Rel.mk (1:Int) (ByteArray.mk #[116]) [{table:=(ByteArray.mk #[]),name:=(ByteArray.mk #[97]),type:=(2:Int)}] [] [] [] [] (0:Int) (0:Int) false [])] [(Term.mk (13:Int) z7 (0:Int) (0:Int) (ByteArray.mk #[]) [(Term.mk (2:Int) z7 (0:Int) (0:Int) (ByteArray.mk #[]) [] [] (2:Int)),(Term.mk (1:Int) (zd (2:Int)) (0:Int) (0:Int) (ByteArray.mk #[]) [] [] (2:Int))] [] (1:Int))] [] [] (0:Int) (0:Int) false []) [{table:=(ByteArray.mk #[116]),rows:=[[(zd (1:Int))],[(zd (2:Int))],[z7]]}]).getD 0 [])):Int)) (some (z8z (andB [EK.int IntKind.i64,EK.str] ((List.getD ((z3t (Rel.mk (3:Int) (ByteArray.mk #[]) [{table:=(ByteArray.mk #[]),name:=(ByteArray.mk #[97]),type:=(2:Int)}] [(Rel.mk (1:Int) (ByteArray.mk #[116]) [{table:=(ByteArray.mk #[]),name:=(ByteArray.mk #[97]),type:=(2:Int)}] [] [] [] [] (0:Int) (0:Int) false [])] [(Term.mk (13:Int) z7 (0:Int) (0:Int) (ByteArray.mk #[]) [(Term.mk (2:Int) z7 (0:Int) (0:Int) (ByteArray.mk #[]) [] [] (2:Int)),(Term.mk (1:Int) (zd (2:Int)) (0:Int) (0:Int) (ByteArray.mk #[]) [] [] (2:Int))] [] (1:Int))] [] [] (0:Int) (0:Int) false []) [{table:=(ByteArray.mk #[116]),rows:=[[(zd (1:Int))],[(zd (2:Int))],[z7]]}]).getD 0 []) 0 z7).kind ==(zd (1:Int)).kind) (andB [EK.str] ((List.getD ((z3t (Rel.mk (3:Int) (ByteArray.mk #[]) [{table:=(ByteArray.mk #[]),name:=(ByteArray.mk #[97]),type:=(2:Int)}] [(Rel.mk (1:Int) (ByteArray.mk #[116]) [{table:=(ByteArray.mk #[]),name:=(ByteArray.mk #[97]),type:=(2:Int)}] [] [] [] [] (0:Int) (0:Int) false [])] [(Term.mk (13:Int) z7 (0:Int) (0:Int) (ByteArray.mk #[]) [(Term.mk (2:Int) z7 (0:Int) (0:Int) (ByteArray.mk #[]) [] [] (2:Int)),(Term.mk (1:Int) (zd (2:Int)) (0:Int) (0:Int) (ByteArray.mk #[]) [] [] (2:Int))] [] (1:Int))] [] [] (0:Int) (0:Int) false []) [{table:=(ByteArray.mk #[116]),rows:=[[(zd (1:Int))],[(zd (2:Int))],[z7]]}]).getD 0 []) 0 z7).n ==(zd (1:Int)).n) (andB [] ((List.getD ((z3t (Rel.mk (3:Int) (ByteArray.mk #[]) [{table:=(ByteArray.mk #[]),name:=(ByteArray.mk #[97]),type:=(2:Int)}] [(Rel.mk (1:Int) (ByteArray.mk #[116]) [{table:=(ByteArray.mk #[]),name:=(ByteArray.mk #[97]),type:=(2:Int)}] [] [] [] [] (0:Int) (0:Int) false [])] [(Term.mk (13:Int) z7 (0:Int) (0:Int) (ByteArray.mk #[]) [(Term.mk (2:Int) z7 (0:Int) (0:Int) (ByteArray.mk #[]) [] [] (2:Int)),(Term.mk (1:Int) (zd (2:Int)) (0:Int) (0:Int) (ByteArray.mk #[]) [] [] (2:Int))] [] (1:Int))] [] [] (0:Int) (0:Int) false []) [{table:=(ByteArray.mk #[116]),rows:=[[(zd (1:Int))],[(zd (2:Int))],[z7]]}]).getD 0 []) 0 z7).s.toList ==(zd (1:Int)).s.toList) true))))))) (some (z8z (false))))) (some (z8z (false)))):=by kernel_rfl
def colA:Term:=.mk 2 z7 0 0 ⟨#[]⟩ [] [] 2
def cA:Term:=.mk 1 (zd 2) 0 0 ⟨#[]⟩ [] [] 2
def lessA:Term:=.mk 13 z7 0 0 ⟨#[]⟩ [colA,cA] [] 1
def tabA:Rel:=.mk 1 ⟨#[116]⟩ [⟨⟨#[]⟩,⟨#[97]⟩,2⟩] [] [] [] [] 0 0 false []
def relA:Rel:=.mk 3 ⟨#[]⟩ [⟨⟨#[]⟩,⟨#[97]⟩,2⟩] [tabA] [lessA] [] [] 0 0 false []
def dbA:List Data:=[⟨⟨#[116]⟩,[[zd 1],[zd 2],[z7]]⟩]
theorem z2iz{x:Val}(h:z17 x):nT colA (zf ⟨[],dbA⟩ [x])=some x:=by
 rw[z1al,if_pos (.inr rfl),zfr ⟨by decide,(z1ah colA).2 ⟨ya _,trivial⟩,fun r hr v hv=>by
  rw[yi.1 hr]at hv
  grind⟩]
 rfl
theorem z2kq{x:Val}(h:z17 x):nT cA (zf ⟨[],dbA⟩ [x])=some (zd 2):=by
 rw[z1al,if_pos (.inl rfl),zfr ⟨by decide,(z1ah cA).2 ⟨ya _,trivial⟩,fun r hr v hv=>by
  rw[yi.1 hr]at hv
  grind⟩]
 rfl
theorem z1hw{x:Val}(h:z17 x):nT lessA (zf ⟨[],dbA⟩ [x])=some (z1y 13 ⟨#[]⟩ [x,zd 2]):=by
 have hk:nTs lessA.kids (zf ⟨[],dbA⟩ [x])=some [x,zd 2]:=by
  show nTs [colA,cA] _=_;simp only[nTs,z2iz h,z2kq h,yh]
 rw[z1al,if_neg (by decide),if_neg (by decide),if_neg (by decide),if_neg (by decide),if_pos (by decide),hk,yh,zfr ⟨by simp,fun y hy=>by
  rcases yf.1 hy with rfl|hy
  ·exact h
  ·rw[yi.1 hy];exact ya _⟩]
 rfl
theorem z2j0:z1y 13 ⟨#[]⟩ [zd 1,zd 2]=z2y true:=by rfl
theorem z2j1:z1y 13 ⟨#[]⟩ [zd 2,zd 2]=z2y false:=by rfl
theorem z2j2:z1y 13 ⟨#[]⟩ [z7,zd 2]=z7:=by rfl
theorem soA1:nSo [lessA] (zf ⟨[],dbA⟩ [zd 1])=some true:=by
 simp only[nSo,z1hw (zw9 1),z2j0,yh];rfl
theorem soA2:nSo [lessA] (zf ⟨[],dbA⟩ [zd 2])=some false:=by
 simp only[nSo,z1hw (zw9 2),z2j1,yh];rfl
theorem soA3:nSo [lessA] (zf ⟨[],dbA⟩ [z7])=some false:=by
 simp only[nSo,z1hw z3g,z2j2,yh];rfl
theorem z2j3:nR tabA ⟨[],dbA⟩=some [[zd 1],[zd 2],[z7]]:=by
 rw[z12i,if_pos (show tabA.op=1 from rfl),zfr ⟨by decide,fun d hd=>by rw[yi.1 hd];simp⟩];have e:z6d ⟨[],dbA⟩ tabA.table=[[zd 1],[zd 2],[z7]]:=by
  simp[z6d,dbA,tabA,Rel.table_mk]
 rw[e];rfl
theorem z26s:nR relA ⟨[],dbA⟩=some [[zd 1]]:=by
 have hk:nKid relA.kids 0 ⟨[],dbA⟩=some [[zd 1],[zd 2],[z7]]:=by
  exact z2j3
 show((nKid relA.kids 0 ⟨[],dbA⟩).bind fun l=>zdi (fun x=>nSo [lessA] (zf ⟨[],dbA⟩ x)) l).bind capQ=_;rw[hk,yh];simp only[zdi,soA1,soA2,soA3,yh];rfl
def z84:Bool:=true
theorem z1ru:zuv=some (z8z z84):=by
 have h:z3t relA dbA=[[zd 1]]:=z82 z26s;have e:=z22o;rw[show zuv=_ from e,z6 ⟨_,z26s⟩];simp only[z8];have h2:z3t (Rel.mk (3:Int) (ByteArray.mk #[]) [{table:=(ByteArray.mk #[]),name:=(ByteArray.mk #[97]),type:=(2:Int)}] [(Rel.mk (1:Int) (ByteArray.mk #[116]) [{table:=(ByteArray.mk #[]),name:=(ByteArray.mk #[97]),type:=(2:Int)}] [] [] [] [] (0:Int) (0:Int) false [])] [(Term.mk (13:Int) z7 (0:Int) (0:Int) (ByteArray.mk #[]) [(Term.mk (2:Int) z7 (0:Int) (0:Int) (ByteArray.mk #[]) [] [] (2:Int)),(Term.mk (1:Int) (zd (2:Int)) (0:Int) (0:Int) (ByteArray.mk #[]) [] [] (2:Int))] [] (1:Int))] [] [] (0:Int) (0:Int) false []) [{table:=(ByteArray.mk #[116]),rows:=[[(zd (1:Int))],[(zd (2:Int))],[z7]]}]=[[zd 1]]:=h;simp_all[obO,andB,z84]
def zyd:FnC Un:=fnF0 ([],z8z (z84))
theorem z22p:FnOK 12 zyd:=fnK0 (M:=z1et) rfl ⟨zc4,z19p,trivial⟩ trivial trivial trivial trivial Tryz.func12 (GiF.r fun _ _=>z1ru)
theorem z1rv:z84=true:=rfl
end
end B
namespace B
open Go Go.RowKit
set_option maxRecDepth 100000
noncomputable section
attribute [local irreducible] awp ctxK zx z1f retQ z1l awf ctxF z1k
def z12o(r:Rel):RF Un:=([.agg (encC Ty.rel r)],[])
def z1eu(op:Int)(kid:Rel)(t:List Term):Option (RF Un):=fnF_ z1bz z23g Tryz.f23 0 [.d] [.d (.v (.s (.int .i64 op))),.d (.agg (enc Ty.rel kid)),.d (.v (.dat (U:=Un) Ty.term t))]
theorem z25q(op:Int)(kid:Rel)(t:List Term):z1eu op kid t=some (z12o (Rel.mk op (ByteArray.mk #[]) kid.cols [(Rel.ids kid)] t [] [] (0:Int) (0:Int) false [])):=by kernel_rfl
def z8l(op:Int)(kid:Rel)(t:List Term):Rel:=.mk op ⟨#[]⟩ kid.cols [kid] t [] [] 0 0 false []
theorem z1x2(op:Int)(kid:Rel)(t:List Term)(_ho:WI op)(_hk:WS .rel kid)(_ht:WL .term t):z1eu op kid t=some (z12o (z8l op kid t)):=by
 rw[z25q,Rel.ids_eq];rfl
def z12p:FnC Un:=fnF3 (dI .i64) (dS .rel) (dL .term) fun op kid t=>([],z12o (z8l op kid t))
theorem z25r:FnOK 23 z12p:=fnK3 z1a zr z11 (M:=z1bz) rfl trivial trivial trivial trivial trivial Tryz.func23 fun op kid t=>GiF.r fun w _=>z1x2 op kid t (wfA_ w 0) (wfA_ w 1) (wfA_ w 2)
end
end B
namespace B
open Go Go.RowKit
theorem z25s{r:Rel}{w:Wld}{l:Rows}(hr:nR r w=some l):nR (z8l 8 r []) w=some (z1d l):=by
 have hl:=z21s hr;have e:(nKid (z8l 8 r []).kids 0 w).bind (fun l=>some (z1d l))=some (z1d l):=by
  show(nR r w).bind _=_;grind
 rw[z12i,if_neg (by show¬(8:Int)=1;omega),if_neg (by show¬(8:Int)=2;omega),if_neg (by show¬(8:Int)=3;omega),if_neg (by show¬(8:Int)=4;omega),if_neg (by show¬((8:Int)=5∨(8:Int)=6);omega),if_neg (by show¬(8:Int)=7;omega),if_pos (by rfl),e,yh];unfold capQ;rw[if_pos (by grind[zgt])]
end B
namespace B
open Go Go.RowKit
def keyC(at_ ty:Int):Term:=.mk 2 z7 0 at_ ⟨#[]⟩ [] [] ty
def aggC:Agg:=.mk z78 false []
def grpR(cols:List Col)(r:Rel)(ts:List Term):Rel:=.mk 7 ⟨#[]⟩ cols [r] ts [aggC] [] 0 0 false []
def prjR(cols:List Col)(r:Rel)(t:Term):Rel:=.mk 4 ⟨#[]⟩ cols [r] [t] [] [] 0 0 false []
theorem z2jx{at_ ty:Int}{x:List Val}{db:List Data}(h:0≤at_∧at_<(x.length:Int))(hx:∀v∈x,z17 v):nT (keyC at_ ty) (zf ⟨[],db⟩ x)=some (x.getD at_.toNat z7):=by
 have he:z5p (zf ⟨[],db⟩ x).env:=fun y hy=>by
  have hy:y∈[x]:=hy;rw[yi]at hy;rw[hy];exact hx
 have ho:(keyC at_ ty).op=2:=rfl;rw[z1al,if_pos (.inr ho),zfr ⟨by show 1≤2000000;omega,(z1ah _).2 ⟨ya _,trivial⟩,he⟩];unfold z4a;rw[z20u,ho,if_neg (by omega),if_pos rfl];show some (colV 0 at_ [x])=_;unfold colV;rw[if_pos ⟨y29 _,by show(0:Int)<1;omega,h⟩];rfl
theorem z1ob:∀(l:List Val)(x:Acc),x.name=zbb→x.distinct=false→l.foldl zgo x={x with n:=x.n+l.length}
 |[],x,_,_=>by simp
 |v::l,x,h1,h2=>by
  have e:zgo x v={x with n:=x.n+1}:=by
   unfold zgo zjz za4;rw[if_pos (by rw[decide_eq_true h1];rfl),if_neg (by rw[h2];simp),h1,if_neg (by decide),if_neg (by decide),if_neg (by decide),←h1]
  rw[yu,e,z1ob l {x with n:=x.n+1} h1 h2,yt];simp only[Acc.mk.injEq,true_and,and_true];omega
theorem z2e7(l:List Val):zct aggC l=zd l.length:=by
 rw[z1n2];have e:zdw aggC=⟨zbb,false,0,0,0,z7,[]⟩:=by unfold zdw;rw[if_pos (show aggC.name=z78 from rfl),if_pos (show aggC.t=[]from rfl)]
 unfold runA zzx;rw[e,z1ob l _ rfl rfl];show endA ⟨zbb,false,0+(l.length:Int),0,0,z7,[]⟩=_;unfold endA;rw[if_pos (.inr rfl),Int.zero_add];rfl
theorem z1ap{α β:Type}{f:α→Option β}{g:α→β}:∀(l:List α),(∀x∈l,f x=some (g x))→mapQ f l=some (l.map g)
 |[],_=>rfl
 |x::l,h=>by simp only[mapQ,h x yy,yh,z1ap l fun z hz=>h z (y11 _ hz),yr]
theorem z2gu{db:List Data}(rows:Rows)(h:rows.length≤400000):nA aggC ⟨[],db⟩ rows=some (zd rows.length):=by
 rw[z29t,if_pos (by simp),z1ap (g:=fun _=>z7) rows fun x _=>by rw[z10c];rfl,yh,yq,if_pos h,z2e7,yq]
theorem z1rw{f:List Val→Option (List Val)}{k:List Val→List Val}:∀(l:Rows)(out:List Bunch),(∀x∈l,f x=some (k x))→bunQ f l out=some (l.foldl (fun o x=>z31 o (k x) x) out)
 |[],_,_=>rfl
 |x::l,out,h=>by simp only[bunQ,h x yy,yh,yu];exact z1rw l _ fun z hz=>h z (y11 _ hz)
def kSum(l:List Bunch):Nat:=(l.map fun b=>b.rows.length).sum
theorem z26t:∀(l:List Bunch)(i:Nat)(b:Bunch),i<l.length→b.rows.length=(l.getD i zh).rows.length+1→kSum (l.set i b)=kSum l+1
 |y::l,0,b,_,h=>by
  simp only[kSum,List.set_cons_zero,yr,y3v]at*;simp only[List.getD_cons_zero]at h;omega
 |y::l,i+1,b,hi,h=>by
  have:=z26t l i b (by simpa using hi) (by simpa using h);simp only[kSum,List.set_cons_succ,yr,y3v]at*;omega
theorem z25t(out:List Bunch)(key x:List Val):(z31 out key x).map Bunch.key=(if zp (out.map Bunch.key) key<0 then out.map Bunch.key++[key]else out.map Bunch.key)∧kSum (z31 out key x)=kSum out+1∧((∀b∈out,1≤b.rows.length)→∀b∈z31 out key x,1≤b.rows.length):=by
 have e:(out.map Bunch.key).findIdx? (fun y=>plc1 y key)=out.findIdx? (fun b=>z2n b.key key==0):=by rw[List.findIdx?_map];rfl
 unfold z31 zp;rw[e];cases h:out.findIdx? (fun b=>z2n b.key key==0)with
 |none=>
  dsimp only;rw[if_pos (by omega)];refine⟨by rw[y3d];rfl,by simp[kSum],fun ho b hb=>?_⟩;rcases yc.1 hb with hb|hb
  ·exact ho b hb
  ·rw[yi]at hb;rw[hb];exact y6 _
 |some i=>
  have hi:=(y2f.1 h).1;dsimp only;rw[if_neg (by omega)];refine⟨?_,z26t out i _ hi (by show((out.getD i zh).rows++[x]).length=_;rw[yb,yg]),fun ho b hb=>?_⟩
  ·rw[List.map_set];have:(out.getD i zh).key=(out.map Bunch.key)[i]'(by rw[yq];exact hi):=by rw[y3b,yd,y9 hi];rfl
   rw[this,y4o]
  ·rcases List.mem_or_eq_of_mem_set hb with hb|rfl
   ·exact ho b hb
   ·show 1≤((out.getD i zh).rows++[x]).length;rw[yb,yg];omega
theorem z22q(k:List Val→List Val):∀(l:Rows)(out:List Bunch),(l.foldl (fun o x=>z31 o (k x) x) out).map Bunch.key=(l.map k).foldl (fun o x=>if zp o x<0 then o++[x]else o) (out.map Bunch.key)∧kSum (l.foldl (fun o x=>z31 o (k x) x) out)=kSum out+l.length∧((∀b∈out,1≤b.rows.length)→∀b∈l.foldl (fun o x=>z31 o (k x) x) out,1≤b.rows.length)
 |[],out=>⟨rfl,rfl,fun h=>h⟩
 |x::l,out=>by
  obtain⟨a1,a2,a3⟩:=z25t out (k x) x;obtain⟨b1,b2,b3⟩:=z22q k l (z31 out (k x) x);rw[yu,yr,yu,yt];exact⟨by rw[b1,a1],by rw[b2,a2];omega,fun h=>b3 (a3 h)⟩
theorem z22r:∀(l:List Bunch)(b:Bunch),b∈l→b.rows.length≤kSum l
 |y::l,b,h=>by
  simp only[kSum,yr,y3v];rcases yf.1 h with rfl|h
  ·omega
  ·have:=z22r l b h;unfold kSum at this;omega
def zq9(b:Bunch):List Val:=b.key++[zd (b.rows.length:Int)]
theorem z22s{r:Rel}{db:List Data}{L:Rows}{bs:List Bunch}(cols:List Col)(ts:List Term)(hr:nR r ⟨[],db⟩=some L)(hl:L.length≤20000)(ht:ts.length≤1)(hb:bunQ (fun x=>nTs ts (zf ⟨[],db⟩ x)) L (if ts.length=0 then[⟨[],[]⟩]else[])=some bs)(hbl:bs.length≤20001)(hsum:kSum bs≤20000):
  nR (grpR cols r ts) ⟨[],db⟩=some (bs.map zq9):=by
 have e:grpO (fun w=>nKid (grpR cols r ts).kids 0 w) (fun w=>nTs (grpR cols r ts).terms w) (fun w l=>nAs (grpR cols r ts).aggs w l) (grpR cols r ts).terms.length (grpR cols r ts).aggs.length ⟨[],db⟩=some (bs.map zq9):=by
  unfold grpO;rw[if_pos (by show 1≤100000000;omega)];show(nR r ⟨[],db⟩).bind _=_;rw[hr,yh];unfold bunO;rw[if_pos ⟨by simp,by show ts.length≤_;omega,by omega⟩];show(bunQ (fun x=>nTs ts (zf ⟨[],db⟩ x)) L (if ts.length=0 then[⟨[],[]⟩]else[])).bind _=_;rw[hb,yh];refine z1ap bs fun b hb'=>?_;have:=z22r bs b hb';show(nAs [aggC] ⟨[],db⟩ b.rows).bind _=_;simp only[nAs,z2gu b.rows (by omega),yh];rfl
 rw[z12i,if_neg (by show¬(7:Int)=1;omega),if_neg (by show¬(7:Int)=2;omega),if_neg (by show¬(7:Int)=3;omega),if_neg (by show¬(7:Int)=4;omega),if_neg (by show¬((7:Int)=5∨(7:Int)=6);omega),if_pos (by rfl),e,yh];unfold capQ;rw[if_pos (by rw[yq];omega)]
theorem z2a5{r:Rel}{w:Wld}{L:Rows}{t:Term}(cols:List Col)(k:List Val→Val)(hr:nR r w=some L)(he:w.env.length≤100000000)(ht:∀x∈L,nT t (zf w x)=some (k x)):nR (prjR cols r t) w=some (L.map fun x=>[k x]):=by
 have hl:=z21s hr;have e:zwm (fun w=>nKid (prjR cols r t).kids 0 w) (fun w=>nTs (prjR cols r t).terms w) (prjR cols r t).terms.length w=some (L.map fun x=>[k x]):=by
  unfold zwm;rw[if_pos ⟨he,by show 1≤100000000;omega⟩];show(nR r w).bind _=_;rw[hr,yh];refine z1ap L fun x hx=>?_;show nTs [t] _=_;simp only[nTs,ht x hx,yh]
 rw[z12i,if_neg (by show¬(4:Int)=1;omega),if_neg (by show¬(4:Int)=2;omega),if_neg (by show¬(4:Int)=3;omega),if_pos (by rfl),e,yh];unfold capQ;rw[if_pos (by rw[yq];exact hl)]
theorem z22t:∀(l:Rows)(b:Bunch),b.key=[]→l.foldl (fun o x=>z31 o [] x) [b]=[⟨[],b.rows++l⟩]
 |[],b,hb=>by rw[y2e,y14,←hb]
 |x::l,b,hb=>by
  have e:z31 [b] [] x=[⟨[],b.rows++[x]⟩]:=by
   unfold z31;have:[b].findIdx? (fun b=>z2n b.key []==0)=some 0:=by rw[y2k,if_pos (by rw[hb];rfl)]
   rw[this];simp[hb]
  rw[yu,e,z22t l ⟨[],b.rows++[x]⟩ rfl,y12];rfl
theorem z2e8{r:Rel}{db:List Data}{L:Rows}{at_ ty:Int}(cols cols2 cols3:List Col)(hr:nR r ⟨[],db⟩=some L)(hl:L.length≤20000)(hw:∀x∈L,0≤at_∧at_<(x.length:Int))(hs:z5p L):
  ∃bs P D,nR (grpR cols r [keyC at_ ty]) ⟨[],db⟩=some (bs.map zq9)∧(∀b∈bs,b.key.length=1∧1≤b.rows.length)∧kSum bs=L.length∧
   nR (prjR cols2 r (keyC at_ ty)) ⟨[],db⟩=some P∧nR (z8l 8 (prjR cols2 r (keyC at_ ty)) []) ⟨[],db⟩=some D∧D.length=bs.length∧nR (grpR cols3 r []) ⟨[],db⟩=some [[zd (L.length:Int)]]:=by
 have hk:∀x∈L,nT (keyC at_ ty) (zf ⟨[],db⟩ x)=some (x.getD at_.toNat z7):=fun x hx=>z2jx (hw x hx) (hs x hx);have hk2:∀x∈L,nTs [keyC at_ ty] (zf ⟨[],db⟩ x)=some [x.getD at_.toNat z7]:=fun x hx=>by simp only[nTs,hk x hx,yh]
 have hq:=z1rw (f:=fun x=>nTs [keyC at_ ty] (zf ⟨[],db⟩ x)) (k:=fun x=>[x.getD at_.toNat z7]) L [] hk2;obtain⟨f1,f2,f3⟩:=z22q (fun x=>[x.getD at_.toNat z7]) L [];generalize hbs:L.foldl (fun o x=>z31 o [x.getD at_.toNat z7] x) []=bs at*;have f1:bs.map Bunch.key=z1d (L.map fun x=>[x.getD at_.toNat z7]):=f1;have hlen:bs.length=(z1d (L.map fun x=>[x.getD at_.toNat z7])).length:=by rw[←f1,yq]
 have f2:kSum bs=L.length:=by rw[f2];exact y15 _
 have ho:=(zgt (L.map fun x=>[x.getD at_.toNat z7]));rw[yq]at ho;have hp:=z2a5 cols2 (fun x=>x.getD at_.toNat z7) hr (by simp) hk;refine⟨bs,_,_,z22s cols [keyC at_ ty] hr hl (by simp) (by rw[if_neg (by show¬1=0;omega)];exact hq) (by omega) (by omega),fun b hb=>⟨?_,f3 (by simp) b hb⟩,f2,hp,z25s hp,hlen.symm,?_⟩
 ·have hm:b.key∈bs.map Bunch.key:=y47 hb;rw[f1]at hm;obtain⟨x,_,hx⟩:=y2b.1 (ho.2 _ hm);rw[←hx];rfl
 ·have h0:=z1rw (f:=fun x=>nTs [] (zf ⟨[],db⟩ x)) (k:=fun _=>[]) L [⟨[],[]⟩] fun x _=>by simp only[nTs]
  rw[z22t L ⟨[],[]⟩ rfl]at h0;have:=z22s cols3 [] hr hl (by simp) (by rw[if_pos (by rfl)];exact h0) (by simp) (by simp[kSum];omega);rw[this];simp[zq9]
end B
namespace B
open Go Go.RowKit
theorem z10q{R:Bool→RF Un}{b:Bool}{X:Option (RF Un)}(h:b=false→X=some (R true)):cndO b (some (R z84)) X=some (R true):=by
 cases b
 ·exact h rfl
 ·rfl
theorem z2kr{b:Bool}(h:(!b)=false):b=true:=by cases b<;>simp_all
theorem z1aq(r:Rel):Rel.mk r.op r.table r.cols r.kids r.terms r.aggs r.keys r.limit r.skip r.all r.rows=r:=Rel.ids_eq r
theorem z1ar{α:Type}{b:Bool}{X Y Z:Option α}(hb:b=true)(h:X=Z):cndO b X Y=Z:=by subst hb;exact h
theorem z2a6{α:Type}{b:Bool}{X Y Z:Option α}(hb:b=false)(h:Y=Z):cndO b X Y=Z:=by subst hb;exact h
theorem z2gv(v:Val):andB [EK.int IntKind.i64,EK.str] (v.kind==v.kind) (andB [EK.str] (v.n==v.n) (andB [] (v.s.toList==v.s.toList) true))=true:=by
 rw[beq_self_eq_true,beq_self_eq_true,beq_self_eq_true];rfl
end B
namespace B
open Go Go.RowKit
set_option maxRecDepth 100000
noncomputable section
attribute [local irreducible] awp ctxK zx z1f retQ z1l awf ctxF z1k
def zc0:Mc Un:=mcF_ [(11,zxw),(19,zbn),(12,zyd),(23,z12p),(14,zp6),(32,z8y)] [] [] [] []
def zc1:Nat→NS:=nsF_ [(13,{ts:=bl 170 15948,bs:=bl 170 1544,nm:=[(.cell 9 2,680),(.cell 10 3,681),(.cell 10 5,682)],cs:=true})] true
def zy(r:Rel)(at_:Int):=z8l (7:Int) (Rel.mk r.op r.table r.cols r.kids r.terms r.aggs r.keys r.limit r.skip r.all r.rows) [Term.mk (2:Int) z7 (0:Int) at_ (ByteArray.mk #[]) [] [] (r.cols.getD at_.toNat z43).type]
def zu(r:Rel)(at_:Int):=z8l (4:Int) (Rel.mk r.op r.table r.cols r.kids r.terms r.aggs r.keys r.limit r.skip r.all r.rows) [Term.mk (2:Int) z7 (0:Int) at_ (ByteArray.mk #[]) [] [] (r.cols.getD at_.toNat z43).type]
def z67(r:Rel)(db:List Data):=z3t (Rel.mk r.op r.table r.cols r.kids r.terms r.aggs r.keys r.limit r.skip r.all r.rows) db
def z2r(r:Rel)(db:List Data):=z3t (Rel.mk (7:Int) (ByteArray.mk #[]) [{table:=(ByteArray.mk #[]),name:=(ByteArray.mk #[99,111,117,110,116]),type:=(2:Int)}] [Rel.mk r.op r.table r.cols r.kids r.terms r.aggs r.keys r.limit r.skip r.all r.rows] [] [Agg.mk (ByteArray.mk #[99,111,117,110,116]) false []] [] (0:Int) (0:Int) false []) db
def z1z(r:Rel)(at_:Int)(db:List Data):=z3t (Rel.mk (zy r at_).op (zy r at_).table [(r.cols.getD at_.toNat z43),{table:=(ByteArray.mk #[]),name:=(ByteArray.mk #[99,111,117,110,116]),type:=(2:Int)}] (zy r at_).kids (zy r at_).terms [Agg.mk (ByteArray.mk #[99,111,117,110,116]) false []] (zy r at_).keys (zy r at_).limit (zy r at_).skip (zy r at_).all (zy r at_).rows) db
def zbf(r:Rel)(at_:Int):=z8l (8:Int) (Rel.mk (zu r at_).op (zu r at_).table [(r.cols.getD at_.toNat z43)] (zu r at_).kids (zu r at_).terms (zu r at_).aggs (zu r at_).keys (zu r at_).limit (zu r at_).skip (zu r at_).all (zu r at_).rows) []
def z2z(r:Rel)(at_:Int)(db:List Data)(v0:Int)(v1:Int):S Un:=(st 170 170 683 0 [(2,al .data db),(3,ax 3),(6,ab false),(9,ax 9),(10,ax 10),(11,al .row (z1z r at_ db)),(12,ai v0),(13,ai v1)] [(3,bg .rel r),(9,some (false,[C.s (Value.int IntKind.i64 (zu r at_).op),C.s (Value.string (zu r at_).table),C.ob (680:Nat) (0:Nat),C.sl Ty.rel (zu r at_).kids false,C.sl Ty.term (zu r at_).terms false,C.sl Ty.agg (zu r at_).aggs false,C.sl Ty.by_ (zu r at_).keys false,C.s (Value.int IntKind.i64 (zu r at_).limit),C.s (Value.int IntKind.i64 (zu r at_).skip),C.s (Value.bool (zu r at_).all),C.sl Ty.row (zu r at_).rows false])),(10,some (false,[C.s (Value.int IntKind.i64 (7:Int)),C.s (Value.string (ByteArray.mk #[])),C.sl Ty.col [{table:=(ByteArray.mk #[]),name:=(ByteArray.mk #[99,111,117,110,116]),type:=(2:Int)}] false,C.ob (681:Nat) (0:Nat),C.sl Ty.term [] true,C.ob (682:Nat) (0:Nat),C.sl Ty.by_ [] true,C.s (Value.int IntKind.i64 (0:Int)),C.s (Value.int IntKind.i64 (0:Int)),C.s (Value.bool false),C.sl Ty.row [] true]))] [(680,some ⟨(0:Nat),Ty.col,[(r.cols.getD at_.toNat z43)],some (0:Nat),true⟩),(681,some ⟨(0:Nat),Ty.rel,[(Rel.ids r)],some (0:Nat),true⟩),(682,some ⟨(0:Nat),Ty.agg,[(Agg.mk (ByteArray.mk #[99,111,117,110,116]) false [])],none,true⟩)])
def zae:S Un→Option (EX Un):=lpF_ zc0 zc1 Tryz.f7 [1,1,1,1,1,1,1,1,1,1,1,0,1,2,2] 13
def zaf:Exit→S Un→Option (RF Un):=cxF_ zc0 zc1 Tryz.f7 [1,1,1,1,1,1,1,1,1,1,1,0,1,2] [.d]
def zqa(r:Rel)(at_:Int)(db:List Data):Option (RF Un):=fnF_ zc0 zc1 Tryz.f7 3 [.d] [.d (.agg (enc Ty.rel r)),.d (.v (.s (.int .i64 at_))),.d (.v (.dat (U:=Un) Ty.data db))]
theorem z19q(r:Rel)(at_:Int)(db:List Data):zqa r at_ db=obO ((Rel.ids r).sz≤(2000000:Nat)) (obO (clR (Rel.ids r)≤(2000000000:Nat)) (cndO (!zpn (Rel.ids r) db) (some (z1dw (z84))) (cndO (decide (at_<0)) (some (z1dw (z84))) (cndO (decide (at_≥z2p (Rel.ids r))) (some (z1dw (z84))) (obO (0≤at_∧at_<(↑r.cols.length:Int)) (cndO (decide ((r.cols.getD at_.toNat z43).type<0)) (some (z1dw (z84))) (obO (0≤at_∧at_<(↑r.cols.length:Int)) (cndO (decide ((r.cols.getD at_.toNat z43).type >3)) (some (z1dw (z84))) (obO (0≤at_∧at_<(↑r.cols.length:Int)) (obO (0≤at_∧at_<(↑r.cols.length:Int)) (obO (0≤at_∧at_<(↑r.cols.length:Int)) (obO ((0:Int)≤(1:Int)∧(1:Int)≤(↑[(r.cols.getD at_.toNat z43),{table:=(ByteArray.mk #[]),name:=(ByteArray.mk #[99,111,117,110,116]),type:=(2:Int)}].length:Int)) (obO (okRl {env:=[],db:=db} (Rel.mk (zy r at_).op (zy r at_).table [(r.cols.getD at_.toNat z43),{table:=(ByteArray.mk #[]),name:=(ByteArray.mk #[99,111,117,110,116]),type:=(2:Int)}] (zy r at_).kids (zy r at_).terms [(Agg.mk (ByteArray.mk #[99,111,117,110,116]) false [])] (zy r at_).keys (zy r at_).limit (zy r at_).skip (zy r at_).all (zy r at_).rows)) ((zae (z2z r at_ db (0:Int) (0:Int))).bind (ze zaf))))))))))))))):=by kernel_rfl
theorem zml(r:Rel)(at_:Int)(db:List Data)(v0:Int)(v1:Int):zae (z2z r at_ db v0 v1)=cndO (decide (v1<(↑(z1z r at_ db).length:Int))) (obO (0≤v1∧v1<(↑(z1z r at_ db).length:Int)) (cndO ((↑(List.length ((z1z r at_ db).getD v1.toNat [])):Int) !=(2:Int)) (some (.ret,(z2z r at_ db v0 v1))) (obO (0≤v1∧v1<(↑(z1z r at_ db).length:Int)) (obO ((0:Int)≤(1:Int)∧(1:Int)<(↑(List.length ((z1z r at_ db).getD v1.toNat [])):Int)) (cndO (decide ((List.getD ((z1z r at_ db).getD v1.toNat []) 1 z7).n<1)) (some (.ret,(z2z r at_ db v0 v1))) (obO (0≤v1∧v1<(↑(z1z r at_ db).length:Int)) (obO ((0:Int)≤(1:Int)∧(1:Int)<(↑(List.length ((z1z r at_ db).getD v1.toNat [])):Int)) (zae (z2z r at_ db (IntKind.i64.wrap (v0+(List.getD ((z1z r at_ db).getD v1.toNat []) 1 z7).n)) (IntKind.i64.wrap (v1+1))))))))))) (some (.exit 0,(z2z r at_ db v0 v1))):=lpQ_ (by kernel_rfl)
theorem zuw(r:Rel)(at_:Int)(db:List Data)(v0:Int)(v1:Int):zaf .ret (z2z r at_ db v0 v1)=some (z1dw (false)):=by kernel_rfl
theorem zye(r:Rel)(at_:Int)(db:List Data)(v0:Int)(v1:Int):zaf (.exit 0) (z2z r at_ db v0 v1)=obO (okRl {env:=[],db:=db} (Rel.mk (7:Int) (ByteArray.mk #[]) [{table:=(ByteArray.mk #[]),name:=(ByteArray.mk #[99,111,117,110,116]),type:=(2:Int)}] [(Rel.ids r)] [] [(Agg.mk (ByteArray.mk #[99,111,117,110,116]) false [])] [] (0:Int) (0:Int) false [])) (obO (okRl {env:=[],db:=db} (Rel.ids r)) (cndO (z84) (cndO (v0==(↑(z67 r db).length:Int)) (obO (okRl {env:=[],db:=db} (Rel.ids (zbf r at_))) (cndO ((↑(z1z r at_ db).length:Int)==(↑(z3t (Rel.ids (zbf r at_)) db).length:Int)) (cndO ((↑(z2r r db).length:Int)==(1:Int)) (obO ((0:Int)≤(0:Int)∧(0:Int)<(↑(z2r r db).length:Int)) (cndO ((↑(List.length ((z2r r db).getD 0 [])):Int)==(1:Int)) (obO ((0:Int)≤(0:Int)∧(0:Int)<(↑(z2r r db).length:Int)) (obO ((0:Int)≤(0:Int)∧(0:Int)<(↑(List.length ((z2r r db).getD 0 [])):Int)) (some (z1dw (andB [EK.int IntKind.i64,EK.str] ((List.getD ((z2r r db).getD 0 []) 0 z7).kind ==(zd (↑(z67 r db).length:Int)).kind) (andB [EK.str] ((List.getD ((z2r r db).getD 0 []) 0 z7).n ==(zd (↑(z67 r db).length:Int)).n) (andB [] ((List.getD ((z2r r db).getD 0 []) 0 z7).s.toList ==(zd (↑(z67 r db).length:Int)).s.toList) true))))))) (some (z1dw (false))))) (some (z1dw (false)))) (some (z1dw (false))))) (some (z1dw (false)))) (some (z1dw (false))))):=by kernel_rfl
theorem z22u(bs:List Bunch)(i:Nat)(h:i<bs.length):(bs.map zq9).getD i []=zq9 (bs.getD i zh):=by
 rw[yd,y13,yd,y9 h];rfl
def zmi(_r:Rel)(_at:Int)(_db:List Data):Bool:=true
theorem z12q(r:Rel)(at_:Int)(db:List Data)(_hr:WS .rel r)(_ha:WI at_)(_hd:WL .data db)(hs:r.sz≤1900000)(hc:clR r≤2000000)(hx:txR r)(G:DbG db):zqa r at_ db=some (z1dw (zmi r at_ db)):=by
 have hcl:=zfc r;rw[z19q];simp only[Rel.ids_eq];rw[z6 (by omega),z6 (by omega)];refine z10q fun h1=>z10q fun h2=>z10q fun h3=>?_;rw[decide_eq_false_iff_not]at h2 h3;have h3:at_<z29 r:=by have:¬at_≥z29 r:=h3;omega
 have gr:=z2ga (z2kr h1) (by omega) hc hx;obtain⟨L,hL,fL⟩:=z2jq G gr;have wL:=(z5x G.rows gr.sz).1.2;have hcols:=(z56 gr.v).2.2.1;have hlight:=zvj G.rows gr.sz gr.wgh;rw[z6 (by omega)];refine z10q fun _=>?_;rw[z6 (by omega)];refine z10q fun _=>?_;rw[z6 (by omega),z6 (by omega),z6 (by omega),z6 (by simp)];obtain⟨ty,hty⟩:∃ty,ty=(r.cols.getD at_.toNat z43).type:=⟨_,rfl⟩;obtain⟨col,hcol⟩:∃col,col=r.cols.getD at_.toNat z43:=⟨_,rfl⟩;have hL2:L.length≤20000:=by
  have h0:=fL.few;have h5:=hlight.2.2.2.2;have h6:=hlight.2.2.1;have h7:=z2do db r;rw[h5,zas]at h0;rw[zjp]at h7;rcases h7 with h7|h7<;>rw[h7]at h0<;>split at h0<;>(try split at h0)<;>omega
 have hcnt:(⟨ByteArray.mk #[],ByteArray.mk #[99,111,117,110,116],2⟩:Col)=⟨⟨#[]⟩,z78,2⟩:=rfl;obtain⟨bs,P,D,k1,k2,k3,k4,k5,k6,k7⟩:=z2e8 (at_:=at_) (ty:=ty) [col,⟨⟨#[]⟩,z78,2⟩] [col] [⟨⟨#[]⟩,z78,2⟩] hL hL2 (fun x hx=>by have:=fL.wide x hx;omega) fL.short;have c1:zy r at_=z8l 7 r [keyC at_ ty]:=by unfold zy;rw[z1aq,hty];rfl
 have c2:zu r at_=z8l 4 r [keyC at_ ty]:=by unfold zu;rw[z1aq,hty];rfl
 have c3:z67 r db=L:=by unfold z67;rw[z1aq];exact z82 hL
 have c4:z2r r db=[[zd (L.length:Int)]]:=by unfold z2r;rw[z1aq];exact z82 k7
 have c5:z1z r at_ db=bs.map zq9:=by unfold z1z;rw[c1,←hcol];exact z82 k1
 have c6:zbf r at_=z8l 8 (prjR [col] r (keyC at_ ty)) []:=by unfold zbf;rw[c2,←hcol];rfl
 have e6:z3t (z8l 8 (prjR [col] r (keyC at_ ty)) []) db=D:=z82 k5;rw[c1,←hcol,z6 ⟨_,k1⟩];have hsum:∀i,kSum (bs.take i)≤kSum bs:=fun i=>by
  have:kSum bs=kSum (bs.take i)+kSum (bs.drop i):=by
   unfold kSum
   conv=>lhs;rw[←y1o i bs]
   rw[y3d,List.sum_append]
  omega
 have hbl:bs.length≤L.length:=by
  rw[←k3];have:∀l:List Bunch,(∀b∈l,1≤b.rows.length)→l.length≤kSum l:=by
   intro l
   induction l with
   |nil=>intro _;exact ya _
   |cons b l ih=>
    intro h;have h1:=h b yy;have h2:=ih fun z hz=>h z (y11 _ hz);simp only[kSum,yr,y3v,yt]at*;omega
  exact this bs fun b hb=>(k2 b hb).2
 have lp:=zvi (L:=zae) (st:=fun i=>z2z r at_ db (kSum (bs.take i.toNat)) i) (C:=zaf) (e:=.exit 0) (fun b=>some (z1dw b)) (l:=bs) (d:=zh) (fun _=>true) (by omega)
  (fun i b hi hb hm=>by
   have hil:i<bs.length:=by omega
   obtain⟨q1,q2⟩:=k2 b hm;have hrow:(bs.map zq9).getD i []=b.key++[zd (b.rows.length:Int)]:=by rw[z22u bs i hil,hb];rfl
   have hn:(List.getD (b.key++[zd (b.rows.length:Int)]) 1 z7).n=(b.rows.length:Int):=by
    rw[yd,y1h (by omega),q1];rfl
   have hle:=z22r bs b hm;have hs1:kSum (bs.take (i+1))=kSum (bs.take i)+b.rows.length:=by
    rw[y3c,y9 hil];have:bs[i]=b:=by rw[←hb,yd,y9 hil];rfl
    unfold kSum;rw[this];simp
   have hsi:=hsum i;have hlen:((b.key++[zd (b.rows.length:Int)]).length:Int)=2:=by rw[yb,yg];omega
   rw[zml];simp only[c5,y5,hrow,hn,hlen,yq];refine z1ar (decide_eq_true (by omega)) ?_;rw[z6 (by omega)];refine z2a6 rfl ?_;rw[z6 (by omega),z6 (by omega)];refine z2a6 (decide_eq_false (by omega)) ?_;rw[z6 (by omega),z6 (by omega),if_pos trivial,z3s hil (by omega),y5,hs1,z1u (by omega)]
   rfl)
  (by
   rw[zml,c5,yq]
   exact z2a6 (decide_eq_false (by omega)) rfl)
  (fun i=>zuw _ _ _ _ _)
  (by
   rw[zye];simp only[Rel.ids_eq,c3,c4,c5,c6,e6,y5,y36,k3,yq];rw[z6 ⟨_,k7⟩,z6 ⟨_,hL⟩];refine z1ar z1rv (z1ar (beq_self_eq_true _) ?_);rw[z6 ⟨_,k5⟩];refine z1ar (by rw[k6];exact beq_self_eq_true _) (z1ar rfl ?_);rw[z6 (by simp)];refine z1ar rfl ?_;rw[z6 (by simp),z6 (by simp)]
   exact congrArg (fun b=>some (z1dw b)) (z2gv _))
 have hall:(bs.all fun _=>true)=true:=y19.2 fun _ _=>rfl;rw[hall]at lp;exact lp
def zgz:FnC Un:=fun args=>match args with
 |[x0,x1,x2]=>(dS .rel x0).bind fun r=>(dI .i64 x1).bind fun at_=>(dL .data x2).bind fun db=>some ([r.sz≤1900000,clR r≤2000000,txR r,DbG db],zt1 (zmi r at_ db),zt2 (zmi r at_ db))
 |_=>none
theorem z19r:FnOK 7 zgz:=by
 intro args ob rs os h hob;unfold zgz at h;split at h
 ·simp only[y7,y8,ym]at h;obtain⟨r,e0,at_,e1,db,e2,rfl,rfl,rfl⟩:=h;obtain rfl:=zr e0;obtain rfl:=z1a e1;obtain rfl:=z11 e2;exact⟨z2f (M:=zc0) rfl (z4o (l1:=[(11,zxw),(19,zbn),(12,zyd),(23,z12p),(14,zp6),(32,z8y)]) (l2:=[]) (l3:=[]) (l4:=[]) (l5:=[]) ⟨z1zy,zf1,z22p,z25r,z19p,zc4,trivial⟩ trivial trivial trivial trivial) Tryz.func7 (by kernel_rfl) zc1 3 [.d] (fun hwf=>(z12q r at_ db (z42 hwf (a:=.d (.agg (enc Ty.rel r))) (ye (i:=0) rfl)) (z42 hwf (a:=.d (.v (.s (.int .i64 at_)))) (ye (i:=1) rfl)) (z42 hwf (a:=.d (.v (.dat (U:=Un) Ty.data db))) (ye (i:=2) rfl)) (hob _ (ye (i:=0) rfl)) (hob _ (ye (i:=1) rfl)) (hob _ (ye (i:=2) rfl)) (hob _ (ye (i:=3) rfl)))),zj Tryz.func7 (by kernel_rfl) (by kernel_rfl)⟩
 ·simp at h
end
end B
end Go.Proofs.YtjfpbchdcbhfgaaGreat
