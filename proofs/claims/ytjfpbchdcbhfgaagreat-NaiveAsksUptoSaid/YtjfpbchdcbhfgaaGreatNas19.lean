/- Part 19 of the proof: Slaw20a Lnask Lnaw Slaw20e. -/
import Derived.Test.YtjfpbchdcbhfgaaGreatNas18
set_option linter.unusedVariables false
set_option linter.unusedSimpArgs false
namespace Go.Proofs.YtjfpbchdcbhfgaaGreat
namespace B
open Go Go.RowKit
set_option maxRecDepth 100000
noncomputable section
attribute [local irreducible] awp ctxK zx z1d retQ z1o awf ctxF z1l
def z1ez : Mc Un:=mcF_ [(32,zdx),(14,zp9)] [] [] [] []
def zuv : Option (RF Un):=fnF_ z1ez z23e Tryz.f12 0 [.d] []
theorem z22q : zuv=obO (okRl { env:=[],db:=[{ table:=(ByteArray.mk #[116]),rows:=[[(zd (1:Int))],[(zd (2:Int))],[zeroVal]] }] } (Rel.mk (3:Int) (ByteArray.mk #[]) [{ table:=(ByteArray.mk #[]),name:=(ByteArray.mk #[97]),type:=(2:Int) }] [(Rel.mk (1:Int) (ByteArray.mk #[116]) [{ table:=(ByteArray.mk #[]),name:=(ByteArray.mk #[97]),type:=(2:Int) }] [] [] [] [] (0:Int) (0:Int) false [])] [(Term.mk (13:Int) zeroVal (0:Int) (0:Int) (ByteArray.mk #[]) [(Term.mk (2:Int) zeroVal (0:Int) (0:Int) (ByteArray.mk #[]) [] [] (2:Int)),(Term.mk (1:Int) (zd (2:Int)) (0:Int) (0:Int) (ByteArray.mk #[]) [] [] (2:Int))] [] (1:Int))] [] [] (0:Int) (0:Int) false [])) (cndO ((↑(z66 (Rel.mk (3:Int) (ByteArray.mk #[]) [{ table:=(ByteArray.mk #[]),name:=(ByteArray.mk #[97]),type:=(2:Int) }] [(Rel.mk (1:Int) (ByteArray.mk #[116]) [{ table:=(ByteArray.mk #[]),name:=(ByteArray.mk #[97]),type:=(2:Int) }] [] [] [] [] (0:Int) (0:Int) false [])] [(Term.mk (13:Int) zeroVal (0:Int) (0:Int) (ByteArray.mk #[]) [(Term.mk (2:Int) zeroVal (0:Int) (0:Int) (ByteArray.mk #[]) [] [] (2:Int)),(Term.mk (1:Int) (zd (2:Int)) (0:Int) (0:Int) (ByteArray.mk #[]) [] [] (2:Int))] [] (1:Int))] [] [] (0:Int) (0:Int) false []) [{ table:=(ByteArray.mk #[116]),rows:=[[(zd (1:Int))],[(zd (2:Int))],[zeroVal]] }]).length:Int) == (1:Int)) (obO ((0:Int)≤(0:Int)∧(0:Int)<(↑(z66 (Rel.mk (3:Int) (ByteArray.mk #[]) [{ table:=(ByteArray.mk #[]),name:=(ByteArray.mk #[97]),type:=(2:Int) }] [(Rel.mk (1:Int) (ByteArray.mk #[116]) [{ table:=(ByteArray.mk #[]),name:=(ByteArray.mk #[97]),type:=(2:Int) }] [] [] [] [] (0:Int) (0:Int) false [])] [(Term.mk (13:Int) zeroVal (0:Int) (0:Int) (ByteArray.mk #[]) [(Term.mk (2:Int) zeroVal (0:Int) (0:Int) (ByteArray.mk #[]) [] [] (2:Int)),(Term.mk (1:Int) (zd (2:Int)) (0:Int) (0:Int) (ByteArray.mk #[]) [] [] (2:Int))] [] (1:Int))] [] [] (0:Int) (0:Int) false []) [{ table:=(ByteArray.mk #[116]),rows:=[[(zd (1:Int))],[(zd (2:Int))],[zeroVal]] }]).length:Int)) (cndO ((↑(List.length ((z66 (Rel.mk (3:Int) (ByteArray.mk #[]) [{ table:=(ByteArray.mk #[]),name:=(ByteArray.mk #[97]),type:=(2:Int) }] [(Rel.mk (1:Int) (ByteArray.mk #[116]) [{ table:=(ByteArray.mk #[]),name:=(ByteArray.mk #[97]),type:=(2:Int) }] [] [] [] [] (0:Int) (0:Int) false [])] [(Term.mk (13:Int) zeroVal (0:Int) (0:Int) (ByteArray.mk #[]) [(Term.mk (2:Int) zeroVal (0:Int) (0:Int) (ByteArray.mk #[]) [] [] (2:Int)),(Term.mk (1:Int) (zd (2:Int)) (0:Int) (0:Int) (ByteArray.mk #[]) [] [] (2:Int))] [] (1:Int))] [] [] (0:Int) (0:Int) false []) [{ table:=(ByteArray.mk #[116]),rows:=[[(zd (1:Int))],[(zd (2:Int))],[zeroVal]] }]).getD 0 [])):Int) == (1:Int)) (obO ((0:Int)≤(0:Int)∧(0:Int)<(↑(z66 (Rel.mk (3:Int) (ByteArray.mk #[]) [{ table:=(ByteArray.mk #[]),name:=(ByteArray.mk #[97]),type:=(2:Int) }] [(Rel.mk (1:Int) (ByteArray.mk #[116]) [{ table:=(ByteArray.mk #[]),name:=(ByteArray.mk #[97]),type:=(2:Int) }] [] [] [] [] (0:Int) (0:Int) false [])] [(Term.mk (13:Int) zeroVal (0:Int) (0:Int) (ByteArray.mk #[]) [(Term.mk (2:Int) zeroVal (0:Int) (0:Int) (ByteArray.mk #[]) [] [] (2:Int)),(Term.mk (1:Int) (zd (2:Int)) (0:Int) (0:Int) (ByteArray.mk #[]) [] [] (2:Int))] [] (1:Int))] [] [] (0:Int) (0:Int) false []) [{ table:=(ByteArray.mk #[116]),rows:=[[(zd (1:Int))],[(zd (2:Int))],[zeroVal]] }]).length:Int)) (obO ((0:Int)≤(0:Int)∧(0:Int)<(↑(List.length ((z66 (Rel.mk (3:Int) (ByteArray.mk #[]) [{ table:=(ByteArray.mk #[]),name:=(ByteArray.mk #[97]),type:=(2:Int) }] [(Rel.mk (1:Int) (ByteArray.mk #[116]) [{ table:=(ByteArray.mk #[]),name:=(ByteArray.mk #[97]),type:=(2:Int) }] [] [] [] [] (0:Int) (0:Int) false [])] [(Term.mk (13:Int) zeroVal (0:Int) (0:Int) (ByteArray.mk #[]) [(Term.mk (2:Int) zeroVal (0:Int) (0:Int) (ByteArray.mk #[]) [] [] (2:Int)),(Term.mk (1:Int) (zd (2:Int)) (0:Int) (0:Int) (ByteArray.mk #[]) [] [] (2:Int))] [] (1:Int))] [] [] (0:Int) (0:Int) false []) [{ table:=(ByteArray.mk #[116]),rows:=[[(zd (1:Int))],[(zd (2:Int))],[zeroVal]] }]).getD 0 [])):Int)) (some (z8y (andB [EK.int IntKind.i64,EK.str] ((List.getD ((z66 (Rel.mk (3:Int) (ByteArray.mk #[]) [{ table:=(ByteArray.mk #[]),name:=(ByteArray.mk #[97]),type:=(2:Int) }] [(Rel.mk (1:Int) (ByteArray.mk #[116]) [{ table:=(ByteArray.mk #[]),name:=(ByteArray.mk #[97]),type:=(2:Int) }] [] [] [] [] (0:Int) (0:Int) false [])] [(Term.mk (13:Int) zeroVal (0:Int) (0:Int) (ByteArray.mk #[]) [(Term.mk (2:Int) zeroVal (0:Int) (0:Int) (ByteArray.mk #[]) [] [] (2:Int)),(Term.mk (1:Int) (zd (2:Int)) (0:Int) (0:Int) (ByteArray.mk #[]) [] [] (2:Int))] [] (1:Int))] [] [] (0:Int) (0:Int) false []) [{ table:=(ByteArray.mk #[116]),rows:=[[(zd (1:Int))],[(zd (2:Int))],[zeroVal]] }]).getD 0 []) 0 zeroVal).kind == (zd (1:Int)).kind) (andB [EK.str] ((List.getD ((z66 (Rel.mk (3:Int) (ByteArray.mk #[]) [{ table:=(ByteArray.mk #[]),name:=(ByteArray.mk #[97]),type:=(2:Int) }] [(Rel.mk (1:Int) (ByteArray.mk #[116]) [{ table:=(ByteArray.mk #[]),name:=(ByteArray.mk #[97]),type:=(2:Int) }] [] [] [] [] (0:Int) (0:Int) false [])] [(Term.mk (13:Int) zeroVal (0:Int) (0:Int) (ByteArray.mk #[]) [(Term.mk (2:Int) zeroVal (0:Int) (0:Int) (ByteArray.mk #[]) [] [] (2:Int)),(Term.mk (1:Int) (zd (2:Int)) (0:Int) (0:Int) (ByteArray.mk #[]) [] [] (2:Int))] [] (1:Int))] [] [] (0:Int) (0:Int) false []) [{ table:=(ByteArray.mk #[116]),rows:=[[(zd (1:Int))],[(zd (2:Int))],[zeroVal]] }]).getD 0 []) 0 zeroVal).n == (zd (1:Int)).n) (andB [] ((List.getD ((z66 (Rel.mk (3:Int) (ByteArray.mk #[]) [{ table:=(ByteArray.mk #[]),name:=(ByteArray.mk #[97]),type:=(2:Int) }] [(Rel.mk (1:Int) (ByteArray.mk #[116]) [{ table:=(ByteArray.mk #[]),name:=(ByteArray.mk #[97]),type:=(2:Int) }] [] [] [] [] (0:Int) (0:Int) false [])] [(Term.mk (13:Int) zeroVal (0:Int) (0:Int) (ByteArray.mk #[]) [(Term.mk (2:Int) zeroVal (0:Int) (0:Int) (ByteArray.mk #[]) [] [] (2:Int)),(Term.mk (1:Int) (zd (2:Int)) (0:Int) (0:Int) (ByteArray.mk #[]) [] [] (2:Int))] [] (1:Int))] [] [] (0:Int) (0:Int) false []) [{ table:=(ByteArray.mk #[116]),rows:=[[(zd (1:Int))],[(zd (2:Int))],[zeroVal]] }]).getD 0 []) 0 zeroVal).s.toList == (zd (1:Int)).s.toList) true))))))) (some (z8y (false))))) (some (z8y (false)))):=by kernel_rfl
def colA : Term:=.mk 2 zeroVal 0 0 ⟨#[]⟩ [] [] 2
def cA : Term:=.mk 1 (zd 2) 0 0 ⟨#[]⟩ [] [] 2
def lessA : Term:=.mk 13 zeroVal 0 0 ⟨#[]⟩ [colA,cA] [] 1
def tabA : Rel:=.mk 1 ⟨#[116]⟩ [⟨⟨#[]⟩,⟨#[97]⟩,2⟩] [] [] [] [] 0 0 false []
def relA : Rel:=.mk 3 ⟨#[]⟩ [⟨⟨#[]⟩,⟨#[97]⟩,2⟩] [tabA] [lessA] [] [] 0 0 false []
def dbA : List Data:=[⟨⟨#[116]⟩,[[zd 1],[zd 2],[zeroVal]]⟩]
theorem z2iq {x:Val} (h:z10 x) : nT colA (zg ⟨[],dbA⟩ [x])=some x:=by
 rw[zp3,if_pos (.inr rfl),zdb ⟨by decide,(z1ap colA).2 ⟨yb _,trivial⟩,fun r hr v hv=>by
  rw[yh.1 hr] at hv
  rw[yh.1 hv];exact h⟩]
 unfold z37;rw[z12d,if_neg (by decide),if_pos (show colA.op=2 from rfl)];rfl
theorem z2ki {x:Val} (h:z10 x) : nT cA (zg ⟨[],dbA⟩ [x])=some (zd 2):=by
 rw[zp3,if_pos (.inl rfl),zdb ⟨by decide,(z1ap cA).2 ⟨yb _,trivial⟩,fun r hr v hv=>by
  rw[yh.1 hr] at hv
  rw[yh.1 hv];exact h⟩]
 unfold z37;rw[z12d,if_pos (show cA.op=1 from rfl)];rfl
theorem z1i1 {x:Val} (h:z10 x) : nT lessA (zg ⟨[],dbA⟩ [x])=some (z1j 13 ⟨#[]⟩ [x,zd 2]):=by
 have hk:nTs lessA.kids (zg ⟨[],dbA⟩ [x])=some [x,zd 2]:=by
  show nTs [colA,cA] _=_;simp only[nTs,z2iq h,z2ki h,ym]
 rw[zp3,if_neg (by decide),if_neg (by decide),if_neg (by decide),if_neg (by decide),if_pos (by decide),hk,ym,zdb ⟨by show 2≤2000000;decide,fun y hy=>by
  rcases yf.1 hy with rfl | hy
  ·exact h
  ·rw[yh.1 hy];exact yb _⟩]
 rfl
theorem z2ir : z1j 13 ⟨#[]⟩ [zd 1,zd 2]=z1i true:=by kernel_rfl
theorem z2is : z1j 13 ⟨#[]⟩ [zd 2,zd 2]=z1i false:=by kernel_rfl
theorem z2it : z1j 13 ⟨#[]⟩ [zeroVal,zd 2]=zeroVal:=by kernel_rfl
theorem soA1 : nSo [lessA] (zg ⟨[],dbA⟩ [zd 1])=some true:=by
 simp only[nSo,z1i1 (zwc 1),z2ir,ym];rw[if_pos (by kernel_rfl)]
theorem soA2 : nSo [lessA] (zg ⟨[],dbA⟩ [zd 2])=some false:=by
 simp only[nSo,z1i1 (zwc 2),z2is,ym];rw[if_neg (by rw[show z2t (z1i false)=0 by kernel_rfl];decide)]
theorem soA3 : nSo [lessA] (zg ⟨[],dbA⟩ [zeroVal])=some false:=by
 simp only[nSo,z1i1 z3d,z2it,ym];rw[if_neg (by rw[show z2t zeroVal=1 by kernel_rfl];decide)]
theorem z2iu : nR tabA ⟨[],dbA⟩=some [[zd 1],[zd 2],[zeroVal]]:=by
 rw[z1nm,if_pos (show tabA.op=1 from rfl),zdb ⟨by decide,fun d hd=>by rw[yh.1 hd];decide⟩];have e:z6c ⟨[],dbA⟩ tabA.table=[[zd 1],[zd 2],[zeroVal]]:=by
  unfold z6c;simp [dbA,tabA,Rel.table_mk]
 rw[e];rfl
theorem z26o : nR relA ⟨[],dbA⟩=some [[zd 1]]:=by
 have hk:nKid relA.kids 0 ⟨[],dbA⟩=some [[zd 1],[zd 2],[zeroVal]]:=by
  rw[z10f,if_pos (by decide)];exact z2iu
 rw[z1nm,if_neg (by decide),if_neg (by decide),if_pos (show relA.op=3 from rfl)];unfold filO;rw[if_pos (by decide)];show ((nKid relA.kids 0 ⟨[],dbA⟩).bind fun l=>zdc (fun x=>nSo [lessA] (zg ⟨[],dbA⟩ x)) l).bind capQ=_;rw[hk,ym];simp only[zdc,soA1,soA2,soA3,ym];rfl
def z72 : Bool:=true
theorem z1rw : zuv=some (z8y z72):=by
 have h:z66 relA dbA=[[zd 1]]:=zfx z26o;have e:=z22q;rw[show zuv=_ from e,z6 ⟨_,z26o⟩];simp only[z7];have h2:z66 (Rel.mk (3:Int) (ByteArray.mk #[]) [{ table:=(ByteArray.mk #[]),name:=(ByteArray.mk #[97]),type:=(2:Int) }] [(Rel.mk (1:Int) (ByteArray.mk #[116]) [{ table:=(ByteArray.mk #[]),name:=(ByteArray.mk #[97]),type:=(2:Int) }] [] [] [] [] (0:Int) (0:Int) false [])] [(Term.mk (13:Int) zeroVal (0:Int) (0:Int) (ByteArray.mk #[]) [(Term.mk (2:Int) zeroVal (0:Int) (0:Int) (ByteArray.mk #[]) [] [] (2:Int)),(Term.mk (1:Int) (zd (2:Int)) (0:Int) (0:Int) (ByteArray.mk #[]) [] [] (2:Int))] [] (1:Int))] [] [] (0:Int) (0:Int) false []) [{ table:=(ByteArray.mk #[116]),rows:=[[(zd (1:Int))],[(zd (2:Int))],[zeroVal]] }]=[[zd 1]]:=h;rw[h2];simp [obO,andB,z72]
def zyh : FnC Un:=fnF0 ([],z8y (z72))
theorem z22r : FnOK 12 zyh:=fnK0 (M:=z1ez) rfl ⟨zez,z19w,trivial⟩ trivial trivial trivial trivial Tryz.func12 (GiF.r fun _ _=>z1rw)
theorem z10u : z72=true:=rfl
end
end B
namespace B
open Go Go.RowKit
def cstT (v:Val) (ty:Int) : Term:=.mk 1 v 0 0 ⟨#[]⟩ [] [] ty
theorem z22s {v:Val} (ty:Int) {db:List Data} (hv:z10 v) : nT (cstT v ty) ⟨[],db⟩=some v:=by
 have ho:(cstT v ty).op=1:=rfl;rw[zp3,if_pos (.inl ho),zdb ⟨by show 1≤2000000;omega,(z1ap _).2 ⟨hv,trivial⟩,fun y hy=>absurd hy (by simp)⟩];unfold z37;rw[z12d,ho,if_pos rfl];rfl
theorem z2jp (v x:Val) : z2t (cmpO 11 v x)=if (z18 v x).2=true then zhv ((z18 v x).1 == 0) else 1:=by
 have e0:z18 v x=cmpV v x:=rfl;rw[e0];unfold cmpO;by_cases c : (cmpV v x).2=true
 ·rw[if_pos c,if_pos c];have e:soB 11 (cmpV v x).1=((cmpV v x).1 == 0):=by
   unfold soB;rw[if_pos rfl];exact y2b.2 (by rw[decide_eq_true_eq,beq_iff_eq])
  rw[e];cases ((cmpV v x).1 == 0)<;>rfl
 ·rw[if_neg c,if_neg c];rfl
theorem z25o (v:Val) (L:Rows) (hw:∀ x∈L,x.length=1) : z38 v L=z83 v (L.map fun x=>x.getD 0 zeroVal):=by
 have key:∀ (l:Rows) (t:Int),(∀ x∈l,x.length=1)→l.foldl (fun t x=>if x.length=0 then t else if (z18 v (x.getD 0 zeroVal)).2 then z6n t (zhv ((z18 v (x.getD 0 zeroVal)).1 == 0)) else z6n t 1) t=(l.map fun x=>z2t (cmpO 11 v (x.getD 0 zeroVal))).foldl (fun m a=>z6n m a) t:=by
  intro l
  induction l with
  | nil=>intro t _;rfl
  | cons x l ih =>
   intro t h;have h1:=h x yx;rw[yr,yt,yr,ih _ fun z hz=>h z (yz _ hz),if_neg (by omega),z2jp];congr 1;split<;>rfl
 unfold z38 z83 zzo;rw[key L 0 hw,List.map_map];rfl
theorem z2jq (v:Val) (l:List Val) (h:l≠[]) : z1j 21 ⟨#[]⟩ (v::l)=z83 v l:=by
 have hl:0<l.length:=y2d.2 h;have hc:cntN 21=(2,true):=rfl;unfold z1j;rw[hc,if_neg (by rw[yn];simp only[reduceCtorEq,false_and,or_false];omega)];unfold z18h;rw[if_neg (by omega),if_neg (by omega),if_neg (by omega),if_neg (by omega),if_neg (by omega),if_neg (by omega),if_neg (by omega),if_neg (by omega),if_neg (by omega),if_pos rfl];rfl
theorem z2iv {r:Rel} {db:List Data} {L:Rows} {v:Val} (ty:Int) (hr:nR r ⟨[],db⟩=some L) (hw:∀ x∈L,x.length=1) (hs:z5o L) (hv:z10 v) (hl:L.length≤20000) :
  nT (.mk 27 zeroVal 0 0 ⟨#[]⟩ [] [r] 1) ⟨[],db⟩=some (z1i (decide (0<L.length))) ∧
  nT (.mk 28 zeroVal 0 0 ⟨#[]⟩ [cstT v ty] [r] 1) ⟨[],db⟩=some (z38 v L) ∧
  nT (.mk 26 zeroVal 0 0 ⟨#[]⟩ [] [r] ty) ⟨[],db⟩=some (if L.length=1 then (L.getD 0 []).getD 0 zeroVal else zeroVal) ∧
  (L=[]→z38 v L=z1i false) ∧
  (L≠[]→nT (.mk 21 zeroVal 0 0 ⟨#[]⟩ (cstT v ty::L.map fun x=>cstT (x.getD 0 zeroVal) ty) [] 1) ⟨[],db⟩=some (z38 v L)):=by
 have hsub:nSub [r] ⟨[],db⟩=some L:=by rw[← hr];rfl
 refine⟨?_,?_,?_,fun h=>by subst h;rfl,fun h=>?_⟩
 ·rw[zp3,if_neg (by show ¬ ((27:Int)=1∨(27:Int)=2);omega),if_neg (by show ¬ (27:Int)=26;omega),if_pos (by rfl)];show (nSub [r] _).bind _=_;rw[hsub];rfl
 ·rw[zp3,if_neg (by show ¬ ((28:Int)=1∨(28:Int)=2);omega),if_neg (by show ¬ (28:Int)=26;omega),if_neg (by show ¬ (28:Int)=27;omega),if_pos (by rfl),if_neg (by show ¬ 1=0;omega)];show (nT (cstT v ty) _).bind (fun v=>(nSub [r] _).bind _)=_;rw[z22s ty hv,hsub];rfl
 ·rw[zp3,if_neg (by show ¬ ((26:Int)=1∨(26:Int)=2);omega),if_pos (by rfl)];show (nSub [r] _).bind _=_;rw[hsub,ym];by_cases c : L.length=1
  ·have hm:L.getD 0 []∈L:=z78 (by omega);rw[if_pos ⟨c,by rw[hw _ hm];omega⟩,if_pos c]
  ·rw[if_neg (fun e=>c e.1),if_neg c]
 ·rw[zp3,if_neg (by show ¬ ((21:Int)=1∨(21:Int)=2);omega),if_neg (by show ¬ (21:Int)=26;omega),if_neg (by show ¬ (21:Int)=27;omega),if_neg (by show ¬ (21:Int)=28;omega),if_pos (by show (_::List.map _ L).length≤_;rw[yn,yu];omega)];have hq:nTs (cstT v ty::L.map fun x=>cstT (x.getD 0 zeroVal) ty) ⟨[],db⟩=some (v::L.map fun x=>x.getD 0 zeroVal):=by
   have h2:nTs (L.map fun x=>cstT (x.getD 0 zeroVal) ty) ⟨[],db⟩=some (L.map fun x=>x.getD 0 zeroVal):=by
    have : ∀ l : Rows,z5o l→nTs (l.map fun x=>cstT (x.getD 0 zeroVal) ty) ⟨[],db⟩=some (l.map fun x=>x.getD 0 zeroVal):=by
     intro l
     induction l with
     | nil=>intro _;simp only[y1l,nTs]
     | cons x l ih =>
      intro h;simp only[yt,nTs,z22s ty (zgq (h x yx) 0),ym,ih fun y hy=>h y (yz _ hy)]
    exact this L hs
   simp only[nTs,z22s ty hv,h2,ym]
  have htx:txts (v::L.map fun x=>x.getD 0 zeroVal):=⟨by rw[yn,yu];omega,fun x hx=>by
   rcases yf.1 hx with rfl | hx
   ·exact hv
   ·obtain⟨y,hy,rfl⟩:=y27.1 hx
    exact zgq (hs y hy) 0⟩
  show (nTs (cstT v ty::L.map fun x=>cstT (x.getD 0 zeroVal) ty) ⟨[],db⟩).bind _=_;rw[hq,ym,zdb htx];show some (z1j 21 ⟨#[]⟩ (v::L.map fun x=>x.getD 0 zeroVal))=_;rw[z2jq v _ (by simpa using h),z25o v L hw]
end B
namespace B
open Go Go.RowKit
theorem z10v {R:Bool→RF Un} {b:Bool} {X:Option (RF Un)} (h:b=false→X=some (R true)) : cndO b (some (R z72)) X=some (R true):=by
 cases b
 ·exact h rfl
 ·rfl
theorem z2kj {b:Bool} (h:(!b)=false) : b=true:=by cases b<;>simp_all
theorem z1aw (r:Rel) : Rel.mk r.op r.table r.cols r.kids r.terms r.aggs r.keys r.limit r.skip r.all r.rows=r:=Rel.ids_eq r
theorem z1ax {α:Type} {b:Bool} {X Y Z:Option α} (hb:b=true) (h:X=Z) : cndO b X Y=Z:=by subst hb;exact h
theorem zww {α:Type} {b:Bool} {X Y Z:Option α} (hb:b=false) (h:Y=Z) : cndO b X Y=Z:=by subst hb;exact h
theorem zuw (v:Val) : andB [EK.int IntKind.i64,EK.str] (v.kind == v.kind) (andB [EK.str] (v.n == v.n) (andB [] (v.s.toList == v.s.toList) true))=true:=by
 rw[beq_self_eq_true,beq_self_eq_true,beq_self_eq_true];rfl
end B
namespace B
open Go Go.RowKit
set_option maxRecDepth 100000
noncomputable section
attribute [local irreducible] awp ctxK zx z1d retQ z1o awf ctxF z1l
def zer : Mc Un:=mcF_ [(11,zy0),(19,zbk),(38,z12y),(12,zyh),(14,zp9),(36,zuu),(39,z82)] [] [] [] []
def zes : Nat→NS:=nsF_ [(7,{ ts:=bl 156 1996,bs:=bl 156 776,nm:=[(.cell 9 7,624)],cs:=true })] true
def z17 (r:Rel) (db:List Data):=z66 (Rel.mk r.op r.table r.cols r.kids r.terms r.aggs r.keys r.limit r.skip r.all r.rows) db
def za8 (r:Rel) (db:List Data):=zh0 (Term.mk (27:Int) zeroVal (0:Int) (0:Int) (ByteArray.mk #[]) [] [Rel.mk r.op r.table r.cols r.kids r.terms r.aggs r.keys r.limit r.skip r.all r.rows] (1:Int)) [] db
def z3r (r:Rel) (db:List Data):=zh0 (Term.mk (26:Int) zeroVal (0:Int) (0:Int) (ByteArray.mk #[]) [] [Rel.mk r.op r.table r.cols r.kids r.terms r.aggs r.keys r.limit r.skip r.all r.rows] (r.cols.getD 0 z41).type) [] db
def z3s (r:Rel) (v_:Val) (db:List Data):=zh0 (Term.mk (28:Int) zeroVal (0:Int) (0:Int) (ByteArray.mk #[]) [Term.mk (1:Int) v_ (0:Int) (0:Int) (ByteArray.mk #[]) [] [] (r.cols.getD 0 z41).type] [Rel.mk r.op r.table r.cols r.kids r.terms r.aggs r.keys r.limit r.skip r.all r.rows] (1:Int)) [] db
def za9 (db:List Data) (v1:List Term):=zh0 (Term.mk (21:Int) zeroVal (0:Int) (0:Int) (ByteArray.mk #[]) v1 [] (1:Int)) [] db
def zaa (r:Rel) (db:List Data):=z1i (decide ((↑(z17 r db).length:Int) > (0:Int)))
def z4t (r:Rel) (v_:Val) (db:List Data) (v0:Int) (v1:List Term) : S Un:=(st 156 156 625 0 [(2,al .data db),(3,ax 3),(6,ab false),(7,al .row (z17 r db)),(8,ax 8),(9,ax 9),(10,ai v0)] [(3,bg .rel r),(8,some (false,[C.s (Value.int IntKind.i64 (1:Int)),C.s (Value.int IntKind.i64 v_.kind),C.s (Value.int IntKind.i64 v_.n),C.s (Value.string v_.s),C.s (Value.int IntKind.i64 (0:Int)),C.s (Value.int IntKind.i64 (0:Int)),C.s (Value.string (ByteArray.mk #[])),C.sl Ty.term [] true,C.sl Ty.rel [] true,C.s (Value.int IntKind.i64 (r.cols.getD 0 z41).type)])),(9,some (false,[C.s (Value.int IntKind.i64 (21:Int)),C.s (Value.int IntKind.i64 (0:Int)),C.s (Value.int IntKind.i64 (0:Int)),C.s (Value.string (ByteArray.mk #[])),C.s (Value.int IntKind.i64 (0:Int)),C.s (Value.int IntKind.i64 (0:Int)),C.s (Value.string (ByteArray.mk #[])),C.ob (624:Nat) (0:Nat),C.sl Ty.rel [] true,C.s (Value.int IntKind.i64 (1:Int))]))] [(624,some ⟨(0:Nat),Ty.term,v1,some (0:Nat),true⟩)])
def zdg : S Un→Option (EX Un):=lpF_ zer zes Tryz.f10 [1,1,1,1,1,0,1,2,2] 7
def zdh : Exit→S Un→Option (RF Un):=cxF_ zer zes Tryz.f10 [1,1,1,1,1,0,1,2] [.d]
def zux (r:Rel) (v_:Val) (db:List Data) : Option (RF Un):=fnF_ zer zes Tryz.f10 1 [.d] [.d (.agg (enc Ty.rel r)),.d (.agg (enc Ty.val v_)),.d (.v (.dat (U:=Un) Ty.data db))]
theorem z1i2 (r:Rel) (v_:Val) (db:List Data) : zux r v_ db=obO ((Rel.ids r).sz≤(2000000:Nat)) (obO (clR (Rel.ids r)≤(2000000000:Nat)) (cndO (!zpq (Rel.ids r) db) (some (z1e2 (z72))) (cndO (z2j (Rel.ids r) != 1) (some (z1e2 (z72))) (cndO (!zbh v_) (some (z1e2 (z72))) (obO ((0:Int)≤(0:Int)∧(0:Int)<(↑r.cols.length:Int)) (cndO (decide ((r.cols.getD 0 z41).type<0)) (some (z1e2 (z72))) (obO ((0:Int)≤(0:Int)∧(0:Int)<(↑r.cols.length:Int)) (cndO (decide ((r.cols.getD 0 z41).type > 3)) (some (z1e2 (z72))) (obO (okRl { env:=[],db:=db } (Rel.ids r)) (obO ((0:Int)≤(0:Int)∧(0:Int)<(↑r.cols.length:Int)) ((zdg (z4t r v_ db (0:Int) ([(Term.mk (1:Int) v_ (0:Int) (0:Int) (ByteArray.mk #[]) [] [] (r.cols.getD 0 z41).type)]))).bind (zb zdh)))))))))))):=by kernel_rfl
theorem zuy (r:Rel) (v_:Val) (db:List Data) (v0:Int) (v1:List Term) : zdg (z4t r v_ db v0 v1)=cndO (decide (v0<(↑(z17 r db).length:Int))) (obO (0≤v0∧v0<(↑(z17 r db).length:Int)) (cndO ((↑(List.length ((z17 r db).getD v0.toNat [])):Int) != (1:Int)) (some (.ret,(z4t r v_ db v0 v1))) (obO (0≤v0∧v0<(↑(z17 r db).length:Int)) (obO ((0:Int)≤(0:Int)∧(0:Int)<(↑(List.length ((z17 r db).getD v0.toNat [])):Int)) (obO ((0:Int)≤(0:Int)∧(0:Int)<(↑r.cols.length:Int)) (obO ((v1.length+[(Term.mk (1:Int) (List.getD ((z17 r db).getD v0.toNat []) 0 zeroVal) (0:Int) (0:Int) (ByteArray.mk #[]) [] [] (r.cols.getD 0 z41).type)].length)*(128:Nat)≤zf) (zdg (z4t r v_ db (IntKind.i64.wrap (v0+1)) (v1++[(Term.mk (1:Int) (List.getD ((z17 r db).getD v0.toNat []) 0 zeroVal) (0:Int) (0:Int) (ByteArray.mk #[]) [] [] (r.cols.getD 0 z41).type)]))))))))) (some (.exit 0,(z4t r v_ db v0 v1))):=lpQ_ (by kernel_rfl)
theorem z12s (r:Rel) (v_:Val) (db:List Data) (v0:Int) (v1:List Term) : zdh .ret (z4t r v_ db v0 v1)=some (z1e2 (false)):=by kernel_rfl
def zdi (r:Rel) (v_:Val) (db:List Data) (v1:List Term) : Option (RF Un):=cndO ((↑(z17 r db).length:Int) == (0:Int)) (cndO (z72) (some (z1e2 (andB [EK.int IntKind.i64,EK.str] ((z3s r v_ db).kind == (z1i false).kind) (andB [EK.str] ((z3s r v_ db).n == (z1i false).n) (andB [] ((z3s r v_ db).s.toList == (z1i false).s.toList) true))))) (some (z1e2 (false)))) (cndO (z72) (obO (okT { env:=[],db:=db } (Term.mk (21:Int) zeroVal (0:Int) (0:Int) (ByteArray.mk #[]) v1 [] (1:Int))) (some (z1e2 (andB [EK.int IntKind.i64,EK.str] ((z3s r v_ db).kind == (za9 db v1).kind) (andB [EK.str] ((z3s r v_ db).n == (za9 db v1).n) (andB [] ((z3s r v_ db).s.toList == (za9 db v1).s.toList) true)))))) (some (z1e2 (false))))
def zdj (r:Rel) (v_:Val) (db:List Data) (v1:List Term) : Option (RF Un):=cndO ((↑(z17 r db).length:Int) != (1:Int)) (cndO (!andB [EK.int IntKind.i64,EK.str] ((z3r r db).kind == 0) (andB [EK.str] ((z3r r db).n == 0) (andB [] ((z3r r db).s.toList == (ByteArray.mk #[]).toList) true))) (some (z1e2 (false))) (zdi r v_ db v1)) (zdi r v_ db v1)
theorem z151 (r:Rel) (v_:Val) (db:List Data) (v0:Int) (v1:List Term) : zdh (.exit 0) (z4t r v_ db v0 v1)=obO (okT { env:=[],db:=db } (Term.mk (27:Int) zeroVal (0:Int) (0:Int) (ByteArray.mk #[]) [] [(Rel.ids r)] (1:Int))) (obO (okT { env:=[],db:=db } (Term.mk (28:Int) zeroVal (0:Int) (0:Int) (ByteArray.mk #[]) [(Term.mk (1:Int) v_ (0:Int) (0:Int) (ByteArray.mk #[]) [] [] (r.cols.getD 0 z41).type)] [(Rel.ids r)] (1:Int))) (obO ((0:Int)≤(0:Int)∧(0:Int)<(↑r.cols.length:Int)) (obO (okT { env:=[],db:=db } (Term.mk (26:Int) zeroVal (0:Int) (0:Int) (ByteArray.mk #[]) [] [(Rel.ids r)] (r.cols.getD 0 z41).type)) (cndO (!andB [EK.int IntKind.i64,EK.str] ((za8 r db).kind == (zaa r db).kind) (andB [EK.str] ((za8 r db).n == (zaa r db).n) (andB [] ((za8 r db).s.toList == (zaa r db).s.toList) true))) (some (z1e2 (false))) (cndO ((↑(z17 r db).length:Int) == (1:Int)) (obO ((0:Int)≤(0:Int)∧(0:Int)<(↑(z17 r db).length:Int)) (obO ((0:Int)≤(0:Int)∧(0:Int)<(↑(List.length ((z17 r db).getD 0 [])):Int)) (cndO (!andB [EK.int IntKind.i64,EK.str] ((z3r r db).kind == (List.getD ((z17 r db).getD 0 []) 0 zeroVal).kind) (andB [EK.str] ((z3r r db).n == (List.getD ((z17 r db).getD 0 []) 0 zeroVal).n) (andB [] ((z3r r db).s.toList == (List.getD ((z17 r db).getD 0 []) 0 zeroVal).s.toList) true))) (some (z1e2 (false))) (zdj r v_ db v1)))) (zdj r v_ db v1)))))):=by kernel_rfl
def zr9 (_r:Rel) (_v:Val) (_db:List Data) : Bool:=true
theorem z2e0 : andB [EK.int IntKind.i64,EK.str] (zeroVal.kind == 0) (andB [EK.str] (zeroVal.n == 0) (andB [] (zeroVal.s.toList == (ByteArray.mk #[]).toList) true))=true:=zuw zeroVal
theorem z2e1 (r:Rel) (v_:Val) (db:List Data) (ty:Int) (L:Rows) (v1:List Term) (hL:L.length≤20000) (c1:z17 r db=L) (c3:z3r r db=if L.length=1 then (L.getD 0 []).getD 0 zeroVal else zeroVal) (c4:z3s r v_ db=z38 v_ L)
  (h0:L=[]→z38 v_ L=z1i false) (h1:L≠[]→nT (.mk 21 zeroVal 0 0 ⟨#[]⟩ v1 [] 1) ⟨[],db⟩=some (z38 v_ L)) : zdj r v_ db v1=some (z1e2 true):=by
 have t1:zdi r v_ db v1=some (z1e2 true):=by
  unfold zdi;rw[c1,c4];by_cases c : L=[]
  ·refine z1ax (by rw[c];rfl) (z1ax z10u ?_);rw[h0 c];exact congrArg (fun b=>some (z1e2 b)) (zuw _)
  ·have hp:=y2d.2 c;refine zww (beq_eq_false_iff_ne.2 (by omega)) (z1ax z10u ?_);have e5:za9 db v1=z38 v_ L:=by unfold za9;exact z4z (h1 c)
   rw[z6 ⟨_,h1 c⟩,e5];exact congrArg (fun b=>some (z1e2 b)) (zuw _)
 unfold zdj;rw[t1,c1];by_cases c : L.length=1
 ·exact zww (by rw[c];rfl) rfl
 ·refine z1ax (by rw[bne_iff_ne];omega) (zww ?_ rfl);rw[c3,if_neg c,z2e0];rfl
theorem z19y (r:Rel) (v_:Val) (db:List Data) (_hr:WS .rel r) (_hv:WS .val v_) (_hd:WL .data db) (hs:r.sz≤1900000) (hc:clR r≤2000000) (hx:txR r) (hv:z10 v_) (G:DbG db) : zux r v_ db=some (z1e2 (zr9 r v_ db)):=by
 have hcl:=zff r;rw[z1i2];simp only[Rel.ids_eq];rw[z6 (by omega),z6 (by omega)];refine z10v fun h1=>z10v fun h2=>z10v fun _=>?_;have h2:z27 r=1:=by have : z2j r=1:=bne_eq_false_iff_eq.1 h2;exact this
 have gr:=z2g3 (z2kj h1) (by omega) hc hx;obtain⟨L,hL,fL⟩:=z2jj G gr;have hcols:=(z55 gr.v).2.2.1;have hlight:=zvm G.rows gr.sz gr.wgh;have hL2:L.length≤20000:=by
  have h0:=fL.few;have h5:=hlight.2.2.2.2;have h6:=hlight.2.2.1;have h7:=z2dg db r;rw[h5,z9o] at h0;rw[zgh] at h7;rcases h7 with h7 | h7<;>rw[h7] at h0<;>split at h0<;>(try split at h0)<;>omega
 rw[z6 (by omega)];refine z10v fun _=>?_;rw[z6 (by omega)];refine z10v fun _=>?_;rw[z6 ⟨_,hL⟩,z6 (by omega)];generalize hty : (r.cols.getD 0 z41).type=ty;have hw:∀ x∈L,x.length=1:=fun x hx=>by have:=fL.wide x hx;omega
 obtain⟨k1,k2,k3,k4,k5⟩:=z2iv (v:=v_) ty hL hw fL.short hv hL2;have c1:z17 r db=L:=by unfold z17;rw[z1aw];exact zfx hL
 have c2:za8 r db=z1i (decide (0<L.length)):=by unfold za8;rw[z1aw];exact z4z k1
 have c3:z3r r db=if L.length=1 then (L.getD 0 []).getD 0 zeroVal else zeroVal:=by unfold z3r;rw[z1aw,hty];exact z4z k3
 have c4:z3s r v_ db=z38 v_ L:=by unfold z3s;rw[z1aw,hty];exact z4z k2
 have c6:zaa r db=z1i (decide (0<L.length)):=by
  unfold zaa;rw[c1];congr 1;exact decide_eq_decide.2 (by omega)
 have lp:=zvl (L:=zdg) (st:=fun i=>z4t r v_ db i (cstT v_ ty::(L.take i.toNat).map fun x=>cstT (x.getD 0 zeroVal) ty)) (C:=zdh) (e:=.exit 0) (fun b=>some (z1e2 b)) (l:=L) (d:=[]) (fun _=>true) (by omega)
  (fun i x hi hx hm=>by
   have hil:i<L.length:=by omega
   have hx1:=hw x hm;have hs1:(L.take (i+1)).map (fun x=>cstT (x.getD 0 zeroVal) ty)=(L.take i).map (fun x=>cstT (x.getD 0 zeroVal) ty)++[cstT (x.getD 0 zeroVal) ty]:=by
    rw[y3b,y9 hil];have : L[i]=x:=by rw[← hx,yd,y9 hil];rfl
    rw[this,y3o];rfl
   rw[zuy];simp only[c1,y5,hx,hty];refine z1ax (decide_eq_true (by omega)) ?_;rw[z6 (by omega)];refine zww (by rw[hx1];rfl) ?_;rw[z6 (by omega),z6 (by omega),z6 (by omega),z6 (by unfold zf;rw[yn,yu,yw,yg];omega),if_pos trivial,z3p hil (by omega),y5,hs1]
   rfl)
  (by
   rw[zuy,c1]
   exact zww (decide_eq_false (by omega)) rfl)
  (fun i=>z12s _ _ _ _ _)
  (by
   rw[z151];simp only[Rel.ids_eq,c1,c2,c3,c6,hty,y5,y36];rw[z6 ⟨_,k1⟩,z6 ⟨_,k2⟩,z6 (by omega),z6 ⟨_,k3⟩];refine zww (by rw[zuw];rfl) ?_;have tail:=z2e1 r v_ db ty L (cstT v_ ty::L.map fun x=>cstT (x.getD 0 zeroVal) ty) hL2 c1 c3 c4 k4 k5;by_cases c : L.length=1
   ·have hm:=hw _ (z78 (d:=[]) (l:=L) (i:=0) (by omega));refine z1ax (by rw[c];rfl) ?_;rw[z6 (by omega),z6 (by omega),if_pos c];refine zww (by rw[zuw];rfl) tail
   ·exact zww (beq_eq_false_iff_ne.2 (by omega)) tail)
 have hall:(L.all fun _=>true)=true:=y19.2 fun _ _=>rfl;rw[hall] at lp;exact lp
def zmj : FnC Un:=fun args=>match args with
 | [x0,x1,x2]=>(dS .rel x0).bind fun r=>(dS .val x1).bind fun v_=>(dL .data x2).bind fun db=>some ([r.sz≤1900000,clR r≤2000000,txR r,z10 v_,DbG db],zsy (zr9 r v_ db),zsz (zr9 r v_ db))
 | _=>none
theorem z1i3 : FnOK 10 zmj:=by
 intro args ob rs os h hob;unfold zmj at h;split at h
 ·simp only[y6,y8,yl] at h;obtain⟨r,e0,v_,e1,db,e2,rfl,rfl,rfl⟩:=h;obtain rfl:=zo e0;obtain rfl:=zo e1;obtain rfl:=zw e2;exact⟨z2d (M:=zer) rfl (z4m (l1:=[(11,zy0),(19,zbk),(38,z12y),(12,zyh),(14,zp9),(36,zuu),(39,z82)]) (l2:=[]) (l3:=[]) (l4:=[]) (l5:=[]) ⟨z201,zf4,zt6,z22r,z19w,z1x4,zit,trivial⟩ trivial trivial trivial trivial) Tryz.func10 (by kernel_rfl) zes 1 [.d] (fun hwf=>(z19y r v_ db (z40 hwf (a:=.d (.agg (enc Ty.rel r))) (ye (i:=0) rfl)) (z40 hwf (a:=.d (.agg (enc Ty.val v_))) (ye (i:=1) rfl)) (z40 hwf (a:=.d (.v (.dat (U:=Un) Ty.data db))) (ye (i:=2) rfl)) (hob _ (ye (i:=0) rfl)) (hob _ (ye (i:=1) rfl)) (hob _ (ye (i:=2) rfl)) (hob _ (ye (i:=3) rfl)) (hob _ (ye (i:=4) rfl)))),zh Tryz.func10 (by kernel_rfl) (by kernel_rfl)⟩
 ·simp at h
end
end B
end Go.Proofs.YtjfpbchdcbhfgaaGreat
