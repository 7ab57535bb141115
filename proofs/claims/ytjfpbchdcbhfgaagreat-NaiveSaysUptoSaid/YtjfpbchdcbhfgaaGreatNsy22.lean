/- Part 22 of the proof: Sr20c Lnaw Slaw20g. -/
import Derived.Test.YtjfpbchdcbhfgaaGreatNsy21
set_option linter.unusedVariables false
set_option linter.unusedSimpArgs false
set_option linter.defProp false
namespace Go.Proofs.YtjfpbchdcbhfgaaGreat
namespace B
open Go Go.RowKit
set_option maxRecDepth 100000
noncomputable section
attribute [local irreducible] aB bk zw br aK b9 aR bu bA
def PO(m:Nat):au Un:=dW (dS .term) (dL .row) (dL .data) fun t env db=>bB (8*t.ht+6) m ([gT t env db],aX<|ji t env db)
def po(m:Nat):au Un:=dW (dS .term) (dL .row) (dL .data) fun t env db=>bB (8*t.ht+7) m ([gT t env db],aq<|eP t env db)
def ud(m:Nat):au Un:=fun args=>match args with
 |[x0,x1,x2,x3]=>(dL .term x0).bind fun l=>(dL .val x1).bind fun r=>(dL .row x2).bind fun env=>(dL .data x3).bind fun db=>some ([8*aY l+8<m,gSo l r env db],bm<|lY l r env db,bp<|lY l r env db)
 |_=>none
def afe(r:List (List Val)):RF Un:=(Fx r,Fy r)
def yH(m:Nat):au Un:=fun args=>match args with
 |[x0,x1,x2,x3,x4]=>(dL .term x0).bind fun terms=>(dL .val x1).bind fun l=>(dL .row x2).bind fun right=>(dL .row x3).bind fun env=>(dL .data x4).bind fun db=>some ([8*aY terms+9<m,J5 terms l right env db],Fx<|nr terms l right env db,Fy<|nr terms l right env db)
 |_=>none
def PP(r:List (List Val)):List (A Un):=[.c<|.sl (U:=Un) Ty.row r false]
def PQ(_r:List (List Val)):List (Ob Un):=[]
def A4(r:List (List Val)):RF Un:=(PP r,PQ r)
def Dg(m:Nat):au Un:=fun args=>match args with
 |[x0,x1,x2,x3]=>(dS .rel x0).bind fun r=>(dB x1).bind fun left=>(dL .row x2).bind fun env=>(dL .data x3).bind fun db=>some ([8*r.ht+6<m,J6 r left env db],PP<|pn r left env db,PQ<|pn r left env db)
 |_=>none
def ue(m:Nat):au Un:=fun args=>match args with
 |[x0,x1,x2,x3]=>(dL .term x0).bind fun l=>(dL .val x1).bind fun r=>(dL .row x2).bind fun env=>(dL .data x3).bind fun db=>some ([8*aY l+8<m,gTs l r env db],Jo<|eo l r env db,OM<|eo l r env db)
 |_=>none
def yI(m:Nat):au Un:=fun args=>match args with
 |[x0,x1,x2,x3]=>(dS .agg x0).bind fun a=>(dL .row x1).bind fun l=>(dL .row x2).bind fun env=>(dL .data x3).bind fun db=>some ([8*aY a.t+8<m,gAg a l env db],kT<|kP a l env db,kU<|kP a l env db)
 |_=>none
def Dh(m:Nat):au Un:=fun args=>match args with
 |[x0,x1,x2,x3]=>(dS .rel x0).bind fun r=>(dL .row x1).bind fun l=>(dL .row x2).bind fun env=>(dL .data x3).bind fun db=>some ([8*r.ht+6<m,Ru r l env db],PP<|rz r l env db,PQ<|rz r l env db)
 |_=>none
def yJ(m:Nat):au Un:=dW (dS .rel) (dL .row) (dL .data) fun r env db=>bB (8*r.ht+7) m ([gR r env db],aX<|jV r env db)
def aff(m:Nat):Mc Un:=az [(17,yJ m)] [] [] [] []
def afg(m:Nat)(t:Term)(env:List (List Val))(db:List Data):Option (RF Un):=aw (aff m) aV Tryz.f68 0 [.d] [.d<|.agg<|enc Ty.term t,.d<|.v<|.dat (U:=Un) Ty.row env,.d<|.v<|.dat (U:=Un) Ty.data db]
def az3(m t env db):afg m t env db=af ((↑t.sub.length:Int)==(0:Int)) (some<|aX<|[]) (ae ((0:Int)≤(0:Int)∧(0:Int)<(↑t.sub.length:Int))<|ae ((8:Nat)*(Rel.ids<|t.sub.getD 0 za).ht+(7:Nat)<m)<|ae (gR (Rel.ids<|t.sub.getD 0 za) env db)<|some<|aX<|jV (Rel.ids<|t.sub.getD 0 za) env db):=ah
def az4 m(t:Term)(env:List (List Val))(db:List Data)(_ht:WS .term t)(_he:WL .row env)(_hd:WL .data db)(hm:8*t.ht+6<m+1)(h:gT t env db):afg m t env db=some (aX (ji t env db)):=by
 rw[az3];simp only[z8,Rel.ids_eq,beq_iff_eq];unfold ji;by_cases h0:t.sub.length=0
 ·simp_all[if_pos,pb,Fz]
 ·obtain⟨G,e,g⟩:=h;have hm':t.sub.getD 0 za∈t.sub:=cG (by omega);have hk:gR (t.sub.getD 0 za) env db:=⟨G,e,g.subq G hm'⟩;obtain⟨l,hl,_⟩:=hk.ex;have hs:=Term.ht_sub hm';rw[if_neg (by omega),z6 (by omega),z6 (by omega),z6 hk,pb (l:=l) (by simp_all[Fz,if_neg])];exact congrArg (fun x=>some (aX x)) (jb hl)
abbrev nt(m:Nat):Prop:=aj 68 (PO m)∧aj 37 (po m)∧aj 50 (ud m)∧aj 95 (yH m)∧aj 48 (Dg m)∧aj 51 (ue m)∧aj 101 (yI m)∧aj 52 (Dh m)∧aj 17 (yJ m)
def az5(m:Nat)(hG:nt m):aj 68 (PO<|m+1):=jl zo zi zi (M:=(aff m)) rfl ⟨hG.2.2.2.2.2.2.2.2,trivial⟩ Tryz.func68 fun t env db=>GiF.r fun w o=>az4 m t env db (am w 0) (am w 1) (am w 2) (aA o 0)<|aA o 1
def Ga(m:Nat):Mc Un:=az [(68,PO m),(69,CX),(37,po m),(70,aeO),(71,ad1),(72,Pk)] [] [] [] []
def PR:Nat→NS:=aO [(18,{ts:=bl 93 846,bs:=bl 93 72,nm:=[(.sl 8,372)],cs:=true})] true
def rA(t:Term)(env:List (List Val))(db:List Data)(v0:Int)(v1:List Val):S Un:=(st 93 93 373 0 [(1,al .row env),(2,al .data db),(3,ax 3),(6,ax 6),(8,ao 372),(9,ai v0)] [(3,bg .term t),(6,bg .val z7)] [(372,some ⟨(0:Nat),Ty.val,v1,some (0:Nat),true⟩)])
def Di(m:Nat):S Un→Option (EX Un):=aC (Ga m) PR Tryz.f37 [1,1,1,0,1,2,2] 18
def J7(m:Nat):Exit→S Un→Option (RF Un):=aE (Ga m) PR Tryz.f37 [1,1,1,0,1,2] [.d]
def afh(m:Nat)(t:Term)(env:List (List Val))(db:List Data):Option (RF Un):=aw (Ga m) PR Tryz.f37 1 [.d] [.d<|.agg<|enc Ty.term t,.d<|.v<|.dat (U:=Un) Ty.row env,.d<|.v<|.dat (U:=Un) Ty.data db]
def az6(m t env db):afh m t env db=af (t.op==26) (ae ((8:Nat)*(Term.ids t).ht+(6:Nat)<m)<|ae (gT (Term.ids t) env db)<|af ((↑(ji (Term.ids t) env db).length:Int) !=(1:Int)) (some<|aq z7)<|ae ((0:Int)≤(0:Int)∧(0:Int)<(↑(ji (Term.ids t) env db).length:Int))<|af ((↑(List.length<|(ji (Term.ids t) env db).getD 0 []):Int)==(0:Int)) (some<|aq z7)<|ae ((0:Int)≤(0:Int)∧(0:Int)<(↑(ji (Term.ids t) env db).length:Int))<|ae ((0:Int)≤(0:Int)∧(0:Int)<(↑(List.length<|(ji (Term.ids t) env db).getD 0 []):Int))<|some<|aq<|List.getD ((ji (Term.ids t) env db).getD 0 []) 0 z7) (af (t.op==27) (ae ((8:Nat)*(Term.ids t).ht+(6:Nat)<m)<|ae (gT (Term.ids t) env db)<|some<|aq<|cE<|decide<|(↑(ji (Term.ids t) env db).length:Int)>(0:Int))<|af (t.op==28) (af ((↑t.kids.length:Int)==(0:Int)) (some<|aq z7)<|ae ((0:Int)≤(0:Int)∧(0:Int)<(↑t.kids.length:Int))<|ae ((8:Nat)*(Term.ids<|t.kids.getD 0 zb).ht+(7:Nat)<m)<|ae (gT (Term.ids<|t.kids.getD 0 zb) env db)<|ae ((8:Nat)*(Term.ids t).ht+(6:Nat)<m)<|ae (gT (Term.ids t) env db)<|some<|aq<|PE (eP (Term.ids<|t.kids.getD 0 zb) env db)<|ji (Term.ids t) env db)<|af (t.op==1) (ae ((Term.ids t).sz≤(2000000:Nat))<|ae (dZ<|Term.ids t)<|ae (cT env)<|some<|aq<|rj (Term.ids t) env)<|af (t.op==2) (ae ((Term.ids t).sz≤(2000000:Nat))<|ae (dZ<|Term.ids t)<|ae (cT env)<|some<|aq<|rj (Term.ids t) env)<|(Di m<|rA t env db (0:Int)<|[]).bind<|zd<|J7 m):=ah
def afi(m t env db v0 v1):Di m (rA t env db v0 v1)=af (decide<|v0<(↑t.kids.length:Int)) (ae (0≤v0∧v0<(↑t.kids.length:Int))<|ae ((8:Nat)*(Term.ids<|t.kids.getD v0.toNat zb).ht+(7:Nat)<m)<|ae (gT (Term.ids<|t.kids.getD v0.toNat zb) env db)<|ae ((v1.length+[(eP (Term.ids<|t.kids.getD v0.toNat zb) env db)].length)*(32:Nat)≤ze)<|Di m<|rA t env db (IntKind.i64.wrap<|v0+1)<|v1++[(eP (Term.ids<|t.kids.getD v0.toNat zb) env db)]) (some (.exit 1,(rA t env db v0 v1))):=aF
def az7(m t env db v0 v1):J7 m (.exit 1) (rA t env db v0 v1)=ae (dY v1) (some<|aq<|C4 t.op t.name v1):=ah
def az8 m(t:Term)(env:List (List Val))(db:List Data)(_ht:WS .term t)(_he:WL .row env)(_hd:WL .data db)(hm:8*t.ht+7<m+1)(h:gT t env db):afh m t env db=some (aq (eP t env db)):=by
 have hT:=h;obtain⟨G,e,g⟩:=h;have hv:=hT.is;have hkl:t.kids.length≤2000000:=by have:=fG t.kids;have:=t.sz_eq;have:=g.sz;omega
 have kid:∀x∈t.kids,gT x env db:=fun x hx=>⟨G,e,g.kid G hx⟩;generalize eP t env db=v at hv ⊢;rw[uZ]at hv;have lp:(Di m (rA t env db (0:Int) [])).bind (zd (J7 m))=J7 m (.exit 1) (rA t env db (t.kids.length:Int) (t.kids.map fun x=>eP x env db)):=by
  obtain⟨lp,_⟩:=zy (e:=.exit 1) (L:=Di m) (st:=fun(o:List Val) i=>rA t env db i o) (l:=t.kids) (d:=zb) (g:=fun o x=>o++[eP x env db]) (fun i o=>o.length=i) (by omega)
   (fun o i x hi hx hI=>by
    have hmem:x∈t.kids:=by grind
    have hht:=Term.ht_kid hmem;rw[afi];simp only[z8,hi,decide_true,if_true,and_true,y5,hx,Term.ids_eq]
    grind[z6,ze,List.length_singleton])
   (fun o _=>by rw[afi];simp[z8]) [] rfl
  rw[ij,yr]at lp;exact zf lp
 rw[az6,lp];simp only[z8,Term.ids_eq,beq_iff_eq,bne_iff_ne,ne_eq];by_cases c12:t.op=1∨t.op=2
 ·rw[if_pos c12]at hv;obtain⟨⟨h1,h2,h3⟩,h4⟩:=chkQ_some.1 hv;obtain rfl:=yg h4;rw[if_neg (by omega),if_neg (by omega),if_neg (by omega)];rcases c12 with c|c
  ·rw[if_pos c,z6 h1,z6 h2,z6 h3];rfl
  ·rw[if_neg (by omega),if_pos c,z6 h1,z6 h2,z6 h3];rfl
 rw[if_neg c12]at hv;by_cases c3:t.op=26
 ·rw[if_pos c3]at hv ⊢;obtain⟨l,hl,h4⟩:=y6.1 hv;obtain rfl:=yg h4;have es:ji t env db=l:=pb hl;rw[z6 (by omega),z6 hT,es];by_cases d1:l.length=1
  ·rw[if_neg (by omega),z6 (by omega)];by_cases d2:0<(l.getD 0 []).length
   ·rw[if_neg (by omega),z6 (by omega),z6 (by omega),if_pos ⟨d1,d2⟩]
   grind
  grind
 rw[if_neg c3]at hv ⊢;by_cases c4:t.op=27
 ·rw[if_pos c4]at hv ⊢;obtain⟨l,hl,h4⟩:=y6.1 hv;have es:ji t env db=l:=pb hl;have ed:decide ((l.length:Int)>0)=decide (0<l.length):=decide_eq_decide.2 (by omega);grind[z6,O0,IQ]
 rw[if_neg c4]at hv ⊢;by_cases c5:t.op=28
 ·rw[if_pos c5]at hv ⊢;by_cases d:t.kids.length=0
  ·grind
  ·rw[if_neg d]at hv;obtain⟨x,hx,h4⟩:=y6.1 hv;obtain⟨l,hl,h5⟩:=y6.1 h4;obtain rfl:=yg h5;rw[sr,if_neg d]at hx;have hk:(t.kids.getD 0 zb).ht<t.ht:=Term.ht_kidD (by omega);have es:ji t env db=l:=pb hl;have ex:eP (t.kids.getD 0 zb) env db=x:=qU hx;rw[if_neg (by omega),z6 (by omega),z6 (by omega),z6 (kid _ (cG (by omega))),z6 (by omega),z6 hT,es,ex];rfl
 rw[if_neg c5]at hv ⊢;rw[if_neg (fun e=>c12 (.inl e)),if_neg (fun e=>c12 (.inr e)),az7];rw[if_pos hkl,ss,uc (g:=fun x=>eP x env db) t.kids fun x hx=>(kid x hx).is,yj]at hv;obtain⟨h5,h6⟩:=chkQ_some.1 hv;obtain rfl:=yg h6;rw[z6 h5];rfl
def az9(m:Nat)(hG:nt m):aj 37 (po<|m+1):=jl zo zi zi (M:=(Ga m)) rfl ⟨hG.1,JB,hG.2.1,azr,ayy,adW,trivial⟩ Tryz.func37 fun t env db=>GiF.r fun w o=>az8 m t env db (am w 0) (am w 1) (am w 2) (aA o 0)<|aA o 1
def afj(m:Nat):Mc Un:=az [(100,ub),(37,po m),(99,rd)] [] [] [] []
def afk(m:Nat)(l:List Term)(r:List Val)(env:List (List Val))(db:List Data):Option (RF Un):=aw (afj m) aV Tryz.f50 0 [.d] [.d<|.v<|.dat (U:=Un) Ty.term l,.d<|.v<|.dat (U:=Un) Ty.val r,.d<|.v<|.dat (U:=Un) Ty.row env,.d<|.v<|.dat (U:=Un) Ty.data db]
def aAa(m l r env db):afk m l r env db=af ((↑l.length:Int)==(0:Int)) (some<|jo true) (ae ((0:Int)≤(0:Int)∧(0:Int)<(↑l.length:Int))<|ae (env.length≤(100000000:Nat))<|ae ((8:Nat)*(Term.ids<|l.getD 0 zb).ht+(7:Nat)<m)<|ae (gT (Term.ids<|l.getD 0 zb) (kO r env) db)<|some<|jo<|ir (eP (Term.ids<|l.getD 0 zb) (kO r env) db)==2):=ah
def aAb m(l:List Term)(r:List Val)(env:List (List Val))(db:List Data)(_hl:WL .term l)(_hr:WL .val r)(_he:WL .row env)(_hd:WL .data db)(hm:8*aY l+8<m+1)(h:gSo l r env db):afk m l r env db=some (jo<|lY l r env db):=by
 have hs:=h.is;obtain⟨hE,hlen,hg⟩:=h;rw[aAa];simp only[z8,Term.ids_eq,beq_iff_eq]
 match l,hlen,hg,hs,hm with
 |[],_,_,hs,_=>
  simp_all[cF,y8,if_pos]
 |[t],_,hg,hs,hm=>
  have hT:=hg t<|yl.2 rfl;have hht:=jy (l:=[t])<|yl.2 rfl;rw[if_neg<|by simp,z6<|by simp,z6 hE];show ae (8*t.ht+7<m) (ae (gT t (r::env) db)<|some<|jo<|dN (eP t (r::env) db)==2)=_;rw[z6<|by omega,z6 hT];simp only[cF,hT.is,yj]at hs;grind
def aAc(m:Nat)(hG:nt m):aj 50 (ud<|m+1):=by
 intro args ob rs os h hob;unfold ud at h;split at h
 ·simp only[y6,y8,yi]at h;obtain⟨l,e0,r,e1,env,e2,db,e3,rfl,rfl,rfl⟩:=h;obtain rfl:=zi e0;obtain rfl:=zi e1;obtain rfl:=zi e2;obtain rfl:=zi e3;exact⟨dz (M:=(afj m)) rfl (cM (l1:=[(100,ub),(37,po m),(99,rd)]) (l2:=[]) (l3:=[]) (l4:=[]) (l5:=[]) ⟨PC,hG.2.1,xU,trivial⟩ trivial trivial trivial trivial) Tryz.func50 (by kernel_rfl) aV 0 [.d] fun hwf=>(aAb m l r env db (bj hwf (a:=.d<|.v<|.dat (U:=Un) Ty.term l)<|y9 (i:=0) rfl) (bj hwf (a:=.d<|.v<|.dat (U:=Un) Ty.val r)<|y9 (i:=1) rfl) (bj hwf (a:=.d<|.v<|.dat (U:=Un) Ty.row env)<|y9 (i:=2) rfl) (bj hwf (a:=.d<|.v<|.dat (U:=Un) Ty.data db)<|y9 (i:=3) rfl) (hob _<|y9 (i:=0) rfl)<|hob _<|y9 (i:=1) rfl),zl Tryz.func50 (by kernel_rfl)<|by kernel_rfl⟩
 ·simp at h
def J8(m:Nat):Mc Un:=az [(96,Da),(50,ud m)] [] [] [] []
def J9:Nat→NS:=aO [(3,{ts:=bl 40 6175,bs:=bl 40 0,nm:=[(.sl 11,160)],cs:=true})] true
def uf(terms:List Term)(l:List Val)(right:List (List Val))(env:List (List Val))(db:List Data)(v0:Int)(v1:List (List Val)):S Un:=(st 40 40 161 0 [(0,al .term terms),(1,al .val l),(2,al .row right),(3,al .row env),(4,al .data db),(11,ao 160),(12,ai v0)] [] [(160,some ⟨(0:Nat),Ty.row,v1,some (0:Nat),true⟩)])
def Dj(m:Nat):S Un→Option (EX Un):=aC (J8 m) J9 Tryz.f95 [1,1,0,1,2,2] 3
def afl(m:Nat):Exit→S Un→Option (RF Un):=aE (J8 m) J9 Tryz.f95 [1,1,0,1,2] [.m]
def afm(m:Nat)(terms:List Term)(l:List Val)(right:List (List Val))(env:List (List Val))(db:List Data):Option (RF Un):=aw (J8 m) J9 Tryz.f95 1 [.m] [.d<|.v<|.dat (U:=Un) Ty.term terms,.d<|.v<|.dat (U:=Un) Ty.val l,.d<|.v<|.dat (U:=Un) Ty.row right,.d<|.v<|.dat (U:=Un) Ty.row env,.d<|.v<|.dat (U:=Un) Ty.data db]
def aAd(m terms l right env db):afm m terms l right env db=(Dj m<|uf terms l right env db (0:Int)<|[]).bind (zd<|afl m):=ah
def afn(m terms l right env db v0 v1):Dj m (uf terms l right env db v0 v1)=af (decide<|v0<(↑right.length:Int)) (ae (0≤v0∧v0<(↑right.length:Int))<|ae (l.length≤(100000000:Nat))<|ae (List.length (right.getD v0.toNat [])≤(100000000:Nat))<|ae ((8:Nat)*aY terms+(8:Nat)<m)<|ae (gSo terms (lW l<|right.getD v0.toNat []) env db)<|af (lY terms (lW l<|right.getD v0.toNat []) env db) (ae (0≤v0∧v0<(↑right.length:Int))<|ae (l.length≤(100000000:Nat))<|ae (List.length (right.getD v0.toNat [])≤(100000000:Nat))<|ae ((v1.length+[lW l<|right.getD v0.toNat []].length)*(24:Nat)≤ze)<|Dj m<|uf terms l right env db (IntKind.i64.wrap<|v0+1)<|v1++[lW l<|right.getD v0.toNat []])<|Dj m<|uf terms l right env db (IntKind.i64.wrap<|v0+1) v1) (some (.exit 0,(uf terms l right env db v0 v1))):=aF
def aAe(m terms l right env db v0 v1):afl m (.exit 0) (uf terms l right env db v0 v1)=some (afe v1):=ah
def aAf m(terms:List Term)(l:List Val)(right env:List (List Val))(db:List Data)(_ht:WL .term terms)(_hl:WL .val l)(hr:WL .row right)(_he:WL .row env)(_hd:WL .data db)(hm:8*aY terms+9<m+1)(h:J5 terms l right env db):afm m terms l right env db=some (afe<|nr terms l right env db):=by
 obtain⟨h1,h2,h3⟩:=h
 obtain⟨lp,_⟩:=zy (e:=.exit 0) (L:=Dj m) (st:=fun(o:Rows) i=>uf terms l right env db i o) (l:=right) (d:=[]) (g:=fun o b=>if lY terms (l++b) env db=true then o++[l++b]else o) (fun i o=>o.length≤i) hr.len
  (fun o i b hi hb hI=>by
   rw[afn];simp only[z8,hi,decide_true,if_true,and_true,y5,hb,lW]
   grind[z6,ze,List.length_singleton])
  (fun o _=>by rw[afn];simp[z8]) [] (y7 _)
 rw[aAd];refine(zf lp).trans ?_;have e:right.foldl (fun o b=>if lY terms (l++b) env db=true then o++[l++b]else o) []=nr terms l right env db:=by
  have:=Df (fun x=>lY terms x env db) (right.map (l++·)) [];rw[P5,yr]at this;exact this
 rw[aAe,e]
def aAg(m:Nat)(hG:nt m):aj 95 (yH<|m+1):=by
 intro args ob rs os h hob;unfold yH at h;split at h
 ·simp only[y6,y8,yi]at h;obtain⟨terms,e0,l,e1,right,e2,env,e3,db,e4,rfl,rfl,rfl⟩:=h;obtain rfl:=zi e0;obtain rfl:=zi e1;obtain rfl:=zi e2;obtain rfl:=zi e3;obtain rfl:=zi e4;exact⟨dz (M:=(J8 m)) rfl (cM (l1:=[(96,Da),(50,ud m)]) (l2:=[]) (l3:=[]) (l4:=[]) (l5:=[]) ⟨aeQ,hG.2.2.1,trivial⟩ trivial trivial trivial trivial) Tryz.func95 (by kernel_rfl) J9 1 [.m] fun hwf=>(aAf m terms l right env db (bj hwf (a:=.d<|.v<|.dat (U:=Un) Ty.term terms)<|y9 (i:=0) rfl) (bj hwf (a:=.d<|.v<|.dat (U:=Un) Ty.val l)<|y9 (i:=1) rfl) (bj hwf (a:=.d<|.v<|.dat (U:=Un) Ty.row right)<|y9 (i:=2) rfl) (bj hwf (a:=.d<|.v<|.dat (U:=Un) Ty.row env)<|y9 (i:=3) rfl) (bj hwf (a:=.d<|.v<|.dat (U:=Un) Ty.data db)<|y9 (i:=4) rfl) (hob _<|y9 (i:=0) rfl)<|hob _<|y9 (i:=1) rfl),zl Tryz.func95 (by kernel_rfl)<|by kernel_rfl⟩
 ·simp at h
def Ka(m:Nat):Mc Un:=az [(17,yJ m),(95,yH m),(19,sS),(97,PH),(96,Da)] [] [] [] []
def Kb:Nat→NS:=aO [(5,{ts:=bl 69 7710,bs:=bl 69 16,nm:=[(.sl 11,276)],cs:=true})] true
def iu(r:Rel)(env:List (List Val))(db:List Data):=jV (Rel.mk (Rel.op<|r.kids.getD 0 za) (Rel.table<|r.kids.getD 0 za) (Rel.cols<|r.kids.getD 0 za) (Rel.kids<|r.kids.getD 0 za) (Rel.terms<|r.kids.getD 0 za) (Rel.aggs<|r.kids.getD 0 za) (Rel.keys<|r.kids.getD 0 za) (Rel.limit<|r.kids.getD 0 za) (Rel.skip<|r.kids.getD 0 za) (Rel.all<|r.kids.getD 0 za)<|Rel.rows<|r.kids.getD 0 za) env db
def rB(r:Rel)(env:List (List Val))(db:List Data):=jV (Rel.mk (Rel.op<|r.kids.getD 1 za) (Rel.table<|r.kids.getD 1 za) (Rel.cols<|r.kids.getD 1 za) (Rel.kids<|r.kids.getD 1 za) (Rel.terms<|r.kids.getD 1 za) (Rel.aggs<|r.kids.getD 1 za) (Rel.keys<|r.kids.getD 1 za) (Rel.limit<|r.kids.getD 1 za) (Rel.skip<|r.kids.getD 1 za) (Rel.all<|r.kids.getD 1 za)<|Rel.rows<|r.kids.getD 1 za) env db
def yK(r:Rel):=eh<|Rel.mk (Rel.op<|r.kids.getD 1 za) (Rel.table<|r.kids.getD 1 za) (Rel.cols<|r.kids.getD 1 za) (Rel.kids<|r.kids.getD 1 za) (Rel.terms<|r.kids.getD 1 za) (Rel.aggs<|r.kids.getD 1 za) (Rel.keys<|r.kids.getD 1 za) (Rel.limit<|r.kids.getD 1 za) (Rel.skip<|r.kids.getD 1 za) (Rel.all<|r.kids.getD 1 za)<|Rel.rows<|r.kids.getD 1 za
def Dk(r:Rel)(env:List (List Val))(db:List Data)(v0:Int):=nr r.terms ((iu r env db).getD v0.toNat []) (rB r env db) env db
def pp(r:Rel)(left:Bool)(env:List (List Val))(db:List Data)(v0:Int)(v1:List (List Val)):S Un:=(st 69 69 277 0 [(1,ab left),(2,al .row env),(3,al .data db),(4,ax 4),(9,al .row<|iu r env db),(10,al .row<|rB r env db),(11,ao 276),(12,ai v0)] [(4,bg .rel r)] [(276,some ⟨(0:Nat),Ty.row,v1,some (0:Nat),true⟩)])
def Dl(m:Nat):S Un→Option (EX Un):=aC (Ka m) Kb Tryz.f48 [1,1,1,1,0,1,2,2] 5
def afo(m:Nat):Exit→S Un→Option (RF Un):=aE (Ka m) Kb Tryz.f48 [1,1,1,1,0,1,2] [.d]
def afp(m:Nat)(r:Rel)(left:Bool)(env:List (List Val))(db:List Data):Option (RF Un):=aw (Ka m) Kb Tryz.f48 1 [.d] [.d<|.agg<|enc Ty.rel r,.d<|.v<|cb left,.d<|.v<|.dat (U:=Un) Ty.row env,.d<|.v<|.dat (U:=Un) Ty.data db]
theorem aAh(m r left env db):afp m r left env db=ae ((0:Int)≤(0:Int)∧(0:Int)<(↑r.kids.length:Int)) (ae ((8:Nat)*(Rel.ids<|r.kids.getD 0 za).ht+(7:Nat)<m)<|ae (gR (Rel.ids<|r.kids.getD 0 za) env db)<|ae ((0:Int)≤(1:Int)∧(1:Int)<(↑r.kids.length:Int))<|ae ((8:Nat)*(Rel.ids<|r.kids.getD 1 za).ht+(7:Nat)<m)<|ae (gR (Rel.ids<|r.kids.getD 1 za) env db)<|(Dl m<|pp r left env db (0:Int)<|[]).bind<|zd<|afo m):=ah
def Kc(m:Nat)(r:Rel)(left:Bool)(env:List (List Val))(db:List Data)(v0:Int)(v1:List (List Val)):Option (EX Un):=ae ((v1.length+(Dk r env db v0).length)*(24:Nat)≤ze)<|Dl m<|pp r left env db (IntKind.i64.wrap<|v0+1)<|v1++nr r.terms ((iu r env db).getD v0.toNat []) (rB r env db) env db
def afq(m r left env db v0 v1):Dl m (pp r left env db v0 v1)=af (decide<|v0<(↑(iu r env db).length:Int)) (ae (0≤v0∧v0<(↑(iu r env db).length:Int))<|ae ((8:Nat)*aY r.terms+(9:Nat)<m)<|ae (J5 r.terms ((iu r env db).getD v0.toNat []) (rB r env db) env db)<|af left (af ((↑(Dk r env db v0).length:Int)==(0:Int)) (ae (0≤v0∧v0<(↑(iu r env db).length:Int))<|ae ((0:Int)≤(1:Int)∧(1:Int)<(↑r.kids.length:Int))<|ae (eh (Rel.ids<|r.kids.getD 1 za)≤100000000)<|ae (List.length ((iu r env db).getD v0.toNat [])≤(100000000:Nat))<|ae ((rr<|yK r).length≤(100000000:Nat))<|ae (((Dk r env db v0).length+[lW ((iu r env db).getD v0.toNat [])<|rr<|yK r].length)*(24:Nat)≤ze)<|ae ((v1.length+(nr r.terms ((iu r env db).getD v0.toNat []) (rB r env db) env db++[lW ((iu r env db).getD v0.toNat [])<|rr<|yK r]).length)*(24:Nat)≤ze)<|Dl m<|pp r left env db (IntKind.i64.wrap<|v0+1)<|v1++(nr r.terms ((iu r env db).getD v0.toNat []) (rB r env db) env db++[lW ((iu r env db).getD v0.toNat [])<|rr<|yK r]))<|Kc m r left env db v0 v1)<|Kc m r left env db v0 v1) (some (.exit 0,(pp r left env db v0 v1))):=aF
theorem aAi(m r left env db v0 v1):afo m (.exit 0) (pp r left env db v0 v1)=some (A4 v1):=ah
def aAj m(r:Rel) left(env:List (List Val))(db:List Data)(_hr:WS .rel r)(_he:WL .row env)(_hd:WL .data db)(hm:8*r.ht+6<m+1)(h:J6 r left env db):afp m r left env db=some (A4 (pn r left env db)):=by
 obtain⟨hR,hop⟩:=h;have hc:r.op=5∨r.op=6:=by omega
 have hdl:decide (r.op=6)=left:=by grind
 have ht:=Rel.ht_terms r;obtain⟨hE,htl,_⟩:=hR.deep;have hkd:=hR.kids;rw[Bx hc]at hkd;obtain⟨k0,l,r0,n0,F0⟩:=hR.kid (show r.op≠1 by omega) (show 0<r.kids.length by omega);obtain⟨k1,right,r1,n1,F1⟩:=hR.kid (show r.op≠1 by omega) (show 1<r.kids.length by omega);obtain⟨w0,w0',_⟩:=k0.narrow;obtain⟨w1,w1',w1c⟩:=k1.narrow;have hrl:right.length≤1048576:=by rcases k1.few r1 with h|h<;>omega
 have hll:l.length≤1048576:=by rcases k0.few r0 with h|h<;>omega
 have hh0:(r.kids.getD 0 za).ht<r.ht:=Rel.ht_kid (cG (by omega));have hh1:(r.kids.getD 1 za).ht<r.ht:=Rel.ht_kid (cG (by omega));have c1:iu r env db=l:=by unfold iu;rw[AZ];exact jb r0
 have c2:rB r env db=right:=by unfold rB;rw[AZ];exact jb r1
 have c3:rr (yK r)=List.replicate (r.kids.getD 1 za).cols.length z7:=by
  grind[yK,AZ,og,rr,bQ,za]
 have c4:∀(i:Nat)(a:List Val),l.getD i []=a→Dk r env db (i:Int)=nr r.terms a right env db:=fun i a ha=>by simp_all[Dk,y5]
 obtain⟨v,hv,_⟩:=hR.ex;rw[u7,if_neg (by omega),if_neg (by omega),if_neg (by omega),if_neg (by omega),if_pos hc,y6]at hv;obtain⟨v',hJ,hcap⟩:=hv;obtain⟨rfl,hvl⟩:=qO hcap;have eN:pn r left env db=v':=by simp_all[pn,lQ,u9]
 rw[eN];unfold sm at hJ;rw[if_neg (by omega),if_pos ⟨show env.length≤_ by omega,by omega⟩]at hJ;dsimp only at hJ;rw[n1,yj,n0,yj,hdl,y6]at hJ;obtain⟨s,hS,hc2⟩:=hJ;obtain rfl:=(qO hc2).1
 have key:∀(q:Rows)(i:Nat)(o u:Rows),l.drop i=q→i≤l.length→lN left (List.replicate (r.kids.getD 1 za).cols.length z7) (fun x=>if x.length≤100000000 then cF r.terms (zp ⟨env,db⟩ x)else none) right q=some u→o.length+u.length≤100000000→
  Dl m (pp r left env db (i:Int) o)=some (.exit 0,pp r left env db (l.length:Int) (o++u)):=by
  intro q
  induction q with
  |nil=>
   intro i o u hq hi hu _;have hil:l.length≤i:=by simp_all
   simp only[lN,y8]at hu;rw[afq,c1,z8,if_neg (by grind),←hu,de,show i=l.length by omega]
  |cons a q ih=>
   intro i o u hq hi hu ho;obtain⟨a1,a2,a3,ham⟩:=d9 hq;have ha:l.getD i []=a:=a2 [];have hal:(a.length:Int)=_:=F0.wide a ham;simp only[lN,y6,y8]at hu;obtain⟨u1,hf,u2,hu2,s,hs,rfl⟩:=hu
   have hM:J5 r.terms a right env db:=⟨by omega,by omega,fun b hb=>by
    have hbl:(b.length:Int)=_:=F1.wide b hb;refine⟨by omega,by omega,hR.one (by omega),fun t ht=>hR.term (by omega) n0 ham (tK ht) fun v hv=>?_⟩;rcases ye.1 hv with hv|hv
    ·exact F0.short a ham v hv
    ·exact F1.short b hb v hv⟩
   have hmt:nr r.terms a right env db=u1:=afc (fun x=>kM ⟨env,db⟩ r.terms x) hf fun x _ b hb=>by
    split at hb
    ·exact xM hb
    ·simp at hb
   rw[yb]at ho;have hnext:=ih (i+1) (o++u2) s a3 (by omega) hs (by rw[yb];omega);rw[yw]at hnext;have hw:IntKind.i64.wrap ((i:Int)+1)=((i+1:Nat):Int):=by rw[zm (by omega)];omega
   have t1:u2=u1→Kc m r left env db (i:Int) o=some (.exit 0,pp r left env db (l.length:Int) (o++(u2++s))):=fun e=>by
    rw[e]at hnext ho ⊢;unfold Kc;rw[c4 i a ha,c1,c2,y5,ha,hmt,hw,z6 (by unfold ze;omega),hnext]
   rw[afq,c4 i a ha,c1,c2,c3,y5,ha,hmt];simp only[z8,decide_eq_true_eq,beq_iff_eq,Rel.ids_eq,og,lW,hw];rw[if_pos (by omega),z6 (by omega),z6 (by omega),z6 hM];by_cases d1:left=true
   ·rw[if_pos d1];by_cases d2:u1.length=0
    ·have d12:=And.intro d2 d1;rw[if_pos d12]at hu2;split at hu2
     ·obtain rfl:=yg hu2;have hu1:u1=[]:=yx d2;rw[if_pos (by omega),z6 (by omega),z6 (by omega),z6 (by omega),z6 (by omega),z6 (by rw[sE];omega),z6 (by unfold ze;rw[yd];omega),z6 (by unfold ze;rw[yb,yd];omega),hu1,yr,hnext]
     ·simp at hu2
    ·have d12:¬(u1.length=0∧left=true):=fun e=>d2 e.1;rw[if_neg d12]at hu2;rw[if_neg (by omega),t1 (yg hu2).symm]
   grind
 have lp:=key l 0 [] _ rfl (yc _) hS (by rw[nN];omega);grind[aAh,Rel.ids_eq,z6,zf,trans,aAi]
def aAk(m:Nat)(hG:nt m):aj 48 (Dg<|m+1):=by
 intro args ob rs os h hob;unfold Dg at h;split at h
 ·simp only[y6,y8,yi]at h;obtain⟨r,e0,left,e1,env,e2,db,e3,rfl,rfl,rfl⟩:=h;obtain rfl:=zo e0;obtain rfl:=mu e1;obtain rfl:=zi e2;obtain rfl:=zi e3;exact⟨dz (M:=(Ka m)) rfl (cM (l1:=[(17,yJ m),(95,yH m),(19,sS),(97,PH),(96,Da)]) (l2:=[]) (l3:=[]) (l4:=[]) (l5:=[]) ⟨hG.2.2.2.2.2.2.2.2,hG.2.2.2.1,BH,azx,aeQ,trivial⟩ trivial trivial trivial trivial) Tryz.func48 (by kernel_rfl) Kb 1 [.d] fun hwf=>(aAj m r left env db (bj hwf (a:=.d<|.agg<|enc Ty.rel r)<|y9 (i:=0) rfl) (bj hwf (a:=.d<|.v<|.dat (U:=Un) Ty.row env)<|y9 (i:=2) rfl) (bj hwf (a:=.d<|.v<|.dat (U:=Un) Ty.data db)<|y9 (i:=3) rfl) (hob _<|y9 (i:=0) rfl)<|hob _<|y9 (i:=1) rfl),zl Tryz.func48 (by kernel_rfl)<|by kernel_rfl⟩
 ·simp at h
def Kd(m:Nat):Mc Un:=az [(100,ub),(37,po m)] [] [] [] []
def Ke:Nat→NS:=aO [(3,{ts:=bl 31 1551,bs:=bl 31 0,nm:=[(.sl 9,124)],cs:=true})] true
def yL(l:List Term)(r:List Val)(env:List (List Val))(db:List Data)(v0:Int)(v1:List Val):S Un:=(st 31 31 125 0 [(0,al .term l),(1,al .val r),(2,al .row env),(3,al .data db),(9,ao 124),(10,ai v0)] [] [(124,some ⟨(0:Nat),Ty.val,v1,some (0:Nat),true⟩)])
def Kf(m:Nat):S Un→Option (EX Un):=aC (Kd m) Ke Tryz.f51 [1,1,0,1,2,2] 3
def afr(m:Nat):Exit→S Un→Option (RF Un):=aE (Kd m) Ke Tryz.f51 [1,1,0,1,2] [.d]
def afs(m:Nat)(l:List Term)(r:List Val)(env:List (List Val))(db:List Data):Option (RF Un):=aw (Kd m) Ke Tryz.f51 1 [.d] [.d<|.v<|.dat (U:=Un) Ty.term l,.d<|.v<|.dat (U:=Un) Ty.val r,.d<|.v<|.dat (U:=Un) Ty.row env,.d<|.v<|.dat (U:=Un) Ty.data db]
def aAl(m l r env db):afs m l r env db=(Kf m<|yL l r env db (0:Int)<|[]).bind (zd<|afr m):=ah
def aft(m l r env db v0 v1):Kf m (yL l r env db v0 v1)=af (decide<|v0<(↑l.length:Int)) (ae (0≤v0∧v0<(↑l.length:Int))<|ae (env.length≤(100000000:Nat))<|ae ((8:Nat)*(Term.ids<|l.getD v0.toNat zb).ht+(7:Nat)<m)<|ae (gT (Term.ids<|l.getD v0.toNat zb) (kO r env) db)<|ae ((v1.length+[(eP (Term.ids<|l.getD v0.toNat zb) (kO r env) db)].length)*(32:Nat)≤ze)<|Kf m<|yL l r env db (IntKind.i64.wrap<|v0+1)<|v1++[(eP (Term.ids<|l.getD v0.toNat zb) (kO r env) db)]) (some (.exit 0,(yL l r env db v0 v1))):=aF
def aAm(m l r env db v0 v1):afr m (.exit 0) (yL l r env db v0 v1)=some (CP v1):=ah
def aAn m(l:List Term)(r:List Val)(env:List (List Val))(db:List Data)(hl:WL .term l)(_hr:WL .val r)(_he:WL .row env)(_hd:WL .data db)(hm:8*aY l+8<m+1)(h:gTs l r env db):afs m l r env db=some (CP<|eo l r env db):=by
 rw[h.eq];obtain⟨hE,hlen,hg⟩:=h
 obtain⟨lp,_⟩:=zy (e:=.exit 0) (L:=Kf m) (st:=fun(o:List Val) i=>yL l r env db i o) (l:=l) (d:=zb) (g:=fun o t=>o++[eP t (r::env) db]) (fun i o=>o.length=i) hl.len
  (fun o i t hi ht hI=>by
   have hmem:t∈l:=by grind
   have hht:=jy hmem;rw[aft];simp only[z8,hi,decide_true,if_true,and_true,y5,ht,Term.ids_eq,kO]
   grind[z6,ze,List.length_singleton])
  (fun o _=>by rw[aft];simp[z8]) [] rfl
 rw[ij,yr]at lp;rw[aAl];refine(zf lp).trans ?_;rw[aAm]
def aAo(m:Nat)(hG:nt m):aj 51 (ue<|m+1):=by
 intro args ob rs os h hob;unfold ue at h;split at h
 ·simp only[y6,y8,yi]at h;obtain⟨l,e0,r,e1,env,e2,db,e3,rfl,rfl,rfl⟩:=h;obtain rfl:=zi e0;obtain rfl:=zi e1;obtain rfl:=zi e2;obtain rfl:=zi e3;exact⟨dz (M:=(Kd m)) rfl (cM (l1:=[(100,ub),(37,po m)]) (l2:=[]) (l3:=[]) (l4:=[]) (l5:=[]) ⟨PC,hG.2.1,trivial⟩ trivial trivial trivial trivial) Tryz.func51 (by kernel_rfl) Ke 1 [.d] fun hwf=>(aAn m l r env db (bj hwf (a:=.d<|.v<|.dat (U:=Un) Ty.term l)<|y9 (i:=0) rfl) (bj hwf (a:=.d<|.v<|.dat (U:=Un) Ty.val r)<|y9 (i:=1) rfl) (bj hwf (a:=.d<|.v<|.dat (U:=Un) Ty.row env)<|y9 (i:=2) rfl) (bj hwf (a:=.d<|.v<|.dat (U:=Un) Ty.data db)<|y9 (i:=3) rfl) (hob _<|y9 (i:=0) rfl)<|hob _<|y9 (i:=1) rfl),zl Tryz.func51 (by kernel_rfl)<|by kernel_rfl⟩
 ·simp at h
def Gb(m:Nat):Mc Un:=az [(100,ub),(37,po m),(151,Pw)] [] [] [] []
def Gc:Nat→NS:=aO [(3,{ts:=bl 44 1822,bs:=bl 44 272,nm:=[(.sl 9,176)],cs:=true})] true
def ug(a:Agg)(l:List (List Val))(env:List (List Val))(db:List Data)(v0:Int)(v1:List Val):S Un:=(st 44 44 177 0 [(1,al .row l),(2,al .row env),(3,al .data db),(4,ax 4),(8,ax 8),(9,ao 176),(10,ai v0)] [(4,bg .agg a),(8,bg .val z7)] [(176,some ⟨(0:Nat),Ty.val,v1,some (0:Nat),true⟩)])
def Dm(m:Nat):S Un→Option (EX Un):=aC (Gb m) Gc Tryz.f101 [1,1,0,1,2,2] 3
def afu(m:Nat):Exit→S Un→Option (RF Un):=aE (Gb m) Gc Tryz.f101 [1,1,0,1,2] [.d]
def afv(m:Nat)(a:Agg)(l:List (List Val))(env:List (List Val))(db:List Data):Option (RF Un):=aw (Gb m) Gc Tryz.f101 1 [.d] [.d<|.agg<|enc Ty.agg a,.d<|.v<|.dat (U:=Un) Ty.row l,.d<|.v<|.dat (U:=Un) Ty.row env,.d<|.v<|.dat (U:=Un) Ty.data db]
def aAp(m a l env db):afv m a l env db=(Dm m<|ug a l env db (0:Int)<|[]).bind (zd<|afu m):=ah
def afw(m a l env db v0 v1):Dm m (ug a l env db v0 v1)=af (decide<|v0<(↑l.length:Int)) (af ((↑a.t.length:Int)==(0:Int)) (ae ((v1.length+[z7].length)*(32:Nat)≤ze)<|Dm m<|ug a l env db (IntKind.i64.wrap<|v0+1)<|v1++[z7])<|ae ((0:Int)≤(0:Int)∧(0:Int)<(↑a.t.length:Int))<|ae (0≤v0∧v0<(↑l.length:Int))<|ae (env.length≤(100000000:Nat))<|ae ((8:Nat)*(Term.ids<|a.t.getD 0 zb).ht+(7:Nat)<m)<|ae (gT (Term.ids<|a.t.getD 0 zb) (kO (l.getD v0.toNat []) env) db)<|ae ((v1.length+[(eP (Term.ids<|a.t.getD 0 zb) (kO (l.getD v0.toNat []) env) db)].length)*(32:Nat)≤ze)<|Dm m<|ug a l env db (IntKind.i64.wrap<|v0+1)<|v1++[(eP (Term.ids<|a.t.getD 0 zb) (kO (l.getD v0.toNat []) env) db)]) (some (.exit 0,(ug a l env db v0 v1))):=aF
def aAq(m a l env db v0 v1):afu m (.exit 0) (ug a l env db v0 v1)=ae (v1.length≤(1000000:Nat)) (some<|nG<|gx (Agg.ids a) v1):=ah
def aAr m(a:Agg)(l env:List (List Val))(db:List Data)(_ha:WS .agg a)(hl:WL .row l)(_he:WL .row env)(_hd:WL .data db)(hm:8*aY a.t+8<m+1)(h:gAg a l env db):afv m a l env db=some (nG (kP a l env db)):=by
 rw[h.eq];obtain⟨hE,hlen,hg⟩:=h
 obtain⟨lp,_⟩:=zy (e:=.exit 0) (L:=Dm m) (st:=fun(o:List Val) i=>ug a l env db i o) (l:=l) (d:=[]) (g:=fun o x=>o++[vk a env db x]) (fun i o=>o.length=i) hl.len
  (fun o i x hi hx hI=>by
   have hmem:x∈l:=by grind
   refine⟨by grind,?_⟩;rw[afw];simp only[z8,hi,decide_true,if_true,and_true,y5,hx,Term.ids_eq,beq_iff_eq,kO];unfold vk;by_cases c:a.t.length=0
   ·rw[if_pos (by omega),if_pos c,z6 (by grind[ze,List.length_singleton])]
   ·have hm':a.t.getD 0 zb∈a.t:=cG (by omega);have hht:=jy hm'
    rw[if_neg (by omega),if_neg c,z6 (by omega),z6 (by omega),z6 hE,z6 (by omega),z6 (hg x hmem _ hm'),z6 (by grind[ze,List.length_singleton])])
  (fun o _=>by rw[afw];simp[z8]) [] rfl
 rw[ij,yr]at lp;rw[aAp];refine(zf lp).trans ?_;rw[aAq,Agg.ids_eq,z6 (by grind),NW]
def aAs(m:Nat)(hG:nt m):aj 101 (yI<|m+1):=by
 intro args ob rs os h hob;unfold yI at h;split at h
 ·simp only[y6,y8,yi]at h;obtain⟨a,e0,l,e1,env,e2,db,e3,rfl,rfl,rfl⟩:=h;obtain rfl:=zo e0;obtain rfl:=zi e1;obtain rfl:=zi e2;obtain rfl:=zi e3;exact⟨dz (M:=(Gb m)) rfl (cM (l1:=[(100,ub),(37,po m),(151,Pw)]) (l2:=[]) (l3:=[]) (l4:=[]) (l5:=[]) ⟨PC,hG.2.1,ay0,trivial⟩ trivial trivial trivial trivial) Tryz.func101 (by kernel_rfl) Gc 1 [.d] fun hwf=>(aAr m a l env db (bj hwf (a:=.d<|.agg<|enc Ty.agg a)<|y9 (i:=0) rfl) (bj hwf (a:=.d<|.v<|.dat (U:=Un) Ty.row l)<|y9 (i:=1) rfl) (bj hwf (a:=.d<|.v<|.dat (U:=Un) Ty.row env)<|y9 (i:=2) rfl) (bj hwf (a:=.d<|.v<|.dat (U:=Un) Ty.data db)<|y9 (i:=3) rfl) (hob _<|y9 (i:=0) rfl)<|hob _<|y9 (i:=1) rfl),zl Tryz.func101 (by kernel_rfl)<|by kernel_rfl⟩
 ·simp at h
def nu(m:Nat):Mc Un:=az [(51,ue m),(53,C8),(43,BF),(101,yI m)] [] [] [] []
def gF:Nat→NS:=aO [(3,{ts:=bl 106 1566,bs:=bl 106 16,nm:=[(.sl 9,424)],cs:=true}),(11,{ts:=bl 106 14878,bs:=bl 106 16,nm:=[(.sl 9,425),(.sl 11,426),(.sl 12,427)],cs:=true}),(15,{ts:=bl 106 64030,bs:=bl 106 16,nm:=[(.sl 9,428),(.sl 11,429),(.sl 12,430),(.sl 14,431)],cs:=true}),(21,{ts:=bl 106 227870,bs:=bl 106 16,nm:=[(.sl 9,432),(.sl 11,433),(.sl 12,434),(.sl 14,435),(.sl 16,436)],cs:=true})] true
def Kg(r:Rel)(env:List (List Val))(db:List Data)(v6:List (List Val))(v7:Int):=kP (Agg.mk (Agg.name<|r.aggs.getD v7.toNat zr) (Agg.distinct<|r.aggs.getD v7.toNat zr)<|Agg.t<|r.aggs.getD v7.toNat zr) v6 env db
def yM(r:Rel)(l:List (List Val))(env:List (List Val))(db:List Data)(v0:Int)(v1:List (List Val)):S Un:=(st 106 106 437 0 [(1,al .row l),(2,al .row env),(3,al .data db),(4,ax 4),(9,ao 424),(10,ai v0)] [(4,bg .rel r)] [(424,some ⟨(0:Nat),Ty.row,v1,some (0:Nat),true⟩)])
def rC(r:Rel)(l:List (List Val))(env:List (List Val))(db:List Data)(v1:List (List Val))(v2:Int)(v3:List (List Val))(v4:List (List Val)):S Un:=(st 106 106 437 0 [(1,al .row l),(2,al .row env),(3,al .data db),(4,ax 4),(9,ao 425),(11,ao 426),(12,ao 427),(13,ai v2)] [(4,bg .rel r)] [(425,some ⟨(0:Nat),Ty.row,v1,none,true⟩),(426,some ⟨(0:Nat),Ty.row,v4,some (0:Nat),true⟩),(427,some ⟨(0:Nat),Ty.row,v3,some (0:Nat),true⟩)])
def pq(r:Rel)(l:List (List Val))(env:List (List Val))(db:List Data)(v2:Int)(v1:List (List Val))(v4:List (List Val))(v3:List (List Val))(v5:Int)(v6:List (List Val)):S Un:=(st 106 106 437 0 [(1,al .row l),(2,al .row env),(3,al .data db),(4,ax 4),(9,ao 428),(11,ao 429),(12,ao 430),(13,ai v2),(14,ao 431),(15,ai v5)] [(4,bg .rel r)] [(428,some ⟨(0:Nat),Ty.row,v1,none,true⟩),(429,some ⟨(0:Nat),Ty.row,v4,some (0:Nat),true⟩),(430,some ⟨(0:Nat),Ty.row,v3,some (0:Nat),true⟩),(431,some ⟨(0:Nat),Ty.row,v6,some (0:Nat),true⟩)])
def rD(r:Rel)(l:List (List Val))(env:List (List Val))(db:List Data)(v2:Int)(v1:List (List Val))(v4:List (List Val))(v3:List (List Val))(v6:List (List Val))(v7:Int)(v8:List Val):S Un:=(st 106 106 437 0 [(1,al .row l),(2,al .row env),(3,al .data db),(4,ax 4),(9,ao 432),(11,ao 433),(12,ao 434),(13,ai v2),(14,ao 435),(16,ao 436),(17,ai v7)] [(4,bg .rel r)] [(432,some ⟨(0:Nat),Ty.row,v1,none,true⟩),(433,some ⟨(0:Nat),Ty.row,v4,some (0:Nat),true⟩),(434,some ⟨(0:Nat),Ty.row,v3,some (0:Nat),true⟩),(435,some ⟨(0:Nat),Ty.row,v6,some (0:Nat),true⟩),(436,some ⟨(0:Nat),Ty.val,v8,some (0:Nat),true⟩)])
def Kh(m:Nat):S Un→Option (EX Un):=aC (nu m) gF Tryz.f52 [1,1,0,1,2,2] 3
def rE(m:Nat):S Un→Option (EX Un):=aC (nu m) gF Tryz.f52 [1,1,1,1,1,1,0,1,2,2] 11
noncomputable def afx:Code:=sub (sub (zh Tryz.f52) [1,1,1,1,1,1,0,1,2,2]) [1,0,2,1,0,1,2,2]
def yN(m:Nat):S Un→Option (EX Un):=bA (gF 15) fun s Q=>aR (nu m) gF afx s Q
noncomputable def afy:Code:=sub (sub (zh Tryz.f52) [1,1,1,1,1,1,0,1,2,2]) [1,0,2,1,1,1,0,1,2,2]
def Dn(m:Nat):S Un→Option (EX Un):=bA (gF 21) fun s Q=>aR (nu m) gF afy s Q
def afz(m:Nat):Exit→S Un→Option (RF Un):=aE (nu m) gF Tryz.f52 [1,1,0,1,2] [.d]
def Ki(m:Nat):Exit→S Un→Option (RF Un):=aE (nu m) gF Tryz.f52 [1,1,1,1,1,1,0,1,2] [.d]
def afA(m:Nat):Exit→S Un→Option (EX Un):=bu (nu m) gF (sub (zh Tryz.f52) [1,1,1,1,1,1,0,1,2,2]) [1,0,2,1,0,1,2]<|eV (gF 11)<|rE m
def afB(m:Nat):Exit→S Un→Option (EX Un):=bu (nu m) gF (sub (zh Tryz.f52) [1,1,1,1,1,1,0,1,2,2]) [1,0,2,1,1,1,0,1,2]<|eV (gF 11)<|rE m
def afC(m:Nat)(r:Rel)(l:List (List Val))(env:List (List Val))(db:List Data):Option (RF Un):=aw (nu m) gF Tryz.f52 13 [.d] [.d<|.agg<|enc Ty.rel r,.d<|.v<|.dat (U:=Un) Ty.row l,.d<|.v<|.dat (U:=Un) Ty.row env,.d<|.v<|.dat (U:=Un) Ty.data db]
def aAt(m r l env db):afC m r l env db=(Kh m<|yM r l env db (0:Int)<|[]).bind (zd<|afz m):=ah
def afD(m r l env db v0 v1):Kh m (yM r l env db v0 v1)=af (decide<|v0<(↑l.length:Int)) (ae (0≤v0∧v0<(↑l.length:Int))<|ae ((8:Nat)*aY r.terms+(8:Nat)<m)<|ae (gTs r.terms (l.getD v0.toNat []) env db)<|ae ((v1.length+[eo r.terms (l.getD v0.toNat []) env db].length)*(24:Nat)≤ze)<|Kh m<|yM r l env db (IntKind.i64.wrap<|v0+1)<|v1++[eo r.terms (l.getD v0.toNat []) env db]) (some (.exit 0,(yM r l env db v0 v1))):=aF
def aAu(m r l env db v0 v1):afz m (.exit 0) (yM r l env db v0 v1)=ae (v1.length≤(100000000:Nat)) (af ((↑r.terms.length:Int)==(0:Int)) ((rE m<|rC r l env db v1 (0:Int) ([])<|[[]]).bind<|zd<|Ki m)<|(rE m<|rC r l env db v1 (0:Int) ([])<|np v1).bind<|zd<|Ki m):=ah
def afE(m r l env db v1 v2 v3 v4):rE m (rC r l env db v1 v2 v3 v4)=af (decide<|v2<(↑v4.length:Int)) ((yN m<|pq r l env db v2 v1 v4 v3 (0:Int)<|[]).bind<|zd<|afA m) (some (.exit 2,(rC r l env db v1 v2 v3 v4))):=aF
def aAv(m r l env db v1 v2 v3 v4):Ki m (.exit 2) (rC r l env db v1 v2 v3 v4)=some (A4 v3):=ah
def afF m r l env db v2 v1 v4 v3 v5 v6:yN m (pq r l env db v2 v1 v4 v3 v5 v6)=af (decide<|v5<(↑l.length:Int)) (ae (0≤v5∧v5<(↑v1.length:Int))<|ae (0≤v2∧v2<(↑v4.length:Int))<|af (dA (v1.getD v5.toNat []) (v4.getD v2.toNat [])==0) (ae (0≤v5∧v5<(↑l.length:Int))<|ae ((v6.length+[l.getD v5.toNat []].length)*(24:Nat)≤ze)<|yN m<|pq r l env db v2 v1 v4 v3 (IntKind.i64.wrap<|v5+1)<|v6++[l.getD v5.toNat []])<|yN m<|pq r l env db v2 v1 v4 v3 (IntKind.i64.wrap<|v5+1) v6) (some (.exit 4,(pq r l env db v2 v1 v4 v3 v5 v6))):=(fU (gF 15) afx _).trans<|by kernel_rfl
def aAw(m r l env db v2 v1 v4 v3 v5 v6):afA m (.exit 4) (pq r l env db v2 v1 v4 v3 v5 v6)=ae (0≤v2∧v2<(↑v4.length:Int)) (ae ((0+List.length (v4.getD v2.toNat []))*(32:Nat)≤ze)<|(Dn m<|rD r l env db v2 v1 v4 v3 v6 (0:Int)<|v4.getD v2.toNat []).bind<|zd<|afB m):=ah
def afG m r l env db v2 v1 v4 v3 v6 v7 v8:Dn m (rD r l env db v2 v1 v4 v3 v6 v7 v8)=af (decide<|v7<(↑r.aggs.length:Int)) (ae (0≤v7∧v7<(↑r.aggs.length:Int))<|ae ((8:Nat)*aY (Agg.t<|r.aggs.getD v7.toNat zr)+(8:Nat)<m)<|ae (gAg (Agg.ids<|r.aggs.getD v7.toNat zr) v6 env db)<|ae ((v8.length+[(Kg r env db v6 v7)].length)*(32:Nat)≤ze)<|Dn m<|rD r l env db v2 v1 v4 v3 v6 (IntKind.i64.wrap<|v7+1)<|v8++[(Kg r env db v6 v7)]) (some (.exit 6,(rD r l env db v2 v1 v4 v3 v6 v7 v8))):=(fU (gF 21) afy _).trans<|by kernel_rfl
theorem aAx(m r l env db v2 v1 v4 v3 v6 v7 v8):afB m (.exit 6) (rD r l env db v2 v1 v4 v3 v6 v7 v8)=ae ((v3.length+[v8].length)*(24:Nat)≤ze) (rE m<|rC r l env db v1 (IntKind.i64.wrap<|v2+1) (v3++[v8]) v4):=ah
open Classical in
def aAy(m:Nat)(r:Rel)(l env:List (List Val))(db:List Data)(_hr:WS .rel r)(hl:WL .row l)(_he:WL .row env)(_hd:WL .data db)(hm:8*r.ht+6<m+1)(h:Ru r l env db):afC m r l env db=some (A4 (rz r l env db)):=by
 obtain⟨hR,hop,hk⟩:=h;have ht:=Rel.ht_terms r;obtain⟨hE,htl,hal⟩:=hR.deep;have hle:=hR.le hop hk;have hkd:=hR.kids;have e7:bD 7=1:=rfl;rw[hop,e7]at hkd;obtain⟨_,l',_,hk',hF⟩:=hR.kid (show r.op≠1 by omega) (show 0<r.kids.length by omega);rw[hk]at hk';obtain rfl:=yg hk';have g1:∀x∈l,gTs r.terms x env db:=fun x hx=>⟨by omega,by omega,fun t ht=>hR.term (by omega) hk hx (tK ht) (hF.short x hx)⟩
 have g2:∀h,∀a∈r.aggs,gAg a (iy r l env db h) env db:=fun h a ha=>⟨by omega,by grind[iy,Nat.le_trans,List.length_filter_le],fun x hx t ht=>by
  have hxl:=(y2u.1 hx).1
  exact hR.term (by omega) hk hxl (gL _ (afb ha ht)) (hF.short x hxl)⟩
 have hG:=az2 (show env.length≤100000000 by omega) (show r.terms.length≤100000000 by omega) (show r.aggs.length≤100000000 by omega) (show l.length≤100000000 by omega) hk g1 g2;have eG:rz r l env db=(A0 r l env db).map (A3 r l env db):=by simp_all[rz,m8]
 rw[eG]
 obtain⟨lp,_⟩:=zy (e:=.exit 0) (L:=Kh m) (st:=fun(o:Rows) i=>yM r l env db i o) (l:=l) (d:=[]) (g:=fun o x=>o++[eo r.terms x env db]) (fun i o=>o.length=i) hl.len
  (fun o i x hi hx hI=>by
   have hI':o.length=i:=hI;have hmem:x∈l:=by grind
   refine⟨by grind,?_⟩;rw[afD];simp only[z8,hi,decide_true,if_true,and_true,y5,hx]
   grind[z6,ze,List.length_singleton])
  (fun o _=>by rw[afD];simp[z8]) [] rfl
 rw[ij,yr]at lp;rw[aAt];refine(zf lp).trans ?_;generalize hK:(l.map fun x=>eo r.terms x env db)=K;have hKl:K.length=l.length:=by grind
 have hKg:∀(i:Nat)(x:List Val),i<l.length→l.getD i []=x→K.getD i []=eo r.terms x env db:=fun i x hi hx=>by
  grind
 have own:∀(H:Rows)(k:Nat)(h:List Val)(o:Rows),H.getD k []=h→k<H.length→yN m (pq r l env db (k:Int) K H o (0:Int) [])=some (.exit 4,pq r l env db (k:Int) K H o (l.length:Int) (iy r l env db h)):=fun H k h o hh hkl=>by
  obtain⟨lq,_⟩:=zy (e:=.exit 4) (L:=yN m) (st:=fun(q:Rows) i=>pq r l env db (k:Int) K H o i q) (l:=l) (d:=[]) (g:=fun q x=>if decide (eo r.terms x env db=h)=true then q++[x]else q) (fun i q=>q.length≤i) hl.len
   (fun q i x hi hx hI=>by
    refine⟨by grind,?_⟩;rw[afF];simp only[z8,hi,decide_true,if_true,and_true,y5,hx,hh,hKg i x (by omega) hx,Qp];rw[z6 (by omega),z6 (by omega),z6 (by omega),z6 (by grind[ze,List.length_singleton])];by_cases c:eo r.terms x env db=h
    ·simp_all[if_pos,cC,eo,beq_iff_eq,ordR_zero,decide_eq_true]
    simp_all[if_neg,cC,eo,ordR_zero,beq_iff_eq])
   (fun q _=>by rw[afF];simp[z8]) [] (y7 _)
  rw[Df,yr]at lq;exact lq
 have row:∀(H:Rows)(k:Nat)(h:List Val)(o:Rows),h.length≤100000000→Dn m (rD r l env db (k:Int) K H o (iy r l env db h) (0:Int) h)=some (.exit 6,rD r l env db (k:Int) K H o (iy r l env db h) (r.aggs.length:Int) (A3 r l env db h)):=fun H k h o hh=>by
  obtain⟨lq,_⟩:=zy (e:=.exit 6) (L:=Dn m) (st:=fun(q:List Val) i=>rD r l env db (k:Int) K H o (iy r l env db h) i q) (l:=r.aggs) (d:=zr) (g:=fun q a=>q++[kP a (iy r l env db h) env db]) (fun i q=>q.length=h.length+i) (by omega)
   (fun q i a hi ha hI=>by
    have hmem:a∈r.aggs:=by grind
    have hht:=Rel.ht_aggT hmem;have hc:Kg r env db (iy r l env db h) (i:Int)=kP a (iy r l env db h) env db:=by
     unfold Kg;rw[y5,ha];exact congrArg (fun a=>kP a _ env db) (Agg.ids_eq a)
    rw[afG,hc];simp only[z8,hi,decide_true,if_true,and_true,y5,ha,Agg.ids_eq]
    grind[z6,ze,List.length_singleton])
   (fun q _=>by rw[afG];simp[z8]) h rfl
  rw[ij]at lq;exact lq
 have outer:∀(H:Rows),H.length≤1000000→(∀h∈H,h.length≤100000000)→(rE m (rC r l env db K (0:Int) [] H)).bind (zd (Ki m))=some (A4 (H.map (A3 r l env db))):=fun H hH hlen=>by
  obtain⟨lq,_⟩:=zy (e:=.exit 2) (L:=rE m) (st:=fun(o:Rows) i=>rC r l env db K i o H) (l:=H) (d:=[]) (g:=fun o h=>o++[A3 r l env db h]) (fun i o=>o.length=i) (by omega)
   (fun o i h hi hh hI=>by
    refine⟨by grind,?_⟩;rw[afE,z8,if_pos (by grind)];refine(zf (own H i h o hh (by omega))).trans ?_;rw[aAw,y5,hh,z6 (by omega),z6 (by grind[ze])]
    grind[zf,trans,aAx,z6,ze,List.length_singleton])
   (fun o _=>by rw[afE];simp[z8]) [] rfl
  rw[ij,yr]at lq;refine(zf lq).trans ?_;rw[aAv]
 rw[aAu,z6 (by omega),z8];unfold A0;by_cases c:r.terms.length=0
 ·simp_all
 ·rw[if_neg (by grind),if_neg c,hK];obtain⟨o1,o2⟩:=Ji K;refine outer (bV K) (by omega) fun h hh=>?_;have:=o2 h hh;rw[←hK]at this;obtain⟨x,hx,rfl⟩:=y2a.1 this;rw[(g1 x hx).eq,yy];omega
def aAz(m:Nat)(hG:nt m):aj 52 (Dh<|m+1):=by
 intro args ob rs os h hob;unfold Dh at h;split at h
 ·simp only[y6,y8,yi]at h;obtain⟨r,e0,l,e1,env,e2,db,e3,rfl,rfl,rfl⟩:=h;obtain rfl:=zo e0;obtain rfl:=zi e1;obtain rfl:=zi e2;obtain rfl:=zi e3;exact⟨dz (M:=(nu m)) rfl (cM (l1:=[(51,ue m),(53,C8),(43,BF),(101,yI m)]) (l2:=[]) (l3:=[]) (l4:=[]) (l5:=[]) ⟨hG.2.2.2.2.2.1,Rr,GT,hG.2.2.2.2.2.2.1,trivial⟩ trivial trivial trivial trivial) Tryz.func52 (by kernel_rfl) gF 13 [.d] fun hwf=>(aAy m r l env db (bj hwf (a:=.d<|.agg<|enc Ty.rel r)<|y9 (i:=0) rfl) (bj hwf (a:=.d<|.v<|.dat (U:=Un) Ty.row l)<|y9 (i:=1) rfl) (bj hwf (a:=.d<|.v<|.dat (U:=Un) Ty.row env)<|y9 (i:=2) rfl) (bj hwf (a:=.d<|.v<|.dat (U:=Un) Ty.data db)<|y9 (i:=3) rfl) (hob _<|y9 (i:=0) rfl)<|hob _<|y9 (i:=1) rfl),zl Tryz.func52 (by kernel_rfl)<|by kernel_rfl⟩
 ·simp at h
def yO(m:Nat):Mc Un:=az [(46,ae9),(47,aeU),(48,Dg m),(17,yJ m),(49,aeJ),(50,ud m),(51,ue m),(52,Dh m),(53,C8),(54,ae3),(55,ae7)] [] [] [] []
def Do:Nat→NS:=aO [(21,{ts:=bl 149 910,bs:=bl 149 8,nm:=[(.sl 8,596)],cs:=true}),(27,{ts:=bl 149 1422,bs:=bl 149 8,nm:=[(.sl 8,597)],cs:=true})] true
def dg(r:Rel)(env:List (List Val))(db:List Data):=jV (Rel.mk (Rel.op<|r.kids.getD 0 za) (Rel.table<|r.kids.getD 0 za) (Rel.cols<|r.kids.getD 0 za) (Rel.kids<|r.kids.getD 0 za) (Rel.terms<|r.kids.getD 0 za) (Rel.aggs<|r.kids.getD 0 za) (Rel.keys<|r.kids.getD 0 za) (Rel.limit<|r.kids.getD 0 za) (Rel.skip<|r.kids.getD 0 za) (Rel.all<|r.kids.getD 0 za)<|Rel.rows<|r.kids.getD 0 za) env db
def Gd(r:Rel)(env:List (List Val))(db:List Data):=jV (Rel.mk (Rel.op<|r.kids.getD 1 za) (Rel.table<|r.kids.getD 1 za) (Rel.cols<|r.kids.getD 1 za) (Rel.kids<|r.kids.getD 1 za) (Rel.terms<|r.kids.getD 1 za) (Rel.aggs<|r.kids.getD 1 za) (Rel.keys<|r.kids.getD 1 za) (Rel.limit<|r.kids.getD 1 za) (Rel.skip<|r.kids.getD 1 za) (Rel.all<|r.kids.getD 1 za)<|Rel.rows<|r.kids.getD 1 za) env db
def PS(r:Rel)(env:List (List Val))(db:List Data):=AY r.op r.all (dg r env db)<|Gd r env db
def uh(r:Rel)(env:List (List Val))(db:List Data)(v0:Int)(v1:List (List Val)):S Un:=(st 149 149 598 0 [(1,al .row env),(2,al .data db),(3,ax 3),(7,al .row<|dg r env db),(8,ao 596),(9,ai v0)] [(3,bg .rel r)] [(596,some ⟨(0:Nat),Ty.row,v1,some (0:Nat),true⟩)])
def yP(r:Rel)(env:List (List Val))(db:List Data)(v2:Int)(v3:List (List Val)):S Un:=(st 149 149 598 0 [(1,al .row env),(2,al .data db),(3,ax 3),(7,al .row<|dg r env db),(8,ao 597),(10,ai v2)] [(3,bg .rel r)] [(597,some ⟨(0:Nat),Ty.row,v3,some (0:Nat),true⟩)])
def Dp(m:Nat):S Un→Option (EX Un):=aC (yO m) Do Tryz.f17 [1,1,1,1,1,0,1,2,1,3,1,2,2] 21
def Kj(m:Nat):S Un→Option (EX Un):=aC (yO m) Do Tryz.f17 [1,1,1,1,1,0,1,2,1,4,1,3,1,2,2] 27
def afH(m:Nat):Exit→S Un→Option (RF Un):=aE (yO m) Do Tryz.f17 [1,1,1,1,1,0,1,2,1,3,1,2] [.d]
def afI(m:Nat):Exit→S Un→Option (RF Un):=aE (yO m) Do Tryz.f17 [1,1,1,1,1,0,1,2,1,4,1,3,1,2] [.d]
def afJ(m:Nat)(r:Rel)(env:List (List Val))(db:List Data):Option (RF Un):=aw (yO m) Do Tryz.f17 2 [.d] [.d<|.agg<|enc Ty.rel r,.d<|.v<|.dat (U:=Un) Ty.row env,.d<|.v<|.dat (U:=Un) Ty.data db]
def Dq(m:Nat)(r:Rel)(env:List (List Val))(db:List Data):Option (RF Un):=ae ((0:Int)≤(0:Int)∧(0:Int)<(↑r.kids.length:Int))<|ae ((8:Nat)*(Rel.ids<|r.kids.getD 0 za).ht+(7:Nat)<m)<|ae (gR (Rel.ids<|r.kids.getD 0 za) env db)<|ae ((0:Int)≤(1:Int)∧(1:Int)<(↑r.kids.length:Int))<|ae ((8:Nat)*(Rel.ids<|r.kids.getD 1 za).ht+(7:Nat)<m)<|ae (gR (Rel.ids<|r.kids.getD 1 za) env db)<|ae ((dg r env db).length≤(10000000:Nat))<|ae ((Gd r env db).length≤(10000000:Nat))<|some<|aX<|PS r env db
def aAA(m r env db):afJ m r env db=af (decide<|(↑r.kids.length:Int)<yG r.op) (some<|aX<|[]) (af (r.op==1) (ae ((0+(Dc r.table db).length)*(24:Nat)≤ze)<|some<|aX<|Dc r.table db)<|af (r.op==2) (ae ((0+r.rows.length)*(24:Nat)≤ze)<|some<|aX r.rows)<|af (r.op==5) (ae ((8:Nat)*(Rel.ids r).ht+(6:Nat)<m)<|ae (J6 (Rel.ids r) false env db)<|some<|aX<|pn (Rel.ids r) false env db)<|af (r.op==6) (ae ((8:Nat)*(Rel.ids r).ht+(6:Nat)<m)<|ae (J6 (Rel.ids r) true env db)<|some<|aX<|pn (Rel.ids r) true env db)<|af (r.op==9) (Dq m r env db)<|af (r.op==10) (Dq m r env db)<|af (r.op==11) (Dq m r env db)<|ae ((0:Int)≤(0:Int)∧(0:Int)<(↑r.kids.length:Int))<|ae ((8:Nat)*(Rel.ids<|r.kids.getD 0 za).ht+(7:Nat)<m)<|ae (gR (Rel.ids<|r.kids.getD 0 za) env db)<|af (r.op==3) ((Dp m<|uh r env db (0:Int)<|[]).bind<|zd<|afH m)<|af (r.op==4) ((Kj m<|yP r env db (0:Int)<|[]).bind<|zd<|afI m)<|af (r.op==7) (ae ((8:Nat)*(Rel.ids r).ht+(6:Nat)<m)<|ae (Ru (Rel.ids r) (dg r env db) env db)<|some<|aX<|rz (Rel.ids r) (dg r env db) env db)<|af (r.op==8) (ae ((dg r env db).length≤(100000000:Nat))<|some<|aX<|np<|dg r env db)<|af (r.op==12) (ae ((dg r env db).length≤(10000000:Nat))<|ae (F9<|dg r env db)<|some<|aX<|PK (dg r env db) r.keys)<|af (r.op==13) (ae ((dg r env db).length≤(100000000:Nat))<|some<|aX<|PN (dg r env db) r.limit r.skip)<|some<|aX<|[]):=ah
theorem afK(m r env db v0 v1):Dp m (uh r env db v0 v1)=af (decide<|v0<(↑(dg r env db).length:Int)) (ae (0≤v0∧v0<(↑(dg r env db).length:Int))<|ae ((8:Nat)*aY r.terms+(8:Nat)<m)<|ae (gSo r.terms ((dg r env db).getD v0.toNat []) env db)<|af (lY r.terms ((dg r env db).getD v0.toNat []) env db) (ae (0≤v0∧v0<(↑(dg r env db).length:Int))<|ae ((v1.length+[(dg r env db).getD v0.toNat []].length)*(24:Nat)≤ze)<|Dp m<|uh r env db (IntKind.i64.wrap<|v0+1)<|v1++[(dg r env db).getD v0.toNat []])<|Dp m<|uh r env db (IntKind.i64.wrap<|v0+1) v1) (some (.exit 2,(uh r env db v0 v1))):=aF
def aAB(m r env db v0 v1):afH m (.exit 2) (uh r env db v0 v1)=some (aX v1):=ah
theorem afL(m r env db v2 v3):Kj m (yP r env db v2 v3)=af (decide<|v2<(↑(dg r env db).length:Int)) (ae (0≤v2∧v2<(↑(dg r env db).length:Int))<|ae ((8:Nat)*aY r.terms+(8:Nat)<m)<|ae (gTs r.terms ((dg r env db).getD v2.toNat []) env db)<|ae ((v3.length+[eo r.terms ((dg r env db).getD v2.toNat []) env db].length)*(24:Nat)≤ze)<|Kj m<|yP r env db (IntKind.i64.wrap<|v2+1)<|v3++[eo r.terms ((dg r env db).getD v2.toNat []) env db]) (some (.exit 4,(yP r env db v2 v3))):=aF
def aAC(m r env db v2 v3):afI m (.exit 4) (yP r env db v2 v3)=some (aX v3):=ah
def aAD m(r:Rel)(env:List (List Val))(db:List Data)(_hr:WS .rel r)(_he:WL .row env)(_hd:WL .data db)(hm:8*r.ht+7<m+1)(h:gR r env db):afJ m r env db=some (aX (jV r env db)):=by
 have hht:=Rel.ht_terms r;have hkn:=h.kids;obtain⟨hE,htl,_⟩:=h.deep;obtain⟨v,hv,_⟩:=h.ex;have eN:jV r env db=v:=jb hv;rw[eN];have hvl:=abb hv;rw[u7,y6]at hv;obtain⟨s,hs,hcap⟩:=hv;obtain⟨rfl,-⟩:=qO hcap;clear hcap eN;have hkk:yG r.op≤r.kids.length:=by
  rw[hkn.1];have h0:=hkn.2;unfold yG;unfold bD at h0 ⊢;simp only[beq_iff_eq];omega
 have one:∀i,i<r.kids.length→r.op≠1→∃l,gR (r.kids.getD i za) env db∧nR (r.kids.getD i za) ⟨env,db⟩=some l∧bc r.kids i ⟨env,db⟩=some l∧Fine db (r.kids.getD i za) l∧(r.kids.getD i za).ht<r.ht∧l.length≤1048576:=fun i hi hop=>by
  obtain⟨k,l,a1,a2,a3⟩:=h.kid hop hi;exact⟨l,k,a1,a2,a3,Rel.ht_kid (cG hi),by rcases k.few a1 with h|h<;>omega⟩
 have e1:∀l,nR (r.kids.getD 0 za) ⟨env,db⟩=some l→dg r env db=l:=fun l hl=>by unfold dg;rw[AZ];exact jb hl
 have e2:∀l,nR (r.kids.getD 1 za) ⟨env,db⟩=some l→Gd r env db=l:=fun l hl=>by unfold Gd;rw[AZ];exact jb hl
 rw[aAA];simp only[z8,Rel.ids_eq,beq_iff_eq];rw[if_neg (by grind)];by_cases o1:r.op=1
 ·rw[if_pos o1]at hs ⊢;obtain⟨_,h2⟩:=chkQ_some.1 hs;have e:Dc r.table db=s:=yg h2;grind[z6,ze]
 rw[if_neg o1]at hs ⊢;by_cases o2:r.op=2
 ·rw[if_pos o2]at hs ⊢;grind[Option.some.inj,z6,ze]
 rw[if_neg o2]at hs ⊢;have hk0:0<r.kids.length:=by have:=T3 (op:=r.op) (by omega) (by omega);omega
 obtain⟨l,g0,r0,n0,F0,ht0,hl0⟩:=one 0 hk0 o1;have E1:=e1 l r0;by_cases o5:r.op=5∨r.op=6
 ·rw[if_neg (by omega),if_neg (by omega),if_pos o5]at hs;have e:∀b,pn r b env db=s:=fun b=>by simp_all[pn,lQ,u9]
  rcases o5 with c|c
  ·rw[if_pos c,z6 (by omega),z6 ⟨h,.inl ⟨c,rfl⟩⟩,e]
  ·rw[if_neg (by omega),if_pos c,z6 (by omega),z6 ⟨h,.inr ⟨c,rfl⟩⟩,e]
 rw[if_neg (fun e=>o5 (.inl e)),if_neg (fun e=>o5 (.inr e))];by_cases o9:r.op=9∨r.op=10∨r.op=11
 ·have hk2:r.kids.length=2:=by
   grind[bD]
  obtain⟨l2,g1,r1,n1,F1,ht1,hl1⟩:=one 1 (by omega) o1;rw[if_neg (by omega),if_neg (by omega),if_neg o5,if_neg (by omega),if_neg (by omega),if_pos o9]at hs;unfold sq at hs;dsimp only at hs;rw[n0,yj,n1,yj,y6]at hs;obtain⟨a,ha,hs⟩:=hs;have e3:PS r env db=s:=by
   unfold PS AY;rw[E1,e2 l2 r1,←yg hs];by_cases c:r.op=9
   ·rw[if_pos c]at ha ⊢;rw[(qO ha).1]
   grind
  have t1:Dq m r env db=some (aX s):=by
   grind[Dq,Rel.ids_eq,z6]
  grind
 rw[if_neg (by omega),if_neg (by omega),if_neg (by omega),z6 (by omega),z6 (by omega),z6 g0];by_cases o3:r.op=3
 ·rw[if_pos o3]at hs ⊢;unfold si at hs;dsimp only at hs;rw[if_pos (show env.length≤100000000 by omega),n0,yj]at hs;have hf:=afc (fun x=>lY r.terms x env db) hs fun x _ b hb=>xM hb
  obtain⟨lp,_⟩:=zy (e:=.exit 2) (L:=Dp m) (st:=fun(o:Rows) i=>uh r env db i o) (l:=l) (d:=[]) (g:=fun o x=>if lY r.terms x env db=true then o++[x]else o) (fun i o=>o.length≤i) (by omega)
   (fun o i x hi hx hI=>by
    have hI':o.length≤i:=hI;have hmem:x∈l:=by grind
    have gs:gSo r.terms x env db:=⟨by omega,h.one (.inl o3),fun t ht=>h.term (.inl o3) n0 hmem (tK ht) (F0.short x hmem)⟩;refine⟨by grind,?_⟩;rw[afK];simp only[z8,E1,hi,decide_true,if_true,and_true,y5,hx]
    grind[z6,ze,List.length_singleton])
   (fun o _=>by grind[afK,z8]) [] (y7 _)
  rw[Df,yr,hf]at lp;refine(zf lp).trans ?_;rw[aAB]
 rw[if_neg o3]at hs ⊢;by_cases o4:r.op=4
 ·rw[if_pos o4]at hs ⊢;unfold sj at hs;dsimp only at hs;have gs:∀x∈l,gTs r.terms x env db:=fun x hx=>⟨by omega,by omega,fun t ht=>h.term (.inr (.inl o4)) n0 hx (tK ht) (F0.short x hx)⟩;rw[if_pos ⟨show env.length≤100000000 by omega,by omega⟩,n0,yj,uc (g:=fun x=>eo r.terms x env db) l fun x hx=>by rw[(gs x hx).eq];exact(gs x hx).is]at hs
  obtain⟨lp,_⟩:=zy (e:=.exit 4) (L:=Kj m) (st:=fun(o:Rows) i=>yP r env db i o) (l:=l) (d:=[]) (g:=fun o x=>o++[eo r.terms x env db]) (fun i o=>o.length=i) (by omega)
   (fun o i x hi hx hI=>by
    have hI':o.length=i:=hI;have hmem:x∈l:=by grind
    refine⟨by grind,?_⟩;rw[afL];simp only[z8,E1,hi,decide_true,if_true,and_true,y5,hx]
    grind[z6,ze,List.length_singleton])
   (fun o _=>by grind[afL,z8]) [] rfl
  rw[ij,yr,yg hs]at lp;refine(zf lp).trans ?_;rw[aAC]
 rw[if_neg o4]at hs ⊢;rw[if_neg o5]at hs;by_cases o7:r.op=7
 ·rw[if_pos o7]at hs ⊢;have e:rz r l env db=s:=by grind[rz,m8,su]
  rw[E1,z6 (by omega),z6 ⟨h,o7,n0⟩,e]
 rw[if_neg o7]at hs ⊢;by_cases o8:r.op=8
 ·rw[if_pos o8]at hs ⊢;rw[n0,yj]at hs;rw[E1,z6 (by omega)];exact congrArg (fun x=>some (aX x)) (yg hs)
 rw[if_neg o8]at hs ⊢;rw[if_neg o9]at hs;by_cases o12:r.op=12
 ·rw[if_pos o12]at hs ⊢;rw[n0,yj]at hs;rw[E1,z6 (by omega),z6 (show F9 l from fun x hx y hy=>by have a:=F0.wide x hx;have b:=F0.wide y hy;omega)];exact congrArg (fun x=>some (aX x)) (yg hs)
 rw[if_neg o12]at hs ⊢;by_cases o13:r.op=13
 ·rw[if_pos o13]at hs ⊢;rw[n0,yj]at hs;rw[E1,z6 (by omega)];exact congrArg (fun x=>some (aX x)) (yg hs)
 grind
def aAE(m:Nat)(hG:nt m):aj 17 (yJ<|m+1):=jl zo zi zi (M:=(yO m)) rfl ⟨azY,azC,hG.2.2.2.2.1,hG.2.2.2.2.2.2.2.2,azl,hG.2.2.1,hG.2.2.2.2.2.1,hG.2.2.2.2.2.2.2.1,Rr,azP,azV,trivial⟩ Tryz.func17 fun r env db=>GiF.r fun w o=>aAD m r env db (am w 0) (am w 1) (am w 2) (aA o 0)<|aA o 1
def nv:∀m,nt m
  |0=>⟨zR,zR,by
        intro args ob rs os h hob;unfold ud at h;split at h
        · simp only[y6,y8,yi]at h;obtain⟨_,_,_,_,_,_,_,_,rfl,_,_⟩:=h;exact absurd (hob _ (y9 (i:=0) rfl)) (cQ _)
        · simp at h
      ,by
        intro args ob rs os h hob;unfold yH at h;split at h
        · simp only[y6,y8,yi]at h;obtain⟨_,_,_,_,_,_,_,_,_,_,rfl,_,_⟩:=h;exact absurd (hob _ (y9 (i:=0) rfl)) (cQ _)
        · simp at h
      ,by
        intro args ob rs os h hob;unfold Dg at h;split at h
        · simp only[y6,y8,yi]at h;obtain⟨_,_,_,_,_,_,_,_,rfl,_,_⟩:=h;exact absurd (hob _ (y9 (i:=0) rfl)) (cQ _)
        · simp at h
      ,by
        intro args ob rs os h hob;unfold ue at h;split at h
        · simp only[y6,y8,yi]at h;obtain⟨_,_,_,_,_,_,_,_,rfl,_,_⟩:=h;exact absurd (hob _ (y9 (i:=0) rfl)) (cQ _)
        · simp at h
      ,by
        intro args ob rs os h hob;unfold yI at h;split at h
        · simp only[y6,y8,yi]at h;obtain⟨_,_,_,_,_,_,_,_,rfl,_,_⟩:=h;exact absurd (hob _ (y9 (i:=0) rfl)) (cQ _)
        · simp at h
      ,by
        intro args ob rs os h hob;unfold Dh at h;split at h
        · simp only[y6,y8,yi]at h;obtain⟨_,_,_,_,_,_,_,_,rfl,_,_⟩:=h;exact absurd (hob _ (y9 (i:=0) rfl)) (cQ _)
        · simp at h
      ,zR⟩
  |m+1=>⟨az5 m (nv m),az9 m (nv m),aAc m (nv m),aAg m (nv m),aAk m (nv m),aAo m (nv m),aAs m (nv m),aAz m (nv m),aAE m (nv m)⟩
def Ge:au Un:=dW (dS .rel) (dL .row) (dL .data) fun r env db=>([gR r env db],aX<|jV r env db)
def afM:aj 17 Ge:=aiJ fun m=>(nv m).2.2.2.2.2.2.2.2
def afN:Mc Un:=az [(17,Ge)] [] [] [] []
def afO(r:Rel)(db:List Data):Option (RF Un):=aw afN aV Tryz.f15 0 [.d] [.d<|.agg<|enc Ty.rel r,.d<|.v<|.dat (U:=Un) Ty.data db]
def aAF(r db):afO r db=ae (gR (Rel.ids r) [] db) (some<|aX<|jV (Rel.ids r) [] db):=ah
def Gf(r:Rel)(db:List Data):List (List Val):=jV r [] db
def aAG(r:Rel)(db:List Data)(_hr:WS .rel r)(_hd:WL .data db)(h:gR r [] db):afO r db=some (aX<|Gf r db):=by
 rw[aAF,Rel.ids_eq,z6 h];rfl
def PT:au Un:=aD (dS .rel) (dL .data) fun r db=>([gR r [] db],aX<|Gf r db)
def aAH:aj 15 PT:=aJ zo zi (M:=afN) rfl ⟨afM,trivial⟩ Tryz.func15 fun r db=>GiF.r fun w o=>aAG r db (am w 0) (am w 1)<|aA o 0
end
end B
namespace B
open Go Go.RowKit
def aAI{R:Bool→RF Un}{b X}(h:b=false→X=some (R true)):af b (some<|R tP) X=some (R true):=by
 cases b
 ·exact h rfl
 ·rfl
def aAJ{b}(h:(!b)=false):b=true:=by cases b<;>simp_all
def afP(l:Rows):AN l l=true:=deq_iff.2 rfl
set_option maxRecDepth 100000
noncomputable section
attribute [local irreducible] aB bk zw br aK b9 aR bu bA
def afQ:Mc Un:=az [(11,Nl),(12,OZ),(14,Jz),(15,PT),(13,OW),(16,Jy),(17,Ge)] [] [] [] []
def afR(r:Rel)(db:List Data):Option (RF Un):=aw afQ aV Tryz.f3 0 [.d] [.d<|.agg<|enc Ty.rel r,.d<|.v<|.dat (U:=Un) Ty.data db]
def aAK(r db):afR r db=ae ((Rel.ids r).sz≤(2000000:Nat)) (ae (dC (Rel.ids r)≤(2000000000:Nat))<|af (!Ck (Rel.ids r) db) (some<|jo tP)<|af tP (ae (ix {env:=[],db:=db} (Rel.ids r))<|ae (gR (Rel.ids r) [] db)<|af (AN (je (Rel.ids r) db)<|Gf (Rel.ids r) db) (ae (ix {env:=[],db:=db} (Rel.ids r))<|ae (gR (Rel.ids r) [] db)<|some<|jo<|AN (CW (Rel.ids r) [] db)<|jV (Rel.ids r) [] db)<|some<|jo false)<|some<|jo false):=ah
def Rv(_r:Rel)(_db:List Data):Bool:=true
def aAL(r:Rel)(db:List Data)(_hr:WS .rel r)(_hd:WL .data db)(hs:r.sz≤1900000)(hcr:dC r≤2000000)(hxr:nc r)(G:DbG db):afR r db=some (jo<|Rv r db):=by
 rw[aAK];simp only[Rel.ids_eq];rw[z6<|by omega,z6<|by omega];refine aAI fun h1=>?_;have gr:gR r [] db:=⟨G,[],at0 (aAJ h1) (by omega) hcr hxr⟩;obtain⟨l,hl,_⟩:=gr.ex;have e1:je r db=l:=jb hl;have e2:Gf r db=l:=jb hl;have e3:CW r [] db=l:=jb hl;have e4:jV r [] db=l:=jb hl;refine pF awL ?_;rw[z6 ⟨l,hl⟩,z6 gr,e1,e2];refine pF (afP l) ?_;rw[z6 ⟨l,hl⟩,z6 gr,e3,e4,afP]
def Rw:au Un:=fun args=>match args with
 |[x0,x1]=>(dS .rel x0).bind fun r=>(dL .data x1).bind fun db=>some ([r.sz≤1900000,dC r≤2000000,nc r,DbG db],bm<|Rv r db,bp<|Rv r db)
 |_=>none
def aAM:aj 3 Rw:=by
 intro args ob rs os h hob;unfold Rw at h;split at h
 ·simp only[y6,y8,yi]at h;obtain⟨r,e0,db,e1,rfl,rfl,rfl⟩:=h;obtain rfl:=zo e0;obtain rfl:=zi e1;exact⟨dz (M:=afQ) rfl (cM (l1:=[(11,Nl),(12,OZ),(14,Jz),(15,PT),(13,OW),(16,Jy),(17,Ge)]) (l2:=[]) (l3:=[]) (l4:=[]) (l5:=[]) ⟨aog,awK,acz,aAH,awy,acw,afM,trivial⟩ trivial trivial trivial trivial) Tryz.func3 (by kernel_rfl) aV 0 [.d] fun hwf=>(aAL r db (bj hwf (a:=.d<|.agg<|enc Ty.rel r)<|y9 (i:=0) rfl) (bj hwf (a:=.d<|.v<|.dat (U:=Un) Ty.data db)<|y9 (i:=1) rfl) (hob _<|y9 (i:=0) rfl) (hob _<|y9 (i:=1) rfl) (hob _<|y9 (i:=2) rfl)<|hob _<|y9 (i:=3) rfl),zl Tryz.func3 (by kernel_rfl)<|by kernel_rfl⟩
 ·simp at h
end
end B
end Go.Proofs.YtjfpbchdcbhfgaaGreat
