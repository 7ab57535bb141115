/- Part 8 of the proof: Slight1 Slight2. -/
import Derived.Test.YtjfpbchdcbhfgaaGreatNgr7
set_option linter.unusedVariables false
set_option linter.unusedSimpArgs false
namespace Go.Proofs.YtjfpbchdcbhfgaaGreat
namespace B
open Go Go.RowKit
set_option maxRecDepth 100000
noncomputable section
attribute [local irreducible] awp ctxK zx z1f retQ z1l awf ctxF z1k
def zqh(r:List Term):RF Un:=([.c (.sl (U:=Un) Ty.term r false)],[])
def zqi:Nat→NS:=nsF_ [(3,{ts:=bl 25 26,bs:=bl 25 2,nm:=[(.sl 3,100)],cs:=true})] true
def z9i(r:Rel)(v0:Int)(v1:List Term):S Un:=(st 25 25 101 0 [(1,ax 1),(3,ao 100),(4,ai v0)] [(1,bg .rel r)] [(100,some ⟨(0:Nat),Ty.term,v1,some (0:Nat),true⟩)])
def zg4:S Un→Option (EX Un):=lpF_ z1bz zqi Tryz.f75 [1,1,0,1,2,2] 3
def zyw:Exit→S Un→Option (RF Un):=cxF_ z1bz zqi Tryz.f75 [1,1,0,1,2] [.d]
def zyx(r:Rel):Option (RF Un):=fnF_ z1bz zqi Tryz.f75 1 [.d] [.d (.agg (enc Ty.rel r))]
theorem z1pc(r:Rel):zyx r=obO ((0+r.terms.length)*(128:Nat)≤zi) ((zg4 (z9i r (0:Int) r.terms)).bind (ze zyw)):=by kernel_rfl
theorem zyy(r:Rel)(v0:Int)(v1:List Term):zg4 (z9i r v0 v1)=cndO (decide (v0<(↑r.aggs.length:Int))) (obO (0≤v0∧v0<(↑r.aggs.length:Int)) (obO ((v1.length+(Agg.t (r.aggs.getD v0.toNat zo)).length)*(128:Nat)≤zi) (zg4 (z9i r (IntKind.i64.wrap (v0+1)) (v1++Agg.t (r.aggs.getD v0.toNat zo)))))) (some (.exit 0,(z9i r v0 v1))):=lpQ_ (by kernel_rfl)
theorem z1at(r:Rel)(v0:Int)(v1:List Term):zyw (.exit 0) (z9i r v0 v1)=some (zqh (v1)):=by kernel_rfl
def z88:List Agg→List Term
 |[]=>[]
 |a::l=>a.t++z88 l
theorem z1jo:∀(l:List Agg)(n:List Term),l.foldl (fun n a=>n++a.t) n=n++z88 l
 |[],n=>by simp[z88]
 |a::l,n=>by rw[yu,z1jo l,z88,y12]
theorem z164:∀l:List Agg,szTs (z88 l)≤szAs l
 |[]=>y6 _
 |a::l=>by
  have:=z164 l;have h:=a.sz_eq;grind[z88,zx0,szAs]
theorem z1t6:∀l:List Agg,htTs (z88 l)≤htAs l
 |[]=>y6 _
 | .mk n d t::l=>by
  have:=z1t6 l;have h:∀a b:List Term,htTs (a++b)=max (htTs a) (htTs b):=fun a b=>by
   induction a with
   |nil=>rfl
   |cons x a ih=>simp_all[y16,htTs]
  grind[z88,htAs,Agg.ht,Agg.t_mk]
def z10(r:Rel):List Term:=r.terms++z88 r.aggs
theorem znu(r:Rel):(z10 r).length≤r.sz:=by
 have h:=z5t (z10 r);have h2:=z164 r.aggs;have h3:=r.sz_eq;grind[z10,zx0]
theorem z90{r:Rel}{t:Term}(h:t∈z10 r):t.ht<r.ht∧t.sz<r.sz:=by
 have h2:=z164 r.aggs;have h3:=r.sz_eq;have h4:=z1t6 r.aggs;have h5:htTs r.terms<r.ht∧htAs r.aggs<r.ht:=by cases r;grind[Rel.ht,Rel.terms_mk,Rel.aggs_mk]
 rcases yc.1 h with h|h
 ·exact⟨by have:=zbi h;omega,by have:=zj5 h;omega⟩
 ·exact⟨by have:=zbi h;omega,by have:=zj5 h;omega⟩
theorem z1fq(r:Rel)(hr:WS .rel r)(h:r.sz≤2000000):zyx r=some (zqh (z10 r)):=by
 have h3:=r.sz_eq;have hl:=z5t r.terms
 obtain⟨lp,_⟩:=z1p (e:=.exit 0) (L:=zg4) (st:=fun(n:List Term) i=>z9i r i n) (l:=r.aggs) (d:=zo) (g:=fun n a=>n++a.t) (fun i n=>n.length+szAs (r.aggs.drop i)≤2000000) (hr.rel_aggs).len
  (fun n i a hi ha hI=>by
   have hd:=zjl (d:=zo) (show i<r.aggs.length by omega);rw[hd,ha]at hI;simp only[szAs]at hI;have h1:=a.sz_eq;have h2:=z5t a.t;rw[zyy];simp only[z8,hi,decide_true,if_true,and_true,y5,ha]
   grind[z6,zi])
  (fun n _=>by rw[zyy];simp[z8]) r.terms (by grind)
 rw[z1jo]at lp;rw[z1pc,z6 (by grind[zi])];refine(zg lp).trans ?_;rw[z1at];rfl
def zqj:FnC Un:=fnF1 (dS .rel) fun r=>([r.sz≤2000000],zqh (z10 r))
theorem zyz:FnOK 75 zqj:=fnK1 zr (M:=z1bz) rfl trivial trivial trivial trivial trivial Tryz.func75 fun r=>GiF.r fun w o=>z1fq r (wfA_ w 0) (obA_ o 0)
def capI(n x:Int):Int:=List.foldl (fun a b=>if b<a then b else a) (IntKind.i64.wrap (n+x)) [(1048576:Int)]
def maxI(n x:Int):Int:=List.foldl (fun a b=>if a<b then b else a) n [x]
mutual
def zkh:Term→Int
 | .mk op _ _ _ _ kids sub _=>zf4 (ze2 (if op=2 then 1 else 0) kids) sub
def ze2:Int→List Term→Int
 |n,[]=>n
 |n,t::l=>ze2 (capI n (zkh t)) l
def z2bn:Int→Agg→Int
 |n,.mk _ _ t=>ze2 n t
def z1a2:Int→List Agg→Int
 |n,[]=>n
 |n,a::l=>z1a2 (z2bn n a) l
def zsp:Rel→Int
 | .mk _ _ _ kids terms aggs _ _ _ _ _=>z1a2 (ze2 (zf4 0 kids) terms) aggs
def zf4:Int→List Rel→Int
 |n,[]=>n
 |n,r::l=>zf4 (capI n (zsp r)) l
end
theorem z6h:∀(l:List Term)(n:Int),l.foldl (fun n t=>capI n (zkh t)) n=ze2 n l
 |[],n=>by rfl
 |t::l,n=>by rw[yu,z6h l,ze2]
theorem zqk:∀(l:List Rel)(n:Int),l.foldl (fun n t=>capI n (zsp t)) n=zf4 n l
 |[],n=>by rfl
 |t::l,n=>by rw[yu,zqk l,zf4]
theorem z165:∀(l:List Agg)(n:Int),ze2 n (z88 l)=z1a2 n l
 |[],n=>by rfl
 | .mk a b t::l,n=>by
  rw[z88,z1a2,←z165 l,←z6h,y2d,z6h,z6h,z2bn,Agg.t_mk]
theorem z2bo(t:Term):zkh t=zf4 (ze2 (if t.op=2 then 1 else 0) t.kids) t.sub:=by cases t;rfl
theorem z281(r:Rel):zsp r=ze2 (zf4 0 r.kids) (z10 r):=by
 unfold z10;rw[←z6h,y2d,z6h,z6h,z165];cases r;rfl
def zf5(t:Term):Int:=zkh t
def zki(r:Rel):Int:=zsp r
theorem zkj{t k:Term}(h:k∈t.kids):k.sz<t.sz:=by have:=zj5 h;have:=t.sz_eq;omega
theorem zkk{t:Term}{k:Rel}(h:k∈t.sub):k.sz<t.sz:=by have:=z1fi h;have:=t.sz_eq;omega
theorem z9j{t k:Rel}(h:k∈t.kids):k.sz<t.sz:=by have:=z1fi h;have:=t.sz_eq;omega
def zkl(m:Nat):FnC Un:=fnF1 (dS .term) fun t=>z2m (2*t.ht) m ([t.sz≤2000000],z2e (zf5 t))
def zi2(m:Nat):FnC Un:=fnF1 (dS .rel) fun r=>z2m (2*r.ht+1) m ([r.sz≤2000000],z2e (zki r))
def ze3(m:Nat):Mc Un:=mcF_ [(76,zkl m),(133,zi2 m)] [] [] [] []
def zhe:Nat→NS:=nsF_ [(5,{ts:=bl 42 26,bs:=bl 42 2,nm:=[],cs:=true}),(9,{ts:=bl 42 42,bs:=bl 42 2,nm:=[],cs:=true})] true
def z7q(t:Term)(v0:Int)(v1:Int):S Un:=(st 42 42 168 0 [(1,ax 1),(3,ai v0),(4,ai v1)] [(1,bg .term t)] [])
def zc7(t:Term)(v0:Int)(v2:Int):S Un:=(st 42 42 168 0 [(1,ax 1),(3,ai v0),(5,ai v2)] [(1,bg .term t)] [])
def zc8(m:Nat):S Un→Option (EX Un):=lpF_ (ze3 m) zhe Tryz.f76 [1,1,1,0,1,2,2] 5
def zkm(m:Nat):S Un→Option (EX Un):=lpF_ (ze3 m) zhe Tryz.f76 [1,1,1,1,0,1,2,2] 9
def zkn(m:Nat):Exit→S Un→Option (RF Un):=cxF_ (ze3 m) zhe Tryz.f76 [1,1,1,0,1,2] [.d]
def z166(m:Nat):Exit→S Un→Option (RF Un):=cxF_ (ze3 m) zhe Tryz.f76 [1,1,1,1,0,1,2] [.d]
def zti(m:Nat)(t:Term):Option (RF Un):=fnF_ (ze3 m) zhe Tryz.f76 0 [.d] [.d (.agg (enc Ty.term t))]
theorem z1z7(m:Nat)(t:Term):zti m t=cndO (t.op==2) ((zc8 m (z7q t (1:Int) (0:Int))).bind (ze (zkn m))) ((zc8 m (z7q t (0:Int) (0:Int))).bind (ze (zkn m))):=by kernel_rfl
theorem z167(m:Nat)(t:Term)(v0:Int)(v1:Int):zc8 m (z7q t v0 v1)=cndO (decide (v1<(↑t.kids.length:Int))) (obO (0≤v1∧v1<(↑t.kids.length:Int)) (obO ((2:Nat)*(Term.ids (t.kids.getD v1.toNat zb)).ht<m) (obO ((Term.ids (t.kids.getD v1.toNat zb)).sz≤(2000000:Nat)) (zc8 m (z7q t (List.foldl (fun a b=>if b<a then b else a) (IntKind.i64.wrap (v0+zf5 (Term.ids (t.kids.getD v1.toNat zb)))) [(1048576:Int)]) (IntKind.i64.wrap (v1+1))))))) (some (.exit 0,(z7q t v0 v1))):=lpQ_ (by kernel_rfl)
theorem z1jp(m:Nat)(t:Term)(v0:Int)(v1:Int):zkn m (.exit 0) (z7q t v0 v1)=(zkm m (zc7 t v0 (0:Int))).bind (ze (z166 m)):=by kernel_rfl
theorem z168(m:Nat)(t:Term)(v0:Int)(v2:Int):zkm m (zc7 t v0 v2)=cndO (decide (v2<(↑t.sub.length:Int))) (obO (0≤v2∧v2<(↑t.sub.length:Int)) (obO ((2:Nat)*(Rel.ids (t.sub.getD v2.toNat za)).ht+(1:Nat)<m) (obO ((Rel.ids (t.sub.getD v2.toNat za)).sz≤(2000000:Nat)) (zkm m (zc7 t (List.foldl (fun a b=>if b<a then b else a) (IntKind.i64.wrap (v0+zki (Rel.ids (t.sub.getD v2.toNat za)))) [(1048576:Int)]) (IntKind.i64.wrap (v2+1))))))) (some (.exit 2,(zc7 t v0 v2))):=lpQ_ (by kernel_rfl)
theorem z1jq(m:Nat)(t:Term)(v0:Int)(v2:Int):z166 m (.exit 2) (zc7 t v0 v2)=some (z2e (v0)):=by kernel_rfl
theorem z1pd(m:Nat)(t:Term)(ht:WS .term t)(hm:2*t.ht<m+1)(h:t.sz≤2000000):zti m t=some (z2e (zf5 t)):=by
 obtain⟨lp,_⟩:=z1p (e:=.exit 0) (L:=zc8 m) (st:=fun(n:Int) i=>z7q t n i) (l:=t.kids) (d:=zb) (g:=fun n k=>capI n (zkh k)) (fun _ _=>True) (ht.term_kids).len
  (fun n i k hi hk _=>by
   have hmem:k∈t.kids:=by grind
   have h1:=Term.ht_kid hmem;have h2:=zkj hmem;refine⟨trivial,?_⟩;rw[z167];simp only[z8,hi,decide_true,if_true,and_true,y5,hk,Term.ids_eq];rw[z6 (by omega),z6 (by omega),z6 (by omega)]
   rfl)
  (fun n _=>by rw[z167];simp[z8]) (if t.op=2 then 1 else 0) trivial
 rw[z6h]at lp
 obtain⟨lq,_⟩:=z1p (e:=.exit 2) (L:=zkm m) (st:=fun(n:Int) i=>zc7 t n i) (l:=t.sub) (d:=za) (g:=fun n k=>capI n (zsp k)) (fun _ _=>True) (ht.term_sub).len
  (fun n i k hi hk _=>by
   have hmem:k∈t.sub:=by grind
   have h1:=Term.ht_sub hmem;have h2:=zkk hmem;refine⟨trivial,?_⟩;rw[z168];simp only[z8,hi,decide_true,if_true,and_true,y5,hk,Rel.ids_eq];rw[z6 (by omega),z6 (by omega),z6 (by omega)]
   rfl)
  (fun n _=>by rw[z168];simp[z8]) (ze2 (if t.op=2 then 1 else 0) t.kids) trivial
 rw[zqk]at lq;have e:zti m t=(zc8 m (z7q t (if t.op=2 then 1 else 0) (0:Int))).bind (ze (zkn m)):=by
  rw[z1z7,z8];grind
 grind[zg,trans,z1jp,z1jq,zf5,z2bo]
abbrev z1fr(m:Nat):Prop:=FnOK 76 (zkl m)∧FnOK 133 (zi2 m)
theorem z1va(m:Nat)(hG:z1fr m):FnOK 76 (zkl (m+1)):=fnK1 zr (M:=(ze3 m)) rfl ⟨hG.1,hG.2,trivial⟩ trivial trivial trivial trivial Tryz.func76 fun t=>GiF.r fun w o=>z1pd m t (wfA_ w 0) (obA_ o 0) (obA_ o 1)
def zc9(m:Nat):Mc Un:=mcF_ [(133,zi2 m),(75,zqj),(76,zkl m)] [] [] [] []
def zf6:Nat→NS:=nsF_ [(3,{ts:=bl 40 26,bs:=bl 40 2,nm:=[],cs:=true}),(8,{ts:=bl 40 104,bs:=bl 40 0,nm:=[],cs:=true})] true
def zai(r:Rel)(v0:Int)(v1:Int):S Un:=(st 40 40 160 0 [(1,ax 1),(3,ai v0),(4,ai v1)] [(1,bg .rel r)] [])
def zaj(r:Rel)(v0:Int)(v2:Int):S Un:=(st 40 40 160 0 [(3,ai v0),(5,al .term (z10 (Rel.ids r))),(6,ai v2)] [] [])
def zi3(m:Nat):S Un→Option (EX Un):=lpF_ (zc9 m) zf6 Tryz.f133 [1,1,0,1,2,2] 3
def zi4(m:Nat):S Un→Option (EX Un):=lpF_ (zc9 m) zf6 Tryz.f133 [1,1,1,1,0,1,2,2] 8
def z130(m:Nat):Exit→S Un→Option (RF Un):=cxF_ (zc9 m) zf6 Tryz.f133 [1,1,0,1,2] [.d]
def z131(m:Nat):Exit→S Un→Option (RF Un):=cxF_ (zc9 m) zf6 Tryz.f133 [1,1,1,1,0,1,2] [.d]
def z132(m:Nat)(r:Rel):Option (RF Un):=fnF_ (zc9 m) zf6 Tryz.f133 0 [.d] [.d (.agg (enc Ty.rel r))]
theorem z1vb(m:Nat)(r:Rel):z132 m r=(zi3 m (zai r (0:Int) (0:Int))).bind (ze (z130 m)):=by kernel_rfl
theorem z133(m:Nat)(r:Rel)(v0:Int)(v1:Int):zi3 m (zai r v0 v1)=cndO (decide (v1<(↑r.kids.length:Int))) (obO (0≤v1∧v1<(↑r.kids.length:Int)) (obO ((2:Nat)*(Rel.ids (r.kids.getD v1.toNat za)).ht+(1:Nat)<m) (obO ((Rel.ids (r.kids.getD v1.toNat za)).sz≤(2000000:Nat)) (zi3 m (zai r (List.foldl (fun a b=>if b<a then b else a) (IntKind.i64.wrap (v0+zki (Rel.ids (r.kids.getD v1.toNat za)))) [(1048576:Int)]) (IntKind.i64.wrap (v1+1))))))) (some (.exit 0,(zai r v0 v1))):=lpQ_ (by kernel_rfl)
theorem z1fs(m:Nat)(r:Rel)(v0:Int)(v1:Int):z130 m (.exit 0) (zai r v0 v1)=obO ((Rel.ids r).sz≤(2000000:Nat)) ((zi4 m (zaj r v0 (0:Int))).bind (ze (z131 m))):=by kernel_rfl
theorem z134(m:Nat)(r:Rel)(v0:Int)(v2:Int):zi4 m (zaj r v0 v2)=cndO (decide (v2<(↑(z10 (Rel.ids r)).length:Int))) (obO (0≤v2∧v2<(↑(z10 (Rel.ids r)).length:Int)) (obO ((2:Nat)*(Term.ids ((z10 (Rel.ids r)).getD v2.toNat zb)).ht<m) (obO ((Term.ids ((z10 (Rel.ids r)).getD v2.toNat zb)).sz≤(2000000:Nat)) (zi4 m (zaj r (List.foldl (fun a b=>if b<a then b else a) (IntKind.i64.wrap (v0+zf5 (Term.ids ((z10 (Rel.ids r)).getD v2.toNat zb)))) [(1048576:Int)]) (IntKind.i64.wrap (v2+1))))))) (some (.exit 2,(zaj r v0 v2))):=lpQ_ (by kernel_rfl)
theorem z1ft(m:Nat)(r:Rel)(v0:Int)(v2:Int):z131 m (.exit 2) (zaj r v0 v2)=some (z2e (v0)):=by kernel_rfl
theorem z1jr(m:Nat)(r:Rel)(hr:WS .rel r)(hm:2*r.ht+1<m+1)(h:r.sz≤2000000):z132 m r=some (z2e (zki r)):=by
 obtain⟨lp,_⟩:=z1p (e:=.exit 0) (L:=zi3 m) (st:=fun(n:Int) i=>zai r n i) (l:=r.kids) (d:=za) (g:=fun n k=>capI n (zsp k)) (fun _ _=>True) (hr.rel_kids).len
  (fun n i k hi hk _=>by
   have hmem:k∈r.kids:=by grind
   have h1:=Rel.ht_kid hmem;have h2:=z9j hmem;refine⟨trivial,?_⟩;rw[z133];simp only[z8,hi,decide_true,if_true,and_true,y5,hk,Rel.ids_eq];rw[z6 (by omega),z6 (by omega),z6 (by omega)]
   rfl)
  (fun n _=>by rw[z133];simp[z8]) 0 trivial
 rw[zqk]at lp;have hlen:=znu r
 obtain⟨lq,_⟩:=z1p (e:=.exit 2) (L:=zi4 m) (st:=fun(n:Int) i=>zaj r n i) (l:=z10 r) (d:=zb) (g:=fun n k=>capI n (zkh k)) (fun _ _=>True) (by omega)
  (fun n i k hi hk _=>by
   have hmem:k∈z10 r:=by grind
   obtain⟨h1,h2⟩:=z90 hmem;refine⟨trivial,?_⟩;rw[z134];simp only[Rel.ids_eq,z8,hi,decide_true,if_true,and_true,y5,hk,Term.ids_eq];rw[z6 (by omega),z6 (by omega),z6 (by omega)]
   rfl)
  (fun n _=>by rw[z134];simp[z8,Rel.ids_eq]) (zf4 0 r.kids) trivial
 rw[z6h]at lq;rw[z1vb];refine(zg lp).trans ?_;rw[z1fs,Rel.ids_eq,z6 h];grind[zg,trans,z1ft,zki,z281]
theorem z1pe(m:Nat)(hG:z1fr m):FnOK 133 (zi2 (m+1)):=fnK1 zr (M:=(zc9 m)) rfl ⟨hG.2,zyz,hG.1,trivial⟩ trivial trivial trivial trivial Tryz.func133 fun r=>GiF.r fun w o=>z1jr m r (wfA_ w 0) (obA_ o 0) (obA_ o 1)
theorem ztj:∀m,z1fr m
 |0=>⟨fnZ1,fnZ1⟩
 |m+1=>⟨z1va m (ztj m),z1pe m (ztj m)⟩
def z1cn:FnC Un:=fnF1 (dS .term) fun t=>([t.sz≤2000000],z2e (zf5 t))
theorem z1z8:FnOK 76 z1cn:=fnA1 fun m=>(ztj m).1
def z282(n:Int)(l:List Term):Int:=l.foldl (fun n t=>maxI n (zkh t)) n
def z283(op n most:Int):Int:=if op=4∨op=7 then List.foldl (fun a b=>if b<a then b else a) (IntKind.i64.wrap (n*List.foldl (fun a b=>if b<a then b else a) most [(1048576:Int)])) [(1048576:Int)]else n
mutual
def z11p:Term→Int
 | .mk _ _ _ _ _ kids sub _=>zpk (zhf 1 kids) sub
def zhf:Int→List Term→Int
 |n,[]=>n
 |n,t::l=>zhf (maxI n (z11p t)) l
def z2h4:Int→Agg→Int
 |n,.mk _ _ t=>zhf n t
def z1js:Int→List Agg→Int
 |n,[]=>n
 |n,a::l=>z1js (z2h4 n a) l
def z1a3:Rel→Int
 | .mk op _ _ kids terms aggs _ _ _ _ _=>z283 op (z1js (zhf (zpk 1 kids) terms) aggs) (z282 1 (terms++z88 aggs))
def zpk:Int→List Rel→Int
 |n,[]=>n
 |n,r::l=>zpk (maxI n (z1a3 r)) l
end
theorem z7i:∀(l:List Term)(n:Int),l.foldl (fun n t=>maxI n (z11p t)) n=zhf n l
 |[],n=>by rfl
 |t::l,n=>by rw[yu,z7i l,zhf]
theorem zxd:∀(l:List Rel)(n:Int),l.foldl (fun n t=>maxI n (z1a3 t)) n=zpk n l
 |[],n=>by rfl
 |t::l,n=>by rw[yu,zxd l,zpk]
theorem z1co:∀(l:List Agg)(n:Int),zhf n (z88 l)=z1js n l
 |[],n=>by rfl
 | .mk a b t::l,n=>by
  rw[z88,z1js,←z1co l,←z7i,y2d,z7i,z7i,z2h4,Agg.t_mk]
theorem z2f9(t:Term):z11p t=zpk (zhf 1 t.kids) t.sub:=by cases t;rfl
theorem z2fa(r:Rel):z1a3 r=z283 r.op (zhf (zpk 1 r.kids) (z10 r)) (z282 1 (z10 r)):=by
 unfold z10;rw[←z7i,y2d,z7i,z7i,z1co];cases r;rfl
theorem z1t7{α:Type}(f g:Int→α→Int):∀(l:List α)(a b:Int),l.foldl (fun(p:Int×Int) x=>(f p.1 x,g p.2 x)) (a,b)=(l.foldl f a,l.foldl g b)
 |[],_,_=>rfl
 |x::l,a,b=>by rw[yu,z1t7 f g l];rfl
def zhg(t:Term):Int:=z11p t
def zd2(r:Rel):Int:=z1a3 r
def zg5(m:Nat):FnC Un:=fnF1 (dS .term) fun t=>z2m (2*t.ht) m ([t.sz≤2000000],z2e (zhg t))
def zko(m:Nat):FnC Un:=fnF1 (dS .rel) fun r=>z2m (2*r.ht+1) m ([r.sz≤2000000],z2e (zd2 r))
def zak(m:Nat):Mc Un:=mcF_ [(77,zg5 m),(40,zko m)] [] [] [] []
def zdq:Nat→NS:=nsF_ [(3,{ts:=bl 37 26,bs:=bl 37 2,nm:=[],cs:=true}),(7,{ts:=bl 37 42,bs:=bl 37 2,nm:=[],cs:=true})] true
def z9k(t:Term)(v0:Int)(v1:Int):S Un:=(st 37 37 148 0 [(1,ax 1),(3,ai v0),(4,ai v1)] [(1,bg .term t)] [])
def z9l(t:Term)(v0:Int)(v2:Int):S Un:=(st 37 37 148 0 [(1,ax 1),(3,ai v0),(5,ai v2)] [(1,bg .term t)] [])
def zg6(m:Nat):S Un→Option (EX Un):=lpF_ (zak m) zdq Tryz.f77 [1,1,0,1,2,2] 3
def zg7(m:Nat):S Un→Option (EX Un):=lpF_ (zak m) zdq Tryz.f77 [1,1,1,0,1,2,2] 7
def zz0(m:Nat):Exit→S Un→Option (RF Un):=cxF_ (zak m) zdq Tryz.f77 [1,1,0,1,2] [.d]
def zz1(m:Nat):Exit→S Un→Option (RF Un):=cxF_ (zak m) zdq Tryz.f77 [1,1,1,0,1,2] [.d]
def zz2(m:Nat)(t:Term):Option (RF Un):=fnF_ (zak m) zdq Tryz.f77 0 [.d] [.d (.agg (enc Ty.term t))]
theorem z1pf(m:Nat)(t:Term):zz2 m t=(zg6 m (z9k t (1:Int) (0:Int))).bind (ze (zz0 m)):=by kernel_rfl
theorem zz3(m:Nat)(t:Term)(v0:Int)(v1:Int):zg6 m (z9k t v0 v1)=cndO (decide (v1<(↑t.kids.length:Int))) (obO (0≤v1∧v1<(↑t.kids.length:Int)) (obO ((2:Nat)*(Term.ids (t.kids.getD v1.toNat zb)).ht<m) (obO ((Term.ids (t.kids.getD v1.toNat zb)).sz≤(2000000:Nat)) (zg6 m (z9k t (List.foldl (fun a b=>if a<b then b else a) v0 [zhg (Term.ids (t.kids.getD v1.toNat zb))]) (IntKind.i64.wrap (v1+1))))))) (some (.exit 0,(z9k t v0 v1))):=lpQ_ (by kernel_rfl)
theorem z1au(m:Nat)(t:Term)(v0:Int)(v1:Int):zz0 m (.exit 0) (z9k t v0 v1)=(zg7 m (z9l t v0 (0:Int))).bind (ze (zz1 m)):=by kernel_rfl
theorem zz4(m:Nat)(t:Term)(v0:Int)(v2:Int):zg7 m (z9l t v0 v2)=cndO (decide (v2<(↑t.sub.length:Int))) (obO (0≤v2∧v2<(↑t.sub.length:Int)) (obO ((2:Nat)*(Rel.ids (t.sub.getD v2.toNat za)).ht+(1:Nat)<m) (obO ((Rel.ids (t.sub.getD v2.toNat za)).sz≤(2000000:Nat)) (zg7 m (z9l t (List.foldl (fun a b=>if a<b then b else a) v0 [zd2 (Rel.ids (t.sub.getD v2.toNat za))]) (IntKind.i64.wrap (v2+1))))))) (some (.exit 2,(z9l t v0 v2))):=lpQ_ (by kernel_rfl)
theorem z1av(m:Nat)(t:Term)(v0:Int)(v2:Int):zz1 m (.exit 2) (z9l t v0 v2)=some (z2e (v0)):=by kernel_rfl
theorem z1fu(m:Nat)(t:Term)(ht:WS .term t)(hm:2*t.ht<m+1)(h:t.sz≤2000000):zz2 m t=some (z2e (zhg t)):=by
 obtain⟨lp,_⟩:=z1p (e:=.exit 0) (L:=zg6 m) (st:=fun(n:Int) i=>z9k t n i) (l:=t.kids) (d:=zb) (g:=fun n k=>maxI n (z11p k)) (fun _ _=>True) (ht.term_kids).len
  (fun n i k hi hk _=>by
   have hmem:k∈t.kids:=by grind
   have h1:=Term.ht_kid hmem;have h2:=zkj hmem;refine⟨trivial,?_⟩;rw[zz3];simp only[z8,hi,decide_true,if_true,and_true,y5,hk,Term.ids_eq];rw[z6 (by omega),z6 (by omega),z6 (by omega)]
   rfl)
  (fun n _=>by rw[zz3];simp[z8]) 1 trivial
 rw[z7i]at lp
 obtain⟨lq,_⟩:=z1p (e:=.exit 2) (L:=zg7 m) (st:=fun(n:Int) i=>z9l t n i) (l:=t.sub) (d:=za) (g:=fun n k=>maxI n (z1a3 k)) (fun _ _=>True) (ht.term_sub).len
  (fun n i k hi hk _=>by
   have hmem:k∈t.sub:=by grind
   have h1:=Term.ht_sub hmem;have h2:=zkk hmem;refine⟨trivial,?_⟩;rw[zz4];simp only[z8,hi,decide_true,if_true,and_true,y5,hk,Rel.ids_eq];rw[z6 (by omega),z6 (by omega),z6 (by omega)]
   rfl)
  (fun n _=>by rw[zz4];simp[z8]) (zhf 1 t.kids) trivial
 rw[zxd]at lq;rw[z1pf];grind[zg,trans,z1au,z1av,zhg,z2f9]
abbrev z1fv(m:Nat):Prop:=FnOK 77 (zg5 m)∧FnOK 40 (zko m)
theorem z1jt(m:Nat)(hG:z1fv m):FnOK 77 (zg5 (m+1)):=fnK1 zr (M:=(zak m)) rfl ⟨hG.1,hG.2,trivial⟩ trivial trivial trivial trivial Tryz.func77 fun t=>GiF.r fun w o=>z1fu m t (wfA_ w 0) (obA_ o 0) (obA_ o 1)
def ze5(m:Nat):Mc Un:=mcF_ [(40,zko m),(75,zqj),(76,z1cn),(77,zg5 m)] [] [] [] []
def zhh:Nat→NS:=nsF_ [(3,{ts:=bl 59 58,bs:=bl 59 2,nm:=[],cs:=true}),(8,{ts:=bl 59 218,bs:=bl 59 2,nm:=[],cs:=true})] true
def z5b(r:Rel):=z10 (Rel.mk r.op r.table r.cols r.kids r.terms r.aggs r.keys r.limit r.skip r.all r.rows)
def zca(r:Rel)(v0:Int)(v1:Int):S Un:=(st 59 59 236 0 [(1,ax 1),(3,ai v0),(4,ai (1:Int)),(5,ai v1)] [(1,bg .rel r)] [])
def zcb(r:Rel)(v0:Int)(v2:Int)(v3:Int):S Un:=(st 59 59 236 0 [(1,ax 1),(3,ai v0),(4,ai v2),(6,al .term (z5b r)),(7,ai v3)] [(1,bg .rel r)] [])
def zkp(m:Nat):S Un→Option (EX Un):=lpF_ (ze5 m) zhh Tryz.f40 [1,1,0,1,2,2] 3
def zkq(m:Nat):S Un→Option (EX Un):=lpF_ (ze5 m) zhh Tryz.f40 [1,1,1,1,0,1,2,2] 8
def z169(m:Nat):Exit→S Un→Option (RF Un):=cxF_ (ze5 m) zhh Tryz.f40 [1,1,0,1,2] [.d]
def z16a(m:Nat):Exit→S Un→Option (RF Un):=cxF_ (ze5 m) zhh Tryz.f40 [1,1,1,1,0,1,2] [.d]
def z16b(m:Nat)(r:Rel):Option (RF Un):=fnF_ (ze5 m) zhh Tryz.f40 0 [.d] [.d (.agg (enc Ty.rel r))]
theorem z1z9(m:Nat)(r:Rel):z16b m r=(zkp m (zca r (1:Int) (0:Int))).bind (ze (z169 m)):=by kernel_rfl
theorem z16c(m:Nat)(r:Rel)(v0:Int)(v1:Int):zkp m (zca r v0 v1)=cndO (decide (v1<(↑r.kids.length:Int))) (obO (0≤v1∧v1<(↑r.kids.length:Int)) (obO ((2:Nat)*(Rel.ids (r.kids.getD v1.toNat za)).ht+(1:Nat)<m) (obO ((Rel.ids (r.kids.getD v1.toNat za)).sz≤(2000000:Nat)) (zkp m (zca r (List.foldl (fun a b=>if a<b then b else a) v0 [zd2 (Rel.ids (r.kids.getD v1.toNat za))]) (IntKind.i64.wrap (v1+1))))))) (some (.exit 0,(zca r v0 v1))):=lpQ_ (by kernel_rfl)
theorem z1ju(m:Nat)(r:Rel)(v0:Int)(v1:Int):z169 m (.exit 0) (zca r v0 v1)=obO ((Rel.ids r).sz≤(2000000:Nat)) ((zkq m (zcb r v0 (1:Int) (0:Int))).bind (ze (z16a m))):=by kernel_rfl
theorem z16d(m:Nat)(r:Rel)(v0:Int)(v2:Int)(v3:Int):zkq m (zcb r v0 v2 v3)=cndO (decide (v3<(↑(z5b r).length:Int))) (obO (0≤v3∧v3<(↑(z5b r).length:Int)) (obO ((Term.ids ((z5b r).getD v3.toNat zb)).sz≤(2000000:Nat)) (obO (0≤v3∧v3<(↑(z5b r).length:Int)) (obO ((2:Nat)*(Term.ids ((z5b r).getD v3.toNat zb)).ht<m) (obO ((Term.ids ((z5b r).getD v3.toNat zb)).sz≤(2000000:Nat)) (zkq m (zcb r (List.foldl (fun a b=>if a<b then b else a) v0 [zhg (Term.ids ((z5b r).getD v3.toNat zb))]) (List.foldl (fun a b=>if a<b then b else a) v2 [zf5 (Term.ids ((z5b r).getD v3.toNat zb))]) (IntKind.i64.wrap (v3+1))))))))) (some (.exit 2,(zcb r v0 v2 v3))):=lpQ_ (by kernel_rfl)
theorem z1jv(m:Nat)(r:Rel)(v0:Int)(v2:Int)(v3:Int):z16a m (.exit 2) (zcb r v0 v2 v3)=cndO (r.op==4) (some (z2e (List.foldl (fun a b=>if b<a then b else a) (IntKind.i64.wrap (v0*List.foldl (fun a b=>if b<a then b else a) v2 [(1048576:Int)])) [(1048576:Int)]))) (cndO (r.op==7) (some (z2e (List.foldl (fun a b=>if b<a then b else a) (IntKind.i64.wrap (v0*List.foldl (fun a b=>if b<a then b else a) v2 [(1048576:Int)])) [(1048576:Int)]))) (some (z2e (v0)))):=by kernel_rfl
theorem z1pg(m:Nat)(r:Rel)(hr:WS .rel r)(hm:2*r.ht+1<m+1)(h:r.sz≤2000000):z16b m r=some (z2e (zd2 r)):=by
 obtain⟨lp,_⟩:=z1p (e:=.exit 0) (L:=zkp m) (st:=fun(n:Int) i=>zca r n i) (l:=r.kids) (d:=za) (g:=fun n k=>maxI n (z1a3 k)) (fun _ _=>True) (hr.rel_kids).len
  (fun n i k hi hk _=>by
   have hmem:k∈r.kids:=by grind
   have h1:=Rel.ht_kid hmem;have h2:=z9j hmem;refine⟨trivial,?_⟩;rw[z16c];simp only[z8,hi,decide_true,if_true,and_true,y5,hk,Rel.ids_eq];rw[z6 (by omega),z6 (by omega),z6 (by omega)]
   rfl)
  (fun n _=>by rw[z16c];simp[z8]) 1 trivial
 rw[zxd]at lp;have hlen:=znu r;have hc:z5b r=z10 r:=by rfl
 obtain⟨lq,_⟩:=z1p (e:=.exit 2) (L:=zkq m) (st:=fun(n:Int×Int) i=>zcb r n.1 n.2 i) (l:=z10 r) (d:=zb) (g:=fun n k=>(maxI n.1 (z11p k),maxI n.2 (zkh k))) (fun _ _=>True) (by omega)
  (fun n i k hi hk _=>by
   have hmem:k∈z10 r:=by grind
   obtain⟨h1,h2⟩:=z90 hmem;refine⟨trivial,?_⟩;rw[z16d];simp only[hc,z8,hi,decide_true,if_true,and_true,y5,hk,Term.ids_eq];rw[z6 (by omega),z6 (by omega),z6 (by omega),z6 (by omega),z6 (by omega)]
   rfl)
  (fun n _=>by grind[z16d,z8]) (zpk 1 r.kids,1) trivial
 rw[z1t7 (fun n k=>maxI n (z11p k)) (fun n k=>maxI n (zkh k)),z7i]at lq;rw[z1z9];refine(zg lp).trans ?_;rw[z1ju,Rel.ids_eq,z6 h];refine(zg lq).trans ?_;rw[z1jv,zd2,z2fa];unfold z283 z282;simp only[z8,beq_iff_eq];grind
theorem z1vc(m:Nat)(hG:z1fv m):FnOK 40 (zko (m+1)):=fnK1 zr (M:=(ze5 m)) rfl ⟨hG.2,zyz,z1z8,hG.1,trivial⟩ trivial trivial trivial trivial Tryz.func40 fun r=>GiF.r fun w o=>z1pg m r (wfA_ w 0) (obA_ o 0) (obA_ o 1)
theorem ztk:∀m,z1fv m
 |0=>⟨fnZ1,fnZ1⟩
 |m+1=>⟨z1jt m (ztk m),z1vc m (ztk m)⟩
def z1cp:FnC Un:=fnF1 (dS .rel) fun r=>([r.sz≤2000000],z2e (zd2 r))
theorem z1za:FnOK 40 z1cp:=fnA1 fun m=>(ztk m).2
end
end B
namespace B
open Go Go.RowKit
set_option maxRecDepth 100000
noncomputable section
attribute [local irreducible] awp ctxK zx z1f retQ z1l awf ctxF z1k
def z11r:Nat→NS:=nsF_ [(3,{ts:=bl 29 99,bs:=bl 29 0,nm:=[],cs:=true})] true
def zbo(table:ByteArray)(db:List Data)(v0:Int)(v1:Int):S Un:=(st 29 29 116 0 [(0,at_ table),(1,al .data db),(5,ai v0),(6,ai v1)] [] [])
def zhi:S Un→Option (EX Un):=lpF_ z1bz z11r Tryz.f64 [1,1,0,1,2,2] 3
def z1cq:Exit→S Un→Option (RF Un):=cxF_ z1bz z11r Tryz.f64 [1,1,0,1,2] [.d]
def z1cr(table:ByteArray)(db:List Data):Option (RF Un):=fnF_ z1bz z11r Tryz.f64 0 [.d] [.d (.v (cs table)),.d (.v (.dat (U:=Un) Ty.data db))]
theorem z23w(table:ByteArray)(db:List Data):z1cr table db=(zhi (zbo table db (0:Int) (0:Int))).bind (ze z1cq):=by kernel_rfl
theorem z1cs(table:ByteArray)(db:List Data)(v0:Int)(v1:Int):zhi (zbo table db v0 v1)=cndO (decide (v1<(↑db.length:Int))) (obO (0≤v1∧v1<(↑db.length:Int)) (cndO ((db.getD v1.toNat z38).table.toList ==table.toList) (obO (0≤v1∧v1<(↑db.length:Int)) (zhi (zbo table db (IntKind.i64.wrap (v0+(↑(db.getD v1.toNat z38).rows.length:Int))) (IntKind.i64.wrap (v1+1))))) (zhi (zbo table db v0 (IntKind.i64.wrap (v1+1)))))) (some (.exit 0,(zbo table db v0 v1))):=lpQ_ (by kernel_rfl)
theorem z1ph(table:ByteArray)(db:List Data)(v0:Int)(v1:Int):z1cq (.exit 0) (zbo table db v0 v1)=some (z2e (v0)):=by kernel_rfl
theorem zal{σ α:Type}{L:S Un→Option (EX Un)}{st:σ→Int→S Un}{l:List α}{d:α}(g:σ→α→σ){e:Exit}(hl:l.length≤9223372036854775807)
  (step:∀(a:σ)(i:Nat)(x:α),(i:Int)<(l.length:Int)→l.getD i d=x→x∈l→L (st a i)=L (st (g a x) (IntKind.i64.wrap ((i:Int)+1))))
  (stop:∀a,L (st a (l.length:Int))=some (e,st a (l.length:Int)))(a:σ):L (st a (0:Int))=some (e,st (l.foldl g a) (l.length:Int)):=
 (z1p (e:=e) (L:=L) (st:=st) (l:=l) (d:=d) (g:=g) (fun _ _=>True) hl (fun a i x hi hx _=>⟨trivial,step a i x hi hx (by grind)⟩) (fun a _=>stop a) a trivial).1
def addI(n x:Int):Int:=IntKind.i64.wrap (n+x)
def minI(a b:Int):Int:=List.foldl (fun a b=>if b<a then b else a) a [b]
def zkr(table:ByteArray)(n:Int)(d:Data):Int:=if(d.table.toList==table.toList)=true then addI n d.rows.length else n
def zbp(table:ByteArray)(db:List Data):Int:=db.foldl (zkr table) 0
theorem z1vd(table:ByteArray)(db:List Data)(_ht:WStr table)(hd:WL .data db):z1cr table db=some (z2e (zbp table db)):=by
 have lp:=zal (e:=.exit 0) (L:=zhi) (st:=fun(n:Int) i=>zbo table db n i) (l:=db) (d:=z38) (zkr table) hd.len
  (fun n i k hi hk _=>by
   rw[z1cs];simp only[z8,hi,decide_true,if_true,and_true,y5,hk];rw[z6 (by omega),z6 (by omega)];unfold zkr;by_cases c:(k.table.toList==table.toList)=true
   ·rw[if_pos c,if_pos c];rfl
   grind)
  (fun n=>by rw[z1cs];simp[z8]) 0
 rw[z23w];refine(zg lp).trans ?_;rw[z1ph];rfl
def z1jw:FnC Un:=fnF2 dStr (dL .data) fun table db=>([],z2e (zbp table db))
theorem z23x:FnOK 64 z1jw:=fnK2 z4l z11 (M:=z1bz) rfl trivial trivial trivial trivial trivial Tryz.func64 fun table db=>GiF.r fun w _=>z1vd table db (wfA_ w 0) (wfA_ w 1)
def z16e(op held rl n:Int)(rows:List Int)(asks:Int):Int×Int:=
 let out (i o:Int):Int×Int:=(minI o 1048576,minI (addI n (IntKind.i64.wrap (minI i 1048576*minI asks 1048576))) 1048576)
 if op=1 then out held held
 else if rows.length=0 then out rl rl
 else if rows.length=1 then out (rows.getD 0 0) (maxI (rows.getD 0 0) 1)
 else if op=5∨op=6 then out (IntKind.i64.wrap (rows.getD 0 0*maxI (rows.getD 1 0) 1)) (IntKind.i64.wrap (rows.getD 0 0*maxI (rows.getD 1 0) 1))
 else out (IntKind.i64.wrap (rows.getD 0 0+rows.getD 1 0)) (IntKind.i64.wrap (rows.getD 0 0+rows.getD 1 0))
mutual
def wghT(db:List Data):Term→Int
 | .mk _ _ _ _ _ kids sub _=>z1jy db (z1a4 db 0 kids) sub
def z1a4(db:List Data):Int→List Term→Int
 |n,[]=>n
 |n,t::l=>z1a4 db (capI n (wghT db t)) l
def zks(db:List Data):Int→List Term→Int
 |n,[]=>n
 |n,t::l=>zks db (addI n (wghT db t)) l
def askA(db:List Data):Int→Agg→Int
 |n,.mk _ _ t=>zks db n t
def zru(db:List Data):Int→List Agg→Int
 |n,[]=>n
 |n,a::l=>zru db (askA db n a) l
def wghR(db:List Data):Rel→Int×Int
 | .mk op table _ kids terms aggs _ _ _ _ rows=>z16e op (zbp table db) rows.length ((z1jx db kids).foldl (fun n p=>addI n p.2) 0) ((z1jx db kids).map (·.1)) (zru db (zks db 1 terms) aggs)
def z1jx(db:List Data):List Rel→List (Int×Int)
 |[]=>[]
 |r::l=>wghR db r::z1jx db l
def z1jy(db:List Data):Int→List Rel→Int
 |n,[]=>n
 |n,r::l=>z1jy db (capI n (wghR db r).2) l
end
theorem zrv(db:List Data):∀(l:List Term)(n:Int),l.foldl (fun n t=>capI n (wghT db t)) n=z1a4 db n l
 |[],n=>by rfl
 |t::l,n=>by rw[yu,zrv db l,z1a4]
theorem zkt(db:List Data):∀(l:List Term)(n:Int),l.foldl (fun n t=>addI n (wghT db t)) n=zks db n l
 |[],n=>by rfl
 |t::l,n=>by rw[yu,zkt db l,zks]
theorem z26a(db:List Data)(n:Int)(a:Agg):askA db n a=zks db n a.t:=by cases a;rfl
theorem z1jz(db:List Data):∀(l:List Agg)(n:Int),l.foldl (fun n a=>zks db n a.t) n=zru db n l
 |[],n=>by rfl
 |t::l,n=>by rw[yu,z1jz db l,zru,z26a]
theorem zrw(db:List Data):∀(l:List Rel)(n:Int),l.foldl (fun n t=>capI n (wghR db t).2) n=z1jy db n l
 |[],n=>by rfl
 |t::l,n=>by rw[yu,zrw db l,z1jy]
theorem z1t8(db:List Data):∀l:List Rel,z1jx db l=l.map (wghR db)
 |[]=>by rfl
 |r::l=>by rw[z1jx,z1t8 db l,yr]
theorem z1pi(db:List Data)(t:Term):wghT db t=z1jy db (z1a4 db 0 t.kids) t.sub:=by cases t;rfl
theorem z26b(db:List Data)(r:Rel):wghR db r=z16e r.op (zbp r.table db) r.rows.length (r.kids.foldl (fun n k=>addI n (wghR db k).2) 0) (r.kids.map fun k=>(wghR db k).1) (zru db (zks db 1 r.terms) r.aggs):=by
 cases r;simp only[wghR,z1t8,List.foldl_map,List.map_map,Rel.op_mk,Rel.table_mk,Rel.kids_mk,Rel.terms_mk,Rel.aggs_mk,Rel.rows_mk];rfl
def zg8(t:Term)(db:List Data):Int:=wghT db t
def z7j(r:Rel)(db:List Data):Int×Int:=wghR db r
theorem z1t9(db:List Data):∀(l:List Rel)(n:Int)(x:List Int),l.foldl (fun(p:Int×List Int) k=>(addI p.1 (wghR db k).2,p.2++[(wghR db k).1])) (n,x)=(l.foldl (fun n k=>addI n (wghR db k).2) n,x++l.map fun k=>(wghR db k).1)
 |[],n,x=>by simp
 |r::l,n,x=>by rw[yu,z1t9 db l,yu,yr,y12];rfl
theorem ztl(r:Rel):(∀t∈r.terms,t.ht<r.ht∧t.sz<r.sz)∧∀a∈r.aggs,∀t∈a.t,t.ht<r.ht∧t.sz<r.sz:=by
 have h5:htTs r.terms<r.ht∧htAs r.aggs<r.ht:=by cases r;grind[Rel.ht,Rel.terms_mk,Rel.aggs_mk]
 have h3:=r.sz_eq;refine⟨fun t h=>⟨by have:=zbi h;omega,by have:=zj5 h;omega⟩,fun a ha t h=>?_⟩;have h1:=z11c ha;have h2:=zms ha;have h6:=a.sz_eq;have h7:=zbi h;have h8:=zj5 h;have h9:htTs a.t<a.ht:=by cases a;simp[Agg.t_mk,Agg.ht]
 omega
def zi5(m:Nat):FnC Un:=fnF2 (dS .term) (dL .data) fun t db=>z2m (2*t.ht) m ([t.sz≤2000000],z2e (zg8 t db))
def z7r(r:Int×Int):RF Un:=([.c (.s (.int .i64 r.1)),.c (.s (.int .i64 r.2))],[])
def zi6(m:Nat):FnC Un:=fnF2 (dS .rel) (dL .data) fun r db=>z2m (2*r.ht+1) m ([r.sz≤2000000],z7r (z7j r db))
def zcc(m:Nat):Mc Un:=mcF_ [(34,zi5 m),(29,zi6 m)] [] [] [] []
def zf7:Nat→NS:=nsF_ [(3,{ts:=bl 49 102,bs:=bl 49 4,nm:=[],cs:=true}),(7,{ts:=bl 49 166,bs:=bl 49 4,nm:=[],cs:=true})] true
def zam(t:Term)(db:List Data)(v0:Int)(v1:Int):S Un:=(st 49 49 196 0 [(1,al .data db),(2,ax 2),(5,ai v0),(6,ai v1)] [(2,bg .term t)] [])
def zan(t:Term)(db:List Data)(v0:Int)(v2:Int):S Un:=(st 49 49 196 0 [(1,al .data db),(2,ax 2),(5,ai v0),(7,ai v2)] [(2,bg .term t)] [])
def zi7(m:Nat):S Un→Option (EX Un):=lpF_ (zcc m) zf7 Tryz.f34 [1,1,0,1,2,2] 3
def zi8(m:Nat):S Un→Option (EX Un):=lpF_ (zcc m) zf7 Tryz.f34 [1,1,1,0,1,2,2] 7
def z135(m:Nat):Exit→S Un→Option (RF Un):=cxF_ (zcc m) zf7 Tryz.f34 [1,1,0,1,2] [.d]
def z136(m:Nat):Exit→S Un→Option (RF Un):=cxF_ (zcc m) zf7 Tryz.f34 [1,1,1,0,1,2] [.d]
def z137(m:Nat)(t:Term)(db:List Data):Option (RF Un):=fnF_ (zcc m) zf7 Tryz.f34 0 [.d] [.d (.agg (enc Ty.term t)),.d (.v (.dat (U:=Un) Ty.data db))]
theorem z1ve(m:Nat)(t:Term)(db:List Data):z137 m t db=(zi7 m (zam t db (0:Int) (0:Int))).bind (ze (z135 m)):=by kernel_rfl
theorem z138(m:Nat)(t:Term)(db:List Data)(v0:Int)(v1:Int):zi7 m (zam t db v0 v1)=cndO (decide (v1<(↑t.kids.length:Int))) (obO (0≤v1∧v1<(↑t.kids.length:Int)) (obO ((2:Nat)*(Term.ids (t.kids.getD v1.toNat zb)).ht<m) (obO ((Term.ids (t.kids.getD v1.toNat zb)).sz≤(2000000:Nat)) (zi7 m (zam t db (List.foldl (fun a b=>if b<a then b else a) (IntKind.i64.wrap (v0+zg8 (Term.ids (t.kids.getD v1.toNat zb)) db)) [(1048576:Int)]) (IntKind.i64.wrap (v1+1))))))) (some (.exit 0,(zam t db v0 v1))):=lpQ_ (by kernel_rfl)
theorem z1fw(m:Nat)(t:Term)(db:List Data)(v0:Int)(v1:Int):z135 m (.exit 0) (zam t db v0 v1)=(zi8 m (zan t db v0 (0:Int))).bind (ze (z136 m)):=by kernel_rfl
theorem z139(m:Nat)(t:Term)(db:List Data)(v0:Int)(v2:Int):zi8 m (zan t db v0 v2)=cndO (decide (v2<(↑t.sub.length:Int))) (obO (0≤v2∧v2<(↑t.sub.length:Int)) (obO ((2:Nat)*(Rel.ids (t.sub.getD v2.toNat za)).ht+(1:Nat)<m) (obO ((Rel.ids (t.sub.getD v2.toNat za)).sz≤(2000000:Nat)) (zi8 m (zan t db (List.foldl (fun a b=>if b<a then b else a) (IntKind.i64.wrap (v0+(z7j (Rel.ids (t.sub.getD v2.toNat za)) db).snd)) [(1048576:Int)]) (IntKind.i64.wrap (v2+1))))))) (some (.exit 2,(zan t db v0 v2))):=lpQ_ (by kernel_rfl)
theorem z1fx(m:Nat)(t:Term)(db:List Data)(v0:Int)(v2:Int):z136 m (.exit 2) (zan t db v0 v2)=some (z2e (v0)):=by kernel_rfl
theorem z1k0(m:Nat)(t:Term)(db:List Data)(ht:WS .term t)(_hd:WL .data db)(hm:2*t.ht<m+1)(h:t.sz≤2000000):z137 m t db=some (z2e (zg8 t db)):=by
 have lp:=zal (e:=.exit 0) (L:=zi7 m) (st:=fun(n:Int) i=>zam t db n i) (l:=t.kids) (d:=zb) (fun n k=>capI n (wghT db k)) (ht.term_kids).len
  (fun n i k hi hk hmem=>by
   have h1:=Term.ht_kid hmem;have h2:=zkj hmem;rw[z138];simp only[z8,hi,decide_true,if_true,and_true,y5,hk,Term.ids_eq];rw[z6 (by omega),z6 (by omega),z6 (by omega)]
   rfl)
  (fun n=>by rw[z138];simp[z8]) 0
 rw[zrv]at lp
 have lq:=zal (e:=.exit 2) (L:=zi8 m) (st:=fun(n:Int) i=>zan t db n i) (l:=t.sub) (d:=za) (fun n k=>capI n (wghR db k).2) (ht.term_sub).len
  (fun n i k hi hk hmem=>by
   have h1:=Term.ht_sub hmem;have h2:=zkk hmem;rw[z139];simp only[z8,hi,decide_true,if_true,and_true,y5,hk,Rel.ids_eq];rw[z6 (by omega),z6 (by omega),z6 (by omega)]
   rfl)
  (fun n=>by rw[z139];simp[z8]) (z1a4 db 0 t.kids)
 rw[zrw]at lq;rw[z1ve];grind[zg,trans,z1fw,z1fx,zg8,z1pi]
abbrev z16f(m:Nat):Prop:=FnOK 34 (zi5 m)∧FnOK 29 (zi6 m)
theorem z1pj(m:Nat)(hG:z16f m):FnOK 34 (zi5 (m+1)):=fnK2 zr z11 (M:=(zcc m)) rfl ⟨hG.1,hG.2,trivial⟩ trivial trivial trivial trivial Tryz.func34 fun t db=>GiF.r fun w o=>z1k0 m t db (wfA_ w 0) (wfA_ w 1) (obA_ o 0) (obA_ o 1)
def z5c(m:Nat):Mc Un:=mcF_ [(29,zi6 m),(34,zi5 m),(64,z1jw)] [] [] [] []
def z3z:Nat→NS:=nsF_ [(3,{ts:=bl 156 454,bs:=bl 156 4,nm:=[(.sl 6,624)],cs:=true}),(10,{ts:=bl 156 6342,bs:=bl 156 4,nm:=[(.sl 6,625)],cs:=true}),(14,{ts:=bl 156 10438,bs:=bl 156 4,nm:=[(.sl 6,626)],cs:=true}),(17,{ts:=bl 156 26822,bs:=bl 156 4,nm:=[(.sl 6,627)],cs:=true})] true
def zdr(r:Rel)(db:List Data)(v1:Int):=z7j (Rel.mk (Rel.op (r.kids.getD v1.toNat za)) (Rel.table (r.kids.getD v1.toNat za)) (Rel.cols (r.kids.getD v1.toNat za)) (Rel.kids (r.kids.getD v1.toNat za)) (Rel.terms (r.kids.getD v1.toNat za)) (Rel.aggs (r.kids.getD v1.toNat za)) (Rel.keys (r.kids.getD v1.toNat za)) (Rel.limit (r.kids.getD v1.toNat za)) (Rel.skip (r.kids.getD v1.toNat za)) (Rel.all (r.kids.getD v1.toNat za)) (Rel.rows (r.kids.getD v1.toNat za))) db
def zao(r:Rel)(db:List Data)(v0:Int)(v1:Int)(v2:List Int):S Un:=(st 156 156 628 0 [(1,al .data db),(2,ax 2),(6,ao 624),(7,ai v0),(8,ai v1)] [(2,bg .rel r)] [(624,some ⟨(0:Nat),Ty.int,v2,some (0:Nat),true⟩)])
def z9m(r:Rel)(db:List Data)(v0:Int)(v2:List Int)(v3:Int)(v4:Int):S Un:=(st 156 156 628 0 [(1,al .data db),(2,ax 2),(6,ao 625),(7,ai v0),(11,ai v3),(12,ai v4)] [(2,bg .rel r)] [(625,some ⟨(0:Nat),Ty.int,v2,some (0:Nat),true⟩)])
def z9n(r:Rel)(db:List Data)(v0:Int)(v3:Int)(v2:List Int)(v5:Int):S Un:=(st 156 156 628 0 [(1,al .data db),(2,ax 2),(6,ao 626),(7,ai v0),(11,ai v3),(13,ai v5)] [(2,bg .rel r)] [(626,some ⟨(0:Nat),Ty.int,v2,some (0:Nat),true⟩)])
def z9o(r:Rel)(db:List Data)(v0:Int)(v3:Int)(v5:Int)(v2:List Int)(v6:Int):S Un:=(st 156 156 628 0 [(1,al .data db),(2,ax 2),(6,ao 627),(7,ai v0),(11,ai v3),(13,ai v5),(14,ai v6)] [(2,bg .rel r)] [(627,some ⟨(0:Nat),Ty.int,v2,some (0:Nat),true⟩)])
def zi9(m:Nat):S Un→Option (EX Un):=lpF_ (z5c m) z3z Tryz.f29 [1,1,0,1,2,2] 3
def zg9(m:Nat):S Un→Option (EX Un):=lpF_ (z5c m) z3z Tryz.f29 [1,1,1,1,0,1,2,2] 10
def zcd(m:Nat):S Un→Option (EX Un):=lpF_ (z5c m) z3z Tryz.f29 [1,1,1,1,1,0,1,2,2] 14
noncomputable def zz5:Code:=sub (sub (zk Tryz.f29) [1,1,1,1,1,0,1,2,2]) [1,0,2,1,2,2]
def zga(m:Nat):S Un→Option (EX Un):=z1k (z3z 17) (fun s Q=>awf (z5c m) z3z zz5 s Q)
def z13a(m:Nat):Exit→S Un→Option (RF Un):=cxF_ (z5c m) z3z Tryz.f29 [1,1,0,1,2] [.d,.d]
def zz6(m:Nat):Exit→S Un→Option (RF Un):=cxF_ (z5c m) z3z Tryz.f29 [1,1,1,1,0,1,2] [.d,.d]
def zz7(m:Nat):Exit→S Un→Option (RF Un):=cxF_ (z5c m) z3z Tryz.f29 [1,1,1,1,1,0,1,2] [.d,.d]
def zz8(m:Nat):Exit→S Un→Option (EX Un):=ctxF (z5c m) z3z (sub (zk Tryz.f29) [1,1,1,1,1,0,1,2,2]) [1,0,2,1,2] (zc3 (z3z 14) (zcd m))
def z13b(m:Nat)(r:Rel)(db:List Data):Option (RF Un):=fnF_ (z5c m) z3z Tryz.f29 4 [.d,.d] [.d (.agg (enc Ty.rel r)),.d (.v (.dat (U:=Un) Ty.data db))]
theorem z1vf(m:Nat)(r:Rel)(db:List Data):z13b m r db=(zi9 m (zao r db (0:Int) (0:Int) ([]))).bind (ze (z13a m)):=by kernel_rfl
theorem z13c(m:Nat)(r:Rel)(db:List Data)(v0:Int)(v1:Int)(v2:List Int):zi9 m (zao r db v0 v1 v2)=cndO (decide (v1<(↑r.kids.length:Int))) (obO (0≤v1∧v1<(↑r.kids.length:Int)) (obO ((2:Nat)*(Rel.ids (r.kids.getD v1.toNat za)).ht+(1:Nat)<m) (obO ((Rel.ids (r.kids.getD v1.toNat za)).sz≤(2000000:Nat)) (obO ((v2.length+[(zdr r db v1).fst].length)*(8:Nat)≤zi) (zi9 m (zao r db (IntKind.i64.wrap (v0+(zdr r db v1).snd)) (IntKind.i64.wrap (v1+1)) (v2++[(zdr r db v1).fst]))))))) (some (.exit 0,(zao r db v0 v1 v2))):=lpQ_ (by kernel_rfl)
theorem z1fy(m:Nat)(r:Rel)(db:List Data)(v0:Int)(v1:Int)(v2:List Int):z13a m (.exit 0) (zao r db v0 v1 v2)=(zg9 m (z9m r db v0 v2 (1:Int) (0:Int))).bind (ze (zz6 m)):=by kernel_rfl
theorem zz9(m:Nat)(r:Rel)(db:List Data)(v0:Int)(v2:List Int)(v3:Int)(v4:Int):zg9 m (z9m r db v0 v2 v3 v4)=cndO (decide (v4<(↑r.terms.length:Int))) (obO (0≤v4∧v4<(↑r.terms.length:Int)) (obO ((2:Nat)*(Term.ids (r.terms.getD v4.toNat zb)).ht<m) (obO ((Term.ids (r.terms.getD v4.toNat zb)).sz≤(2000000:Nat)) (zg9 m (z9m r db v0 v2 (IntKind.i64.wrap (v3+zg8 (Term.ids (r.terms.getD v4.toNat zb)) db)) (IntKind.i64.wrap (v4+1))))))) (some (.exit 2,(z9m r db v0 v2 v3 v4))):=lpQ_ (by kernel_rfl)
theorem z1aw(m:Nat)(r:Rel)(db:List Data)(v0:Int)(v2:List Int)(v3:Int)(v4:Int):zz6 m (.exit 2) (z9m r db v0 v2 v3 v4)=(zcd m (z9n r db v0 v3 v2 (0:Int))).bind (ze (zz7 m)):=by kernel_rfl
theorem zza(m:Nat)(r:Rel)(db:List Data)(v0:Int)(v3:Int)(v2:List Int)(v5:Int):zcd m (z9n r db v0 v3 v2 v5)=cndO (decide (v5<(↑r.aggs.length:Int))) ((zga m (z9o r db v0 v3 v5 v2 (0:Int))).bind (ze (zz8 m))) (some (.exit 4,(z9n r db v0 v3 v2 v5))):=lpQ_ (by kernel_rfl)
def zqm(v0:Int)(v2:List Int)(v3:Int):Option (RF Un):=obO ((0:Int)≤(0:Int)∧(0:Int)<(↑v2.length:Int)) (obO ((0:Int)≤(1:Int)∧(1:Int)<(↑v2.length:Int)) (some (z7r (List.foldl (fun a b=>if b<a then b else a) (IntKind.i64.wrap (v2.getD 0 (0:Int)*List.foldl (fun a b=>if a<b then b else a) (v2.getD 1 (0:Int)) [(1:Int)])) [(1048576:Int)],List.foldl (fun a b=>if b<a then b else a) (IntKind.i64.wrap (v0+IntKind.i64.wrap (List.foldl (fun a b=>if b<a then b else a) (IntKind.i64.wrap (v2.getD 0 (0:Int)*List.foldl (fun a b=>if a<b then b else a) (v2.getD 1 (0:Int)) [(1:Int)])) [(1048576:Int)]*List.foldl (fun a b=>if b<a then b else a) v3 [(1048576:Int)]))) [(1048576:Int)]))))
theorem z1ax(m:Nat)(r:Rel)(db:List Data)(v0:Int)(v3:Int)(v2:List Int)(v5:Int):zz7 m (.exit 4) (z9n r db v0 v3 v2 v5)=cndO (r.op==1) (some (z7r (List.foldl (fun a b=>if b<a then b else a) (zbp r.table db) [(1048576:Int)],List.foldl (fun a b=>if b<a then b else a) (IntKind.i64.wrap (v0+IntKind.i64.wrap (List.foldl (fun a b=>if b<a then b else a) (zbp r.table db) [(1048576:Int)]*List.foldl (fun a b=>if b<a then b else a) v3 [(1048576:Int)]))) [(1048576:Int)]))) (cndO ((↑v2.length:Int)==(0:Int)) (some (z7r (List.foldl (fun a b=>if b<a then b else a) (↑r.rows.length:Int) [(1048576:Int)],List.foldl (fun a b=>if b<a then b else a) (IntKind.i64.wrap (v0+IntKind.i64.wrap (List.foldl (fun a b=>if b<a then b else a) (↑r.rows.length:Int) [(1048576:Int)]*List.foldl (fun a b=>if b<a then b else a) v3 [(1048576:Int)]))) [(1048576:Int)]))) (cndO ((↑v2.length:Int)==(1:Int)) (obO ((0:Int)≤(0:Int)∧(0:Int)<(↑v2.length:Int)) (some (z7r (List.foldl (fun a b=>if b<a then b else a) (List.foldl (fun a b=>if a<b then b else a) (v2.getD 0 (0:Int)) [(1:Int)]) [(1048576:Int)],List.foldl (fun a b=>if b<a then b else a) (IntKind.i64.wrap (v0+IntKind.i64.wrap (List.foldl (fun a b=>if b<a then b else a) (v2.getD 0 (0:Int)) [(1048576:Int)]*List.foldl (fun a b=>if b<a then b else a) v3 [(1048576:Int)]))) [(1048576:Int)])))) (cndO (r.op==5) (zqm v0 v2 v3) (cndO (r.op==6) (zqm v0 v2 v3) (obO ((0:Int)≤(0:Int)∧(0:Int)<(↑v2.length:Int)) (obO ((0:Int)≤(1:Int)∧(1:Int)<(↑v2.length:Int)) (some (z7r (List.foldl (fun a b=>if b<a then b else a) (IntKind.i64.wrap (v2.getD 0 (0:Int)+v2.getD 1 (0:Int))) [(1048576:Int)],List.foldl (fun a b=>if b<a then b else a) (IntKind.i64.wrap (v0+IntKind.i64.wrap (List.foldl (fun a b=>if b<a then b else a) (IntKind.i64.wrap (v2.getD 0 (0:Int)+v2.getD 1 (0:Int))) [(1048576:Int)]*List.foldl (fun a b=>if b<a then b else a) v3 [(1048576:Int)]))) [(1048576:Int)]))))))))):=by kernel_rfl
theorem zzb(m:Nat)(r:Rel)(db:List Data)(v0:Int)(v3:Int)(v5:Int)(v2:List Int)(v6:Int):zga m (z9o r db v0 v3 v5 v2 v6)=obO (0≤v5∧v5<(↑r.aggs.length:Int)) (cndO (decide (v6<(↑(Agg.t (r.aggs.getD v5.toNat zo)).length:Int))) (obO (0≤v5∧v5<(↑r.aggs.length:Int)) (obO (0≤v6∧v6<(↑(Agg.t (r.aggs.getD v5.toNat zo)).length:Int)) (obO ((2:Nat)*(Term.ids ((Agg.t (r.aggs.getD v5.toNat zo)).getD v6.toNat zb)).ht<m) (obO ((Term.ids ((Agg.t (r.aggs.getD v5.toNat zo)).getD v6.toNat zb)).sz≤(2000000:Nat)) (zga m (z9o r db v0 (IntKind.i64.wrap (v3+zg8 (Term.ids ((Agg.t (r.aggs.getD v5.toNat zo)).getD v6.toNat zb)) db)) v5 v2 (IntKind.i64.wrap (v6+1)))))))) (some (.exit 6,(z9o r db v0 v3 v5 v2 v6)))):=(zbh (z3z 17) zz5 _).trans (by kernel_rfl)
theorem z1ay(m:Nat)(r:Rel)(db:List Data)(v0:Int)(v3:Int)(v5:Int)(v2:List Int)(v6:Int):zz8 m (.exit 6) (z9o r db v0 v3 v5 v2 v6)=zcd m (z9n r db v0 v3 v2 (IntKind.i64.wrap (v5+1))):=by kernel_rfl
theorem z1k1(m:Nat)(r:Rel)(db:List Data)(hr:WS .rel r)(_hd:WL .data db)(hm:2*r.ht+1<m+1)(h:r.sz≤2000000):z13b m r db=some (z7r (z7j r db)):=by
 obtain⟨p1,p2⟩:=ztl r;have hkl:=z11d r.kids;have h3:=r.sz_eq
 obtain⟨lp,_⟩:=z1p (e:=.exit 0) (L:=zi9 m) (st:=fun(p:Int×List Int) i=>zao r db p.1 i p.2) (l:=r.kids) (d:=za) (g:=fun p k=>(addI p.1 (wghR db k).2,p.2++[(wghR db k).1])) (fun i p=>p.2.length=i) (hr.rel_kids).len
  (fun p i k hi hk hI=>by
   have hmem:k∈r.kids:=by grind
   have h1:=Rel.ht_kid hmem;have h2:=z9j hmem;have hc:zdr r db (i:Int)=wghR db k:=by unfold zdr z7j;rw[y5,hk];exact congrArg (wghR db) (by cases k;rfl)
   refine⟨by grind,?_⟩;rw[z13c];simp only[hc,z8,hi,decide_true,if_true,and_true,y5,hk,Rel.ids_eq];rw[z6 (by omega),z6 (by omega),z6 (by omega),z6 (by grind[zi,List.length_singleton])]
   rfl)
  (fun n _=>by rw[z13c];simp[z8]) (0,[]) rfl
 rw[z1t9]at lp
 have lq:=fun(n:Int)(x:List Int)=>zal (e:=.exit 2) (L:=zg9 m) (st:=fun(a:Int) i=>z9m r db n x a i) (l:=r.terms) (d:=zb) (fun n k=>addI n (wghT db k)) (hr.rel_terms).len
  (fun a i k hi hk hmem=>by
   obtain⟨h1,h2⟩:=p1 k hmem;rw[zz9];simp only[z8,hi,decide_true,if_true,and_true,y5,hk,Term.ids_eq];rw[z6 (by omega),z6 (by omega),z6 (by omega)]
   rfl)
  (fun n=>by rw[zz9];simp[z8]) 1
 have ls:=fun(n:Int)(x:List Int)=>zal (e:=.exit 4) (L:=zcd m) (st:=fun(a:Int) i=>z9n r db n a x i) (l:=r.aggs) (d:=zo) (fun n a=>zks db n a.t) (hr.rel_aggs).len
  (fun a i k hi hk hmem=>by
   have li:=zal (e:=.exit 6) (L:=zga m) (st:=fun(a:Int) j=>z9o r db n a i x j) (l:=k.t) (d:=zb) (fun n k=>addI n (wghT db k)) (by have:=z5t k.t;have:=zms hmem;have:=k.sz_eq;omega)
    (fun a j t hj ht htm=>by
     obtain⟨h1,h2⟩:=p2 k hmem t htm;rw[zzb];simp only[hk,z8,hi,hj,decide_true,if_true,and_true,y5,ht,Term.ids_eq];rw[z6 (by omega),z6 (by omega),z6 (by omega),z6 (by omega),z6 (by omega)]
     rfl)
    (fun n=>by rw[zzb];simp_all[z8,y5,decide_eq_true_eq,z6,if_neg]) a
   rw[zkt]at li;rw[zza];simp only[z8,hi,decide_true,if_true]
   grind[zg,trans,z1ay])
  (fun n=>by rw[zza];simp[z8]) (zks db 1 r.terms)
 rw[z1vf];refine(zg lp).trans ?_;rw[z1fy];refine(zg (lq _ _)).trans ?_;rw[zkt,z1aw];refine(zg (ls _ _)).trans ?_;rw[z1jz,z1ax,z7j,z26b,yz];generalize(r.kids.map fun k=>(wghR db k).1)=x;unfold z16e zqm;simp only[z8,beq_iff_eq];by_cases c1:r.op=1
 ·rw[if_pos c1,if_pos c1];rfl
 rw[if_neg c1,if_neg c1];by_cases c2:x.length=0
 ·rw[if_pos (by omega),if_pos c2];rfl
 rw[if_neg (by omega),if_neg c2];by_cases c3:x.length=1
 ·rw[if_pos (by omega),if_pos c3,z6 (by omega)];rfl
 rw[if_neg (by omega),if_neg c3];by_cases c5:r.op=5
 ·rw[if_pos c5,if_pos (.inl c5),z6 (by omega),z6 (by omega)];rfl
 by_cases c6:r.op=6
 ·rw[if_neg c5,if_pos c6,if_pos (.inr c6),z6 (by omega),z6 (by omega)];rfl
 rw[if_neg c5,if_neg c6,if_neg (by omega),z6 (by omega),z6 (by omega)];rfl
theorem z1pk(m:Nat)(hG:z16f m):FnOK 29 (zi6 (m+1)):=fnK2 zr z11 (M:=(z5c m)) rfl ⟨hG.2,hG.1,z23x,trivial⟩ trivial trivial trivial trivial Tryz.func29 fun r db=>GiF.r fun w o=>z1k1 m r db (wfA_ w 0) (wfA_ w 1) (obA_ o 0) (obA_ o 1)
theorem zqn:∀m,z16f m
 |0=>⟨fnZ2,fnZ2⟩
 |m+1=>⟨z1pj m (zqn m),z1pk m (zqn m)⟩
def z16g:FnC Un:=fnF2 (dS .rel) (dL .data) fun r db=>([r.sz≤2000000],z7r (z7j r db))
theorem z1vg:FnOK 29 z16g:=fnA2 fun m=>(zqn m).2
def hd1(r:Rel):Int:=if r.kids.length>1 then 2 else IntKind.i64.wrap (1+(r.rows.length:Int))
mutual
def sizT:Term→Int
 | .mk _ _ _ _ _ kids sub _=>z1k3 (zgb 0 kids) sub
def zgb:Int→List Term→Int
 |n,[]=>n
 |n,t::l=>zgb (addI n (sizT t)) l
def sizA:Int→Agg→Int
 |n,.mk _ _ t=>zgb n t
def z1k2:Int→List Agg→Int
 |n,[]=>n
 |n,a::l=>z1k2 (sizA n a) l
def sizR:Rel→Int
 | .mk _ _ _ kids terms aggs _ _ _ _ rows=>z1k2 (zgb (z11s (if kids.length>1 then 2 else IntKind.i64.wrap (1+(rows.length:Int))) kids) terms) aggs
def z11s:Int→List Rel→Int
 |n,[]=>n
 |n,r::l=>z11s (addI n (sizR r)) l
def z1k3:Int→List Rel→Int
 |n,[]=>n
 |n,r::l=>z1k3 (addI (addI n 4) (sizR r)) l
end
theorem zrx:∀(l:List Term)(n:Int),l.foldl (fun n t=>addI n (sizT t)) n=zgb n l
 |[],n=>by rfl
 |t::l,n=>by rw[yu,zrx l,zgb]
theorem z1k4:∀(l:List Rel)(n:Int),l.foldl (fun n t=>addI n (sizR t)) n=z11s n l
 |[],n=>by rfl
 |t::l,n=>by rw[yu,z1k4 l,z11s]
theorem z1k5:∀(l:List Rel)(n:Int),l.foldl (fun n t=>addI (addI n 4) (sizR t)) n=z1k3 n l
 |[],n=>by rfl
 |t::l,n=>by rw[yu,z1k5 l,z1k3]
theorem z2hn(n:Int)(a:Agg):sizA n a=zgb n a.t:=by cases a;rfl
theorem z1k6:∀(l:List Agg)(n:Int),l.foldl (fun n a=>zgb n a.t) n=z1k2 n l
 |[],n=>by rfl
 |t::l,n=>by rw[yu,z1k6 l,z1k2,z2hn]
theorem z2ho(t:Term):sizT t=z1k3 (zgb 0 t.kids) t.sub:=by cases t;rfl
theorem z2hp(r:Rel):sizR r=z1k2 (zgb (z11s (hd1 r) r.kids) r.terms) r.aggs:=by
 cases r;rfl
def zgc(t:Term):Int:=sizT t
def zf8(r:Rel):Int:=sizR r
def zia(m:Nat):FnC Un:=fnF1 (dS .term) fun t=>z2m (2*t.ht) m ([t.sz≤2000000],z2e (zgc t))
def znw(m:Nat):FnC Un:=fnF1 (dS .rel) fun r=>z2m (2*r.ht+1) m ([r.sz≤2000000],z2e (zf8 r))
def zce(m:Nat):Mc Un:=mcF_ [(21,zia m),(28,znw m)] [] [] [] []
def zf9:Nat→NS:=nsF_ [(3,{ts:=bl 38 26,bs:=bl 38 2,nm:=[],cs:=true}),(7,{ts:=bl 38 42,bs:=bl 38 2,nm:=[],cs:=true})] true
def zap(t:Term)(v0:Int)(v1:Int):S Un:=(st 38 38 152 0 [(1,ax 1),(3,ai v0),(4,ai v1)] [(1,bg .term t)] [])
def zaq(t:Term)(v0:Int)(v2:Int):S Un:=(st 38 38 152 0 [(1,ax 1),(3,ai v0),(5,ai v2)] [(1,bg .term t)] [])
def zib(m:Nat):S Un→Option (EX Un):=lpF_ (zce m) zf9 Tryz.f21 [1,1,0,1,2,2] 3
def zic(m:Nat):S Un→Option (EX Un):=lpF_ (zce m) zf9 Tryz.f21 [1,1,1,0,1,2,2] 7
def z13d(m:Nat):Exit→S Un→Option (RF Un):=cxF_ (zce m) zf9 Tryz.f21 [1,1,0,1,2] [.d]
def z13e(m:Nat):Exit→S Un→Option (RF Un):=cxF_ (zce m) zf9 Tryz.f21 [1,1,1,0,1,2] [.d]
def z13f(m:Nat)(t:Term):Option (RF Un):=fnF_ (zce m) zf9 Tryz.f21 0 [.d] [.d (.agg (enc Ty.term t))]
theorem z1vh(m:Nat)(t:Term):z13f m t=(zib m (zap t (0:Int) (0:Int))).bind (ze (z13d m)):=by kernel_rfl
theorem z13g(m:Nat)(t:Term)(v0:Int)(v1:Int):zib m (zap t v0 v1)=cndO (decide (v1<(↑t.kids.length:Int))) (obO (0≤v1∧v1<(↑t.kids.length:Int)) (obO ((2:Nat)*(Term.ids (t.kids.getD v1.toNat zb)).ht<m) (obO ((Term.ids (t.kids.getD v1.toNat zb)).sz≤(2000000:Nat)) (zib m (zap t (IntKind.i64.wrap (v0+zgc (Term.ids (t.kids.getD v1.toNat zb)))) (IntKind.i64.wrap (v1+1))))))) (some (.exit 0,(zap t v0 v1))):=lpQ_ (by kernel_rfl)
theorem z1fz(m:Nat)(t:Term)(v0:Int)(v1:Int):z13d m (.exit 0) (zap t v0 v1)=(zic m (zaq t v0 (0:Int))).bind (ze (z13e m)):=by kernel_rfl
theorem z13h(m:Nat)(t:Term)(v0:Int)(v2:Int):zic m (zaq t v0 v2)=cndO (decide (v2<(↑t.sub.length:Int))) (obO (0≤v2∧v2<(↑t.sub.length:Int)) (obO ((2:Nat)*(Rel.ids (t.sub.getD v2.toNat za)).ht+(1:Nat)<m) (obO ((Rel.ids (t.sub.getD v2.toNat za)).sz≤(2000000:Nat)) (zic m (zaq t (IntKind.i64.wrap (IntKind.i64.wrap (v0+4)+zf8 (Rel.ids (t.sub.getD v2.toNat za)))) (IntKind.i64.wrap (v2+1))))))) (some (.exit 2,(zaq t v0 v2))):=lpQ_ (by kernel_rfl)
theorem z1g0(m:Nat)(t:Term)(v0:Int)(v2:Int):z13e m (.exit 2) (zaq t v0 v2)=some (z2e (v0)):=by kernel_rfl
theorem z1k7(m:Nat)(t:Term)(ht:WS .term t)(hm:2*t.ht<m+1)(h:t.sz≤2000000):z13f m t=some (z2e (zgc t)):=by
 have lp:=zal (e:=.exit 0) (L:=zib m) (st:=fun(n:Int) i=>zap t n i) (l:=t.kids) (d:=zb) (fun n k=>addI n (sizT k)) (ht.term_kids).len
  (fun n i k hi hk hmem=>by
   have h1:=Term.ht_kid hmem;have h2:=zkj hmem;rw[z13g];simp only[z8,hi,decide_true,if_true,and_true,y5,hk,Term.ids_eq];rw[z6 (by omega),z6 (by omega),z6 (by omega)]
   rfl)
  (fun n=>by rw[z13g];simp[z8]) 0
 rw[zrx]at lp
 have lq:=zal (e:=.exit 2) (L:=zic m) (st:=fun(n:Int) i=>zaq t n i) (l:=t.sub) (d:=za) (fun n k=>addI (addI n 4) (sizR k)) (ht.term_sub).len
  (fun n i k hi hk hmem=>by
   have h1:=Term.ht_sub hmem;have h2:=zkk hmem;rw[z13h];simp only[z8,hi,decide_true,if_true,and_true,y5,hk,Rel.ids_eq];rw[z6 (by omega),z6 (by omega),z6 (by omega)]
   rfl)
  (fun n=>by rw[z13h];simp[z8]) (zgb 0 t.kids)
 rw[z1k5]at lq;rw[z1vh];grind[zg,trans,z1fz,z1g0,zgc,z2ho]
abbrev z1pl(m:Nat):Prop:=FnOK 21 (zia m)∧FnOK 28 (znw m)
theorem z1pm(m:Nat)(hG:z1pl m):FnOK 21 (zia (m+1)):=fnK1 zr (M:=(zce m)) rfl ⟨hG.1,hG.2,trivial⟩ trivial trivial trivial trivial Tryz.func21 fun t=>GiF.r fun w o=>z1k7 m t (wfA_ w 0) (obA_ o 0) (obA_ o 1)
def z7k(m:Nat):Mc Un:=mcF_ [(28,znw m),(21,zia m)] [] [] [] []
def z5i:Nat→NS:=nsF_ [(5,{ts:=bl 77 26,bs:=bl 77 2,nm:=[],cs:=true}),(9,{ts:=bl 77 42,bs:=bl 77 2,nm:=[],cs:=true}),(13,{ts:=bl 77 74,bs:=bl 77 2,nm:=[],cs:=true}),(16,{ts:=bl 77 202,bs:=bl 77 2,nm:=[],cs:=true})] true
def z91(r:Rel)(v0:Int)(v1:Int):S Un:=(st 77 77 308 0 [(1,ax 1),(3,ai v0),(4,ai v1)] [(1,bg .rel r)] [])
def ze6(r:Rel)(v0:Int)(v2:Int):S Un:=(st 77 77 308 0 [(1,ax 1),(3,ai v0),(5,ai v2)] [(1,bg .rel r)] [])
def zcf(r:Rel)(v0:Int)(v3:Int):S Un:=(st 77 77 308 0 [(1,ax 1),(3,ai v0),(6,ai v3)] [(1,bg .rel r)] [])
def zcg(r:Rel)(v0:Int)(v3:Int)(v4:Int):S Un:=(st 77 77 308 0 [(1,ax 1),(3,ai v0),(6,ai v3),(7,ai v4)] [(1,bg .rel r)] [])
def ze7(m:Nat):S Un→Option (EX Un):=lpF_ (z7k m) z5i Tryz.f28 [1,1,1,0,1,2,2] 5
def znx(m:Nat):S Un→Option (EX Un):=lpF_ (z7k m) z5i Tryz.f28 [1,1,1,1,0,1,2,2] 9
def zfa(m:Nat):S Un→Option (EX Un):=lpF_ (z7k m) z5i Tryz.f28 [1,1,1,1,1,0,1,2,2] 13
noncomputable def z16h:Code:=sub (sub (zk Tryz.f28) [1,1,1,1,1,0,1,2,2]) [1,0,2,1,2,2]
def zku(m:Nat):S Un→Option (EX Un):=z1k (z5i 16) (fun s Q=>awf (z7k m) z5i z16h s Q)
def zny(m:Nat):Exit→S Un→Option (RF Un):=cxF_ (z7k m) z5i Tryz.f28 [1,1,1,0,1,2] [.d]
def z1ct(m:Nat):Exit→S Un→Option (RF Un):=cxF_ (z7k m) z5i Tryz.f28 [1,1,1,1,0,1,2] [.d]
def z16i(m:Nat):Exit→S Un→Option (RF Un):=cxF_ (z7k m) z5i Tryz.f28 [1,1,1,1,1,0,1,2] [.d]
def z16j(m:Nat):Exit→S Un→Option (EX Un):=ctxF (z7k m) z5i (sub (zk Tryz.f28) [1,1,1,1,1,0,1,2,2]) [1,0,2,1,2] (zc3 (z5i 13) (zfa m))
def zxe(m:Nat)(r:Rel):Option (RF Un):=fnF_ (z7k m) z5i Tryz.f28 0 [.d] [.d (.agg (enc Ty.rel r))]
theorem z23y(m:Nat)(r:Rel):zxe m r=cndO (decide ((↑r.kids.length:Int)>(1:Int))) ((ze7 m (z91 r (2:Int) (0:Int))).bind (ze (zny m))) ((ze7 m (z91 r (IntKind.i64.wrap ((1:Int)+(↑r.rows.length:Int))) (0:Int))).bind (ze (zny m))):=by kernel_rfl
theorem z1cu(m:Nat)(r:Rel)(v0:Int)(v1:Int):ze7 m (z91 r v0 v1)=cndO (decide (v1<(↑r.kids.length:Int))) (obO (0≤v1∧v1<(↑r.kids.length:Int)) (obO ((2:Nat)*(Rel.ids (r.kids.getD v1.toNat za)).ht+(1:Nat)<m) (obO ((Rel.ids (r.kids.getD v1.toNat za)).sz≤(2000000:Nat)) (ze7 m (z91 r (IntKind.i64.wrap (v0+zf8 (Rel.ids (r.kids.getD v1.toNat za)))) (IntKind.i64.wrap (v1+1))))))) (some (.exit 0,(z91 r v0 v1))):=lpQ_ (by kernel_rfl)
theorem z1pn(m:Nat)(r:Rel)(v0:Int)(v1:Int):zny m (.exit 0) (z91 r v0 v1)=(znx m (ze6 r v0 (0:Int))).bind (ze (z1ct m)):=by kernel_rfl
theorem z1cv(m:Nat)(r:Rel)(v0:Int)(v2:Int):znx m (ze6 r v0 v2)=cndO (decide (v2<(↑r.terms.length:Int))) (obO (0≤v2∧v2<(↑r.terms.length:Int)) (obO ((2:Nat)*(Term.ids (r.terms.getD v2.toNat zb)).ht<m) (obO ((Term.ids (r.terms.getD v2.toNat zb)).sz≤(2000000:Nat)) (znx m (ze6 r (IntKind.i64.wrap (v0+zgc (Term.ids (r.terms.getD v2.toNat zb)))) (IntKind.i64.wrap (v2+1))))))) (some (.exit 2,(ze6 r v0 v2))):=lpQ_ (by kernel_rfl)
theorem z1po(m:Nat)(r:Rel)(v0:Int)(v2:Int):z1ct m (.exit 2) (ze6 r v0 v2)=(zfa m (zcf r v0 (0:Int))).bind (ze (z16i m)):=by kernel_rfl
theorem z16k(m:Nat)(r:Rel)(v0:Int)(v3:Int):zfa m (zcf r v0 v3)=cndO (decide (v3<(↑r.aggs.length:Int))) ((zku m (zcg r v0 v3 (0:Int))).bind (ze (z16j m))) (some (.exit 4,(zcf r v0 v3))):=lpQ_ (by kernel_rfl)
theorem z1k8(m:Nat)(r:Rel)(v0:Int)(v3:Int):z16i m (.exit 4) (zcf r v0 v3)=some (z2e (v0)):=by kernel_rfl
theorem z16l(m:Nat)(r:Rel)(v0:Int)(v3:Int)(v4:Int):zku m (zcg r v0 v3 v4)=obO (0≤v3∧v3<(↑r.aggs.length:Int)) (cndO (decide (v4<(↑(Agg.t (r.aggs.getD v3.toNat zo)).length:Int))) (obO (0≤v3∧v3<(↑r.aggs.length:Int)) (obO (0≤v4∧v4<(↑(Agg.t (r.aggs.getD v3.toNat zo)).length:Int)) (obO ((2:Nat)*(Term.ids ((Agg.t (r.aggs.getD v3.toNat zo)).getD v4.toNat zb)).ht<m) (obO ((Term.ids ((Agg.t (r.aggs.getD v3.toNat zo)).getD v4.toNat zb)).sz≤(2000000:Nat)) (zku m (zcg r (IntKind.i64.wrap (v0+zgc (Term.ids ((Agg.t (r.aggs.getD v3.toNat zo)).getD v4.toNat zb)))) v3 (IntKind.i64.wrap (v4+1)))))))) (some (.exit 6,(zcg r v0 v3 v4)))):=(zbh (z5i 16) z16h _).trans (by kernel_rfl)
theorem z1k9(m:Nat)(r:Rel)(v0:Int)(v3:Int)(v4:Int):z16j m (.exit 6) (zcg r v0 v3 v4)=zfa m (zcf r v0 (IntKind.i64.wrap (v3+1))):=by kernel_rfl
theorem z1vi(m:Nat)(r:Rel)(hr:WS .rel r)(hm:2*r.ht+1<m+1)(h:r.sz≤2000000):zxe m r=some (z2e (zf8 r)):=by
 obtain⟨p1,p2⟩:=ztl r;have h3:=r.sz_eq
 have lp:=zal (e:=.exit 0) (L:=ze7 m) (st:=fun(n:Int) i=>z91 r n i) (l:=r.kids) (d:=za) (fun n k=>addI n (sizR k)) (hr.rel_kids).len
  (fun p i k hi hk hmem=>by
   have h1:=Rel.ht_kid hmem;have h2:=z9j hmem;rw[z1cu];simp only[z8,hi,decide_true,if_true,and_true,y5,hk,Rel.ids_eq];rw[z6 (by omega),z6 (by omega),z6 (by omega)]
   rfl)
  (fun n=>by rw[z1cu];simp[z8]) (hd1 r)
 rw[z1k4]at lp
 have lq:=zal (e:=.exit 2) (L:=znx m) (st:=fun(a:Int) i=>ze6 r a i) (l:=r.terms) (d:=zb) (fun n k=>addI n (sizT k)) (hr.rel_terms).len
  (fun a i k hi hk hmem=>by
   obtain⟨h1,h2⟩:=p1 k hmem;rw[z1cv];simp only[z8,hi,decide_true,if_true,and_true,y5,hk,Term.ids_eq];rw[z6 (by omega),z6 (by omega),z6 (by omega)]
   rfl)
  (fun n=>by rw[z1cv];simp[z8]) (z11s (hd1 r) r.kids)
 rw[zrx]at lq
 have ls:=zal (e:=.exit 4) (L:=zfa m) (st:=fun(a:Int) i=>zcf r a i) (l:=r.aggs) (d:=zo) (fun n a=>zgb n a.t) (hr.rel_aggs).len
  (fun a i k hi hk hmem=>by
   have li:=zal (e:=.exit 6) (L:=zku m) (st:=fun(a:Int) j=>zcg r a i j) (l:=k.t) (d:=zb) (fun n k=>addI n (sizT k)) (by have:=z5t k.t;have:=zms hmem;have:=k.sz_eq;omega)
    (fun a j t hj ht htm=>by
     obtain⟨h1,h2⟩:=p2 k hmem t htm;rw[z16l];simp only[hk,z8,hi,hj,decide_true,if_true,and_true,y5,ht,Term.ids_eq];rw[z6 (by omega),z6 (by omega),z6 (by omega),z6 (by omega),z6 (by omega)]
     rfl)
    (fun n=>by rw[z16l];simp_all[z8,y5,decide_eq_true_eq,z6,if_neg]) a
   rw[zrx]at li;rw[z16k];simp only[z8,hi,decide_true,if_true]
   grind[zg,trans,z1k9])
  (fun n=>by rw[z16k];simp[z8]) (zgb (z11s (hd1 r) r.kids) r.terms)
 rw[z1k6]at ls;have e:zxe m r=(ze7 m (z91 r (hd1 r) (0:Int))).bind (ze (zny m)):=by
  rw[z23y,z8];unfold hd1;grind
 rw[e];refine(zg lp).trans ?_;rw[z1pn];grind[zg,trans,z1po,z1k8,zf8,z2hp]
theorem z1zb(m:Nat)(hG:z1pl m):FnOK 28 (znw (m+1)):=fnK1 zr (M:=(z7k m)) rfl ⟨hG.2,hG.1,trivial⟩ trivial trivial trivial trivial Tryz.func28 fun r=>GiF.r fun w o=>z1vi m r (wfA_ w 0) (obA_ o 0) (obA_ o 1)
theorem zxf:∀m,z1pl m
 |0=>⟨fnZ1,fnZ1⟩
 |m+1=>⟨z1pm m (zxf m),z1zb m (zxf m)⟩
def z1ka:FnC Un:=fnF1 (dS .rel) fun r=>([r.sz≤2000000],z2e (zf8 r))
theorem z23z:FnOK 28 z1ka:=fnA1 fun m=>(zxf m).2
end
end B
end Go.Proofs.YtjfpbchdcbhfgaaGreat
