/- Part 9 of the proof: Slight2 Slight3 Slight4. -/
import Derived.Test.YtjfpbchdcbhfgaaGreatNse8
set_option linter.unusedVariables false
set_option linter.unusedSimpArgs false
namespace Go.Proofs.YtjfpbchdcbhfgaaGreat
namespace B
open Go Go.RowKit
set_option maxRecDepth 100000
noncomputable section
attribute [local irreducible] awp ctxK zu z1a retQ z1m awf ctxF z1k
def z138:Nat→NS:=nsF_ [(3,{ts:=bl 29 99,bs:=bl 29 0,nm:=[],cs:=true})] true
def zbq(table:ByteArray)(db:List Data)(v0:Int)(v1:Int):S Un:=(st 29 29 116 0 [(0,at_ table),(1,al .data db),(5,ai v0),(6,ai v1)] [] [])
def zi1:S Un→Option (EX Un):=lpF_ z1dq z138 Tryz.f64 [1,1,0,1,2,2] 3
def z1ek:Exit→S Un→Option (RF Un):=cxF_ z1dq z138 Tryz.f64 [1,1,0,1,2] [.d]
def z1el(table:ByteArray)(db:List Data):Option (RF Un):=fnF_ z1dq z138 Tryz.f64 0 [.d] [.d (.v (cs table)),.d (.v (.dat (U:=Un) Ty.data db))]
theorem z26t(table:ByteArray)(db:List Data):z1el table db=(zi1 (zbq table db (0:Int) (0:Int))).bind (zd z1ek):=by kernel_rfl
theorem z1em(table:ByteArray)(db:List Data)(v0:Int)(v1:Int):zi1 (zbq table db v0 v1)=cndO (decide (v1<(↑db.length:Int))) (obO (0≤v1∧v1<(↑db.length:Int)) (cndO ((db.getD v1.toNat z37).table.toList ==table.toList) (obO (0≤v1∧v1<(↑db.length:Int)) (zi1 (zbq table db (IntKind.i64.wrap (v0+(↑(db.getD v1.toNat z37).rows.length:Int))) (IntKind.i64.wrap (v1+1))))) (zi1 (zbq table db v0 (IntKind.i64.wrap (v1+1)))))) (some (.exit 0,(zbq table db v0 v1))):=lpQ_ (by kernel_rfl)
theorem z1rw(table:ByteArray)(db:List Data)(v0:Int)(v1:Int):z1ek (.exit 0) (zbq table db v0 v1)=some (z2b (v0)):=by kernel_rfl
theorem zao{σ α:Type}{L:S Un→Option (EX Un)}{st:σ→Int→S Un}{l:List α}{d:α}(g:σ→α→σ){e:Exit}(hl:l.length≤9223372036854775807)
  (step:∀(a:σ)(i:Nat)(x:α),(i:Int)<(l.length:Int)→l.getD i d=x→x∈l→L (st a i)=L (st (g a x) (IntKind.i64.wrap ((i:Int)+1))))
  (stop:∀a,L (st a (l.length:Int))=some (e,st a (l.length:Int)))(a:σ):L (st a (0:Int))=some (e,st (l.foldl g a) (l.length:Int)):=
 (z1n (e:=e) (L:=L) (st:=st) (l:=l) (d:=d) (g:=g) (fun _ _=>True) hl (fun a i x hi hx _=>⟨trivial,step a i x hi hx (by grind)⟩) (fun a _=>stop a) a trivial).1
def addI(n x:Int):Int:=IntKind.i64.wrap (n+x)
def minI(a b:Int):Int:=List.foldl (fun a b=>if b<a then b else a) a [b]
def zlk(table:ByteArray)(n:Int)(d:Data):Int:=if(d.table.toList==table.toList)=true then addI n d.rows.length else n
def zbr(table:ByteArray)(db:List Data):Int:=db.foldl (zlk table) 0
theorem z1y2(table:ByteArray)(db:List Data)(_ht:WStr table)(hd:WL .data db):z1el table db=some (z2b (zbr table db)):=by
 have lp:=zao (e:=.exit 0) (L:=zi1) (st:=fun(n:Int) i=>zbq table db n i) (l:=db) (d:=z37) (zlk table) hd.len
  (fun n i k hi hk _=>by
   rw[z1em];simp only[z8,hi,decide_true,if_true,and_true,y5,hk];rw[z6 (by omega),z6 (by omega)];unfold zlk;by_cases c:(k.table.toList==table.toList)=true
   ·rw[if_pos c,if_pos c];rfl
   grind)
  (fun n=>by rw[z1em];simp[z8]) 0
 rw[z26t];refine(zg lp).trans ?_;rw[z1rw];rfl
def z1m1:FnC Un:=fnF2 dStr (dL .data) fun table db=>([],z2b (zbr table db))
theorem z26u:FnOK 64 z1m1:=fnK2 z3y zx (M:=z1dq) rfl trivial trivial trivial trivial trivial Tryz.func64 fun table db=>GiF.r fun w _=>z1y2 table db (wfA_ w 0) (wfA_ w 1)
def z17x(op held rl n:Int)(rows:List Int)(asks:Int):Int×Int:=
 let out (i o:Int):Int×Int:=(minI o 1048576,minI (addI n (IntKind.i64.wrap (minI i 1048576*minI asks 1048576))) 1048576)
 if op=1 then out held held
 else if rows.length=0 then out rl rl
 else if rows.length=1 then out (rows.getD 0 0) (maxI (rows.getD 0 0) 1)
 else if op=5∨op=6 then out (IntKind.i64.wrap (rows.getD 0 0*maxI (rows.getD 1 0) 1)) (IntKind.i64.wrap (rows.getD 0 0*maxI (rows.getD 1 0) 1))
 else out (IntKind.i64.wrap (rows.getD 0 0+rows.getD 1 0)) (IntKind.i64.wrap (rows.getD 0 0+rows.getD 1 0))
mutual
def wghT(db:List Data):Term→Int
 | .mk _ _ _ _ _ kids sub _=>z1m3 db (z1bw db 0 kids) sub
def z1bw(db:List Data):Int→List Term→Int
 |n,[]=>n
 |n,t::l=>z1bw db (capI n (wghT db t)) l
def zll(db:List Data):Int→List Term→Int
 |n,[]=>n
 |n,t::l=>zll db (addI n (wghT db t)) l
def askA(db:List Data):Int→Agg→Int
 |n,.mk _ _ t=>zll db n t
def zsz(db:List Data):Int→List Agg→Int
 |n,[]=>n
 |n,a::l=>zsz db (askA db n a) l
def wghR(db:List Data):Rel→Int×Int
 | .mk op table _ kids terms aggs _ _ _ _ rows=>z17x op (zbr table db) rows.length ((z1m2 db kids).foldl (fun n p=>addI n p.2) 0) ((z1m2 db kids).map (·.1)) (zsz db (zll db 1 terms) aggs)
def z1m2(db:List Data):List Rel→List (Int×Int)
 |[]=>[]
 |r::l=>wghR db r::z1m2 db l
def z1m3(db:List Data):Int→List Rel→Int
 |n,[]=>n
 |n,r::l=>z1m3 db (capI n (wghR db r).2) l
end
theorem zt0(db:List Data):∀(l:List Term)(n:Int),l.foldl (fun n t=>capI n (wghT db t)) n=z1bw db n l
 |[],n=>by rfl
 |t::l,n=>by rw[yt,zt0 db l,z1bw]
theorem zlm(db:List Data):∀(l:List Term)(n:Int),l.foldl (fun n t=>addI n (wghT db t)) n=zll db n l
 |[],n=>by rfl
 |t::l,n=>by rw[yt,zlm db l,zll]
theorem z297(db:List Data)(n:Int)(a:Agg):askA db n a=zll db n a.t:=by cases a;rfl
theorem z1m4(db:List Data):∀(l:List Agg)(n:Int),l.foldl (fun n a=>zll db n a.t) n=zsz db n l
 |[],n=>by rfl
 |t::l,n=>by rw[yt,z1m4 db l,zsz,z297]
theorem zt1(db:List Data):∀(l:List Rel)(n:Int),l.foldl (fun n t=>capI n (wghR db t).2) n=z1m3 db n l
 |[],n=>by rfl
 |t::l,n=>by rw[yt,zt1 db l,z1m3]
theorem z1vp(db:List Data):∀l:List Rel,z1m2 db l=l.map (wghR db)
 |[]=>by rfl
 |r::l=>by rw[z1m2,z1vp db l,yw]
theorem z1rx(db:List Data)(t:Term):wghT db t=z1m3 db (z1bw db 0 t.kids) t.sub:=by cases t;rfl
theorem z298(db:List Data)(r:Rel):wghR db r=z17x r.op (zbr r.table db) r.rows.length (r.kids.foldl (fun n k=>addI n (wghR db k).2) 0) (r.kids.map fun k=>(wghR db k).1) (zsz db (zll db 1 r.terms) r.aggs):=by
 cases r;simp only[wghR,z1vp,List.foldl_map,List.map_map,Rel.op_mk,Rel.table_mk,Rel.kids_mk,Rel.terms_mk,Rel.aggs_mk,Rel.rows_mk];rfl
def zgq(t:Term)(db:List Data):Int:=wghT db t
def z7l(r:Rel)(db:List Data):Int×Int:=wghR db r
theorem z1vq(db:List Data):∀(l:List Rel)(n:Int)(x:List Int),l.foldl (fun(p:Int×List Int) k=>(addI p.1 (wghR db k).2,p.2++[(wghR db k).1])) (n,x)=(l.foldl (fun n k=>addI n (wghR db k).2) n,x++l.map fun k=>(wghR db k).1)
 |[],n,x=>by simp
 |r::l,n,x=>by rw[yt,z1vq db l,yt,yw,y11];rfl
theorem zv0(r:Rel):(∀t∈r.terms,t.ht<r.ht∧t.sz<r.sz)∧∀a∈r.aggs,∀t∈a.t,t.ht<r.ht∧t.sz<r.sz:=by
 have h5:htTs r.terms<r.ht∧htAs r.aggs<r.ht:=by cases r;grind[Rel.ht,Rel.terms_mk,Rel.aggs_mk]
 have h3:=r.sz_eq;refine⟨fun t h=>⟨by have:=zbl h;omega,by have:=zjs h;omega⟩,fun a ha t h=>?_⟩;have h1:=z12t ha;have h2:=znn ha;have h6:=a.sz_eq;have h7:=zbl h;have h8:=zjs h;have h9:htTs a.t<a.ht:=by cases a;simp[Agg.t_mk,Agg.ht]
 omega
def zir(m:Nat):FnC Un:=fnF2 (dS .term) (dL .data) fun t db=>z2k (2*t.ht) m ([t.sz≤2000000],z2b (zgq t db))
def z7v(r:Int×Int):RF Un:=([.c (.s (.int .i64 r.1)),.c (.s (.int .i64 r.2))],[])
def zis(m:Nat):FnC Un:=fnF2 (dS .rel) (dL .data) fun r db=>z2k (2*r.ht+1) m ([r.sz≤2000000],z7v (z7l r db))
def zcd(m:Nat):Mc Un:=mcF_ [(34,zir m),(29,zis m)] [] [] [] []
def zfo:Nat→NS:=nsF_ [(3,{ts:=bl 49 102,bs:=bl 49 4,nm:=[],cs:=true}),(7,{ts:=bl 49 166,bs:=bl 49 4,nm:=[],cs:=true})] true
def zap(t:Term)(db:List Data)(v0:Int)(v1:Int):S Un:=(st 49 49 196 0 [(1,al .data db),(2,ax 2),(5,ai v0),(6,ai v1)] [(2,bg .term t)] [])
def zaq(t:Term)(db:List Data)(v0:Int)(v2:Int):S Un:=(st 49 49 196 0 [(1,al .data db),(2,ax 2),(5,ai v0),(7,ai v2)] [(2,bg .term t)] [])
def zit(m:Nat):S Un→Option (EX Un):=lpF_ (zcd m) zfo Tryz.f34 [1,1,0,1,2,2] 3
def ziu(m:Nat):S Un→Option (EX Un):=lpF_ (zcd m) zfo Tryz.f34 [1,1,1,0,1,2,2] 7
def z14p(m:Nat):Exit→S Un→Option (RF Un):=cxF_ (zcd m) zfo Tryz.f34 [1,1,0,1,2] [.d]
def z14q(m:Nat):Exit→S Un→Option (RF Un):=cxF_ (zcd m) zfo Tryz.f34 [1,1,1,0,1,2] [.d]
def z14r(m:Nat)(t:Term)(db:List Data):Option (RF Un):=fnF_ (zcd m) zfo Tryz.f34 0 [.d] [.d (.agg (enc Ty.term t)),.d (.v (.dat (U:=Un) Ty.data db))]
theorem z1y3(m:Nat)(t:Term)(db:List Data):z14r m t db=(zit m (zap t db (0:Int) (0:Int))).bind (zd (z14p m)):=by kernel_rfl
theorem z14s(m:Nat)(t:Term)(db:List Data)(v0:Int)(v1:Int):zit m (zap t db v0 v1)=cndO (decide (v1<(↑t.kids.length:Int))) (obO (0≤v1∧v1<(↑t.kids.length:Int)) (obO ((2:Nat)*(Term.ids (t.kids.getD v1.toNat zb)).ht<m) (obO ((Term.ids (t.kids.getD v1.toNat zb)).sz≤(2000000:Nat)) (zit m (zap t db (List.foldl (fun a b=>if b<a then b else a) (IntKind.i64.wrap (v0+zgq (Term.ids (t.kids.getD v1.toNat zb)) db)) [(1048576:Int)]) (IntKind.i64.wrap (v1+1))))))) (some (.exit 0,(zap t db v0 v1))):=lpQ_ (by kernel_rfl)
theorem z1hv(m:Nat)(t:Term)(db:List Data)(v0:Int)(v1:Int):z14p m (.exit 0) (zap t db v0 v1)=(ziu m (zaq t db v0 (0:Int))).bind (zd (z14q m)):=by kernel_rfl
theorem z14t(m:Nat)(t:Term)(db:List Data)(v0:Int)(v2:Int):ziu m (zaq t db v0 v2)=cndO (decide (v2<(↑t.sub.length:Int))) (obO (0≤v2∧v2<(↑t.sub.length:Int)) (obO ((2:Nat)*(Rel.ids (t.sub.getD v2.toNat za)).ht+(1:Nat)<m) (obO ((Rel.ids (t.sub.getD v2.toNat za)).sz≤(2000000:Nat)) (ziu m (zaq t db (List.foldl (fun a b=>if b<a then b else a) (IntKind.i64.wrap (v0+(z7l (Rel.ids (t.sub.getD v2.toNat za)) db).snd)) [(1048576:Int)]) (IntKind.i64.wrap (v2+1))))))) (some (.exit 2,(zaq t db v0 v2))):=lpQ_ (by kernel_rfl)
theorem z1hw(m:Nat)(t:Term)(db:List Data)(v0:Int)(v2:Int):z14q m (.exit 2) (zaq t db v0 v2)=some (z2b (v0)):=by kernel_rfl
theorem z1m5(m:Nat)(t:Term)(db:List Data)(ht:WS .term t)(_hd:WL .data db)(hm:2*t.ht<m+1)(h:t.sz≤2000000):z14r m t db=some (z2b (zgq t db)):=by
 have lp:=zao (e:=.exit 0) (L:=zit m) (st:=fun(n:Int) i=>zap t db n i) (l:=t.kids) (d:=zb) (fun n k=>capI n (wghT db k)) (ht.term_kids).len
  (fun n i k hi hk hmem=>by
   have h1:=Term.ht_kid hmem;have h2:=zlc hmem;rw[z14s];simp only[z8,hi,decide_true,if_true,and_true,y5,hk,Term.ids_eq];rw[z6 (by omega),z6 (by omega),z6 (by omega)]
   rfl)
  (fun n=>by rw[z14s];simp[z8]) 0
 rw[zt0]at lp
 have lq:=zao (e:=.exit 2) (L:=ziu m) (st:=fun(n:Int) i=>zaq t db n i) (l:=t.sub) (d:=za) (fun n k=>capI n (wghR db k).2) (ht.term_sub).len
  (fun n i k hi hk hmem=>by
   have h1:=Term.ht_sub hmem;have h2:=zld hmem;rw[z14t];simp only[z8,hi,decide_true,if_true,and_true,y5,hk,Rel.ids_eq];rw[z6 (by omega),z6 (by omega),z6 (by omega)]
   rfl)
  (fun n=>by rw[z14t];simp[z8]) (z1bw db 0 t.kids)
 rw[zt1]at lq;rw[z1y3];grind[zg,trans,z1hv,z1hw,zgq,z1rx]
abbrev z17y(m:Nat):Prop:=FnOK 34 (zir m)∧FnOK 29 (zis m)
theorem z1ry(m:Nat)(hG:z17y m):FnOK 34 (zir (m+1)):=fnK2 zr zx (M:=(zcd m)) rfl ⟨hG.1,hG.2,trivial⟩ trivial trivial trivial trivial Tryz.func34 fun t db=>GiF.r fun w o=>z1m5 m t db (wfA_ w 0) (wfA_ w 1) (obA_ o 0) (obA_ o 1)
def z5f(m:Nat):Mc Un:=mcF_ [(29,zis m),(34,zir m),(64,z1m1)] [] [] [] []
def z43:Nat→NS:=nsF_ [(3,{ts:=bl 156 454,bs:=bl 156 4,nm:=[(.sl 6,624)],cs:=true}),(10,{ts:=bl 156 6342,bs:=bl 156 4,nm:=[(.sl 6,625)],cs:=true}),(14,{ts:=bl 156 10438,bs:=bl 156 4,nm:=[(.sl 6,626)],cs:=true}),(17,{ts:=bl 156 26822,bs:=bl 156 4,nm:=[(.sl 6,627)],cs:=true})] true
def zdz(r:Rel)(db:List Data)(v1:Int):=z7l (Rel.mk (Rel.op (r.kids.getD v1.toNat za)) (Rel.table (r.kids.getD v1.toNat za)) (Rel.cols (r.kids.getD v1.toNat za)) (Rel.kids (r.kids.getD v1.toNat za)) (Rel.terms (r.kids.getD v1.toNat za)) (Rel.aggs (r.kids.getD v1.toNat za)) (Rel.keys (r.kids.getD v1.toNat za)) (Rel.limit (r.kids.getD v1.toNat za)) (Rel.skip (r.kids.getD v1.toNat za)) (Rel.all (r.kids.getD v1.toNat za)) (Rel.rows (r.kids.getD v1.toNat za))) db
def zar(r:Rel)(db:List Data)(v0:Int)(v1:Int)(v2:List Int):S Un:=(st 156 156 628 0 [(1,al .data db),(2,ax 2),(6,ao 624),(7,ai v0),(8,ai v1)] [(2,bg .rel r)] [(624,some ⟨(0:Nat),Ty.int,v2,some (0:Nat),true⟩)])
def z9p(r:Rel)(db:List Data)(v0:Int)(v2:List Int)(v3:Int)(v4:Int):S Un:=(st 156 156 628 0 [(1,al .data db),(2,ax 2),(6,ao 625),(7,ai v0),(11,ai v3),(12,ai v4)] [(2,bg .rel r)] [(625,some ⟨(0:Nat),Ty.int,v2,some (0:Nat),true⟩)])
def z9q(r:Rel)(db:List Data)(v0:Int)(v3:Int)(v2:List Int)(v5:Int):S Un:=(st 156 156 628 0 [(1,al .data db),(2,ax 2),(6,ao 626),(7,ai v0),(11,ai v3),(13,ai v5)] [(2,bg .rel r)] [(626,some ⟨(0:Nat),Ty.int,v2,some (0:Nat),true⟩)])
def z9r(r:Rel)(db:List Data)(v0:Int)(v3:Int)(v5:Int)(v2:List Int)(v6:Int):S Un:=(st 156 156 628 0 [(1,al .data db),(2,ax 2),(6,ao 627),(7,ai v0),(11,ai v3),(13,ai v5),(14,ai v6)] [(2,bg .rel r)] [(627,some ⟨(0:Nat),Ty.int,v2,some (0:Nat),true⟩)])
def ziv(m:Nat):S Un→Option (EX Un):=lpF_ (z5f m) z43 Tryz.f29 [1,1,0,1,2,2] 3
def zgr(m:Nat):S Un→Option (EX Un):=lpF_ (z5f m) z43 Tryz.f29 [1,1,1,1,0,1,2,2] 10
def zce(m:Nat):S Un→Option (EX Un):=lpF_ (z5f m) z43 Tryz.f29 [1,1,1,1,1,0,1,2,2] 14
noncomputable def z10o:Code:=sub (sub (ze Tryz.f29) [1,1,1,1,1,0,1,2,2]) [1,0,2,1,2,2]
def zgs(m:Nat):S Un→Option (EX Un):=z1k (z43 17) (fun s Q=>awf (z5f m) z43 z10o s Q)
def z14u(m:Nat):Exit→S Un→Option (RF Un):=cxF_ (z5f m) z43 Tryz.f29 [1,1,0,1,2] [.d,.d]
def z10p(m:Nat):Exit→S Un→Option (RF Un):=cxF_ (z5f m) z43 Tryz.f29 [1,1,1,1,0,1,2] [.d,.d]
def z10q(m:Nat):Exit→S Un→Option (RF Un):=cxF_ (z5f m) z43 Tryz.f29 [1,1,1,1,1,0,1,2] [.d,.d]
def z10r(m:Nat):Exit→S Un→Option (EX Un):=ctxF (z5f m) z43 (sub (ze Tryz.f29) [1,1,1,1,1,0,1,2,2]) [1,0,2,1,2] (zc4 (z43 14) (zce m))
def z14v(m:Nat)(r:Rel)(db:List Data):Option (RF Un):=fnF_ (z5f m) z43 Tryz.f29 4 [.d,.d] [.d (.agg (enc Ty.rel r)),.d (.v (.dat (U:=Un) Ty.data db))]
theorem z1y4(m:Nat)(r:Rel)(db:List Data):z14v m r db=(ziv m (zar r db (0:Int) (0:Int) ([]))).bind (zd (z14u m)):=by kernel_rfl
theorem z14w(m:Nat)(r:Rel)(db:List Data)(v0:Int)(v1:Int)(v2:List Int):ziv m (zar r db v0 v1 v2)=cndO (decide (v1<(↑r.kids.length:Int))) (obO (0≤v1∧v1<(↑r.kids.length:Int)) (obO ((2:Nat)*(Rel.ids (r.kids.getD v1.toNat za)).ht+(1:Nat)<m) (obO ((Rel.ids (r.kids.getD v1.toNat za)).sz≤(2000000:Nat)) (obO ((v2.length+[(zdz r db v1).fst].length)*(8:Nat)≤zh) (ziv m (zar r db (IntKind.i64.wrap (v0+(zdz r db v1).snd)) (IntKind.i64.wrap (v1+1)) (v2++[(zdz r db v1).fst]))))))) (some (.exit 0,(zar r db v0 v1 v2))):=lpQ_ (by kernel_rfl)
theorem z1hx(m:Nat)(r:Rel)(db:List Data)(v0:Int)(v1:Int)(v2:List Int):z14u m (.exit 0) (zar r db v0 v1 v2)=(zgr m (z9p r db v0 v2 (1:Int) (0:Int))).bind (zd (z10p m)):=by kernel_rfl
theorem z10s(m:Nat)(r:Rel)(db:List Data)(v0:Int)(v2:List Int)(v3:Int)(v4:Int):zgr m (z9p r db v0 v2 v3 v4)=cndO (decide (v4<(↑r.terms.length:Int))) (obO (0≤v4∧v4<(↑r.terms.length:Int)) (obO ((2:Nat)*(Term.ids (r.terms.getD v4.toNat zb)).ht<m) (obO ((Term.ids (r.terms.getD v4.toNat zb)).sz≤(2000000:Nat)) (zgr m (z9p r db v0 v2 (IntKind.i64.wrap (v3+zgq (Term.ids (r.terms.getD v4.toNat zb)) db)) (IntKind.i64.wrap (v4+1))))))) (some (.exit 2,(z9p r db v0 v2 v3 v4))):=lpQ_ (by kernel_rfl)
theorem z1cn(m:Nat)(r:Rel)(db:List Data)(v0:Int)(v2:List Int)(v3:Int)(v4:Int):z10p m (.exit 2) (z9p r db v0 v2 v3 v4)=(zce m (z9q r db v0 v3 v2 (0:Int))).bind (zd (z10q m)):=by kernel_rfl
theorem z10t(m:Nat)(r:Rel)(db:List Data)(v0:Int)(v3:Int)(v2:List Int)(v5:Int):zce m (z9q r db v0 v3 v2 v5)=cndO (decide (v5<(↑r.aggs.length:Int))) ((zgs m (z9r r db v0 v3 v5 v2 (0:Int))).bind (zd (z10r m))) (some (.exit 4,(z9q r db v0 v3 v2 v5))):=lpQ_ (by kernel_rfl)
def zrp(v0:Int)(v2:List Int)(v3:Int):Option (RF Un):=obO ((0:Int)≤(0:Int)∧(0:Int)<(↑v2.length:Int)) (obO ((0:Int)≤(1:Int)∧(1:Int)<(↑v2.length:Int)) (some (z7v (List.foldl (fun a b=>if b<a then b else a) (IntKind.i64.wrap (v2.getD 0 (0:Int)*List.foldl (fun a b=>if a<b then b else a) (v2.getD 1 (0:Int)) [(1:Int)])) [(1048576:Int)],List.foldl (fun a b=>if b<a then b else a) (IntKind.i64.wrap (v0+IntKind.i64.wrap (List.foldl (fun a b=>if b<a then b else a) (IntKind.i64.wrap (v2.getD 0 (0:Int)*List.foldl (fun a b=>if a<b then b else a) (v2.getD 1 (0:Int)) [(1:Int)])) [(1048576:Int)]*List.foldl (fun a b=>if b<a then b else a) v3 [(1048576:Int)]))) [(1048576:Int)]))))
theorem z1co(m:Nat)(r:Rel)(db:List Data)(v0:Int)(v3:Int)(v2:List Int)(v5:Int):z10q m (.exit 4) (z9q r db v0 v3 v2 v5)=cndO (r.op==1) (some (z7v (List.foldl (fun a b=>if b<a then b else a) (zbr r.table db) [(1048576:Int)],List.foldl (fun a b=>if b<a then b else a) (IntKind.i64.wrap (v0+IntKind.i64.wrap (List.foldl (fun a b=>if b<a then b else a) (zbr r.table db) [(1048576:Int)]*List.foldl (fun a b=>if b<a then b else a) v3 [(1048576:Int)]))) [(1048576:Int)]))) (cndO ((↑v2.length:Int)==(0:Int)) (some (z7v (List.foldl (fun a b=>if b<a then b else a) (↑r.rows.length:Int) [(1048576:Int)],List.foldl (fun a b=>if b<a then b else a) (IntKind.i64.wrap (v0+IntKind.i64.wrap (List.foldl (fun a b=>if b<a then b else a) (↑r.rows.length:Int) [(1048576:Int)]*List.foldl (fun a b=>if b<a then b else a) v3 [(1048576:Int)]))) [(1048576:Int)]))) (cndO ((↑v2.length:Int)==(1:Int)) (obO ((0:Int)≤(0:Int)∧(0:Int)<(↑v2.length:Int)) (some (z7v (List.foldl (fun a b=>if b<a then b else a) (List.foldl (fun a b=>if a<b then b else a) (v2.getD 0 (0:Int)) [(1:Int)]) [(1048576:Int)],List.foldl (fun a b=>if b<a then b else a) (IntKind.i64.wrap (v0+IntKind.i64.wrap (List.foldl (fun a b=>if b<a then b else a) (v2.getD 0 (0:Int)) [(1048576:Int)]*List.foldl (fun a b=>if b<a then b else a) v3 [(1048576:Int)]))) [(1048576:Int)])))) (cndO (r.op==5) (zrp v0 v2 v3) (cndO (r.op==6) (zrp v0 v2 v3) (obO ((0:Int)≤(0:Int)∧(0:Int)<(↑v2.length:Int)) (obO ((0:Int)≤(1:Int)∧(1:Int)<(↑v2.length:Int)) (some (z7v (List.foldl (fun a b=>if b<a then b else a) (IntKind.i64.wrap (v2.getD 0 (0:Int)+v2.getD 1 (0:Int))) [(1048576:Int)],List.foldl (fun a b=>if b<a then b else a) (IntKind.i64.wrap (v0+IntKind.i64.wrap (List.foldl (fun a b=>if b<a then b else a) (IntKind.i64.wrap (v2.getD 0 (0:Int)+v2.getD 1 (0:Int))) [(1048576:Int)]*List.foldl (fun a b=>if b<a then b else a) v3 [(1048576:Int)]))) [(1048576:Int)]))))))))):=by kernel_rfl
theorem z10u(m:Nat)(r:Rel)(db:List Data)(v0:Int)(v3:Int)(v5:Int)(v2:List Int)(v6:Int):zgs m (z9r r db v0 v3 v5 v2 v6)=obO (0≤v5∧v5<(↑r.aggs.length:Int)) (cndO (decide (v6<(↑(Agg.t (r.aggs.getD v5.toNat zq)).length:Int))) (obO (0≤v5∧v5<(↑r.aggs.length:Int)) (obO (0≤v6∧v6<(↑(Agg.t (r.aggs.getD v5.toNat zq)).length:Int)) (obO ((2:Nat)*(Term.ids ((Agg.t (r.aggs.getD v5.toNat zq)).getD v6.toNat zb)).ht<m) (obO ((Term.ids ((Agg.t (r.aggs.getD v5.toNat zq)).getD v6.toNat zb)).sz≤(2000000:Nat)) (zgs m (z9r r db v0 (IntKind.i64.wrap (v3+zgq (Term.ids ((Agg.t (r.aggs.getD v5.toNat zq)).getD v6.toNat zb)) db)) v5 v2 (IntKind.i64.wrap (v6+1)))))))) (some (.exit 6,(z9r r db v0 v3 v5 v2 v6)))):=(zbk (z43 17) z10o _).trans (by kernel_rfl)
theorem z1cp(m:Nat)(r:Rel)(db:List Data)(v0:Int)(v3:Int)(v5:Int)(v2:List Int)(v6:Int):z10r m (.exit 6) (z9r r db v0 v3 v5 v2 v6)=zce m (z9q r db v0 v3 v2 (IntKind.i64.wrap (v5+1))):=by kernel_rfl
theorem z1m6(m:Nat)(r:Rel)(db:List Data)(hr:WS .rel r)(_hd:WL .data db)(hm:2*r.ht+1<m+1)(h:r.sz≤2000000):z14v m r db=some (z7v (z7l r db)):=by
 obtain⟨p1,p2⟩:=zv0 r;have hkl:=z12u r.kids;have h3:=r.sz_eq
 obtain⟨lp,_⟩:=z1n (e:=.exit 0) (L:=ziv m) (st:=fun(p:Int×List Int) i=>zar r db p.1 i p.2) (l:=r.kids) (d:=za) (g:=fun p k=>(addI p.1 (wghR db k).2,p.2++[(wghR db k).1])) (fun i p=>p.2.length=i) (hr.rel_kids).len
  (fun p i k hi hk hI=>by
   have hmem:k∈r.kids:=by grind
   have h1:=Rel.ht_kid hmem;have h2:=z9m hmem;have hc:zdz r db (i:Int)=wghR db k:=by unfold zdz z7l;rw[y5,hk];exact congrArg (wghR db) (by cases k;rfl)
   refine⟨by grind,?_⟩;rw[z14w];simp only[hc,z8,hi,decide_true,if_true,and_true,y5,hk,Rel.ids_eq];rw[z6 (by omega),z6 (by omega),z6 (by omega),z6 (by grind[zh,List.length_singleton])]
   rfl)
  (fun n _=>by rw[z14w];simp[z8]) (0,[]) rfl
 rw[z1vq]at lp
 have lq:=fun(n:Int)(x:List Int)=>zao (e:=.exit 2) (L:=zgr m) (st:=fun(a:Int) i=>z9p r db n x a i) (l:=r.terms) (d:=zb) (fun n k=>addI n (wghT db k)) (hr.rel_terms).len
  (fun a i k hi hk hmem=>by
   obtain⟨h1,h2⟩:=p1 k hmem;rw[z10s];simp only[z8,hi,decide_true,if_true,and_true,y5,hk,Term.ids_eq];rw[z6 (by omega),z6 (by omega),z6 (by omega)]
   rfl)
  (fun n=>by rw[z10s];simp[z8]) 1
 have ls:=fun(n:Int)(x:List Int)=>zao (e:=.exit 4) (L:=zce m) (st:=fun(a:Int) i=>z9q r db n a x i) (l:=r.aggs) (d:=zq) (fun n a=>zll db n a.t) (hr.rel_aggs).len
  (fun a i k hi hk hmem=>by
   have li:=zao (e:=.exit 6) (L:=zgs m) (st:=fun(a:Int) j=>z9r r db n a i x j) (l:=k.t) (d:=zb) (fun n k=>addI n (wghT db k)) (by have:=z5v k.t;have:=znn hmem;have:=k.sz_eq;omega)
    (fun a j t hj ht htm=>by
     obtain⟨h1,h2⟩:=p2 k hmem t htm;rw[z10u];simp only[hk,z8,hi,hj,decide_true,if_true,and_true,y5,ht,Term.ids_eq];rw[z6 (by omega),z6 (by omega),z6 (by omega),z6 (by omega),z6 (by omega)]
     rfl)
    (fun n=>by rw[z10u];simp_all[z8,y5,decide_eq_true_eq,z6,if_neg]) a
   rw[zlm]at li;rw[z10t];simp only[z8,hi,decide_true,if_true]
   grind[zg,trans,z1cp])
  (fun n=>by rw[z10t];simp[z8]) (zll db 1 r.terms)
 rw[z1y4];refine(zg lp).trans ?_;rw[z1hx];refine(zg (lq _ _)).trans ?_;rw[zlm,z1cn];refine(zg (ls _ _)).trans ?_;rw[z1m4,z1co,z7l,z298,yx];generalize(r.kids.map fun k=>(wghR db k).1)=x;unfold z17x zrp;simp only[z8,beq_iff_eq];by_cases c1:r.op=1
 ·rw[if_pos c1,if_pos c1];rfl
 rw[if_neg c1,if_neg c1];by_cases c2:x.length=0
 ·rw[if_pos (by omega),if_pos c2];rfl
 rw[if_neg (by omega),if_neg c2];by_cases c3:x.length=1
 ·rw[if_pos (by omega),if_pos c3,z6 (by omega)];rfl
 rw[if_neg (by omega),if_neg c3];by_cases c5:r.op=5
 ·rw[if_pos c5,if_pos (.inl c5),z6 (by omega),z6 (by omega)];rfl
 by_cases c6:r.op=6
 ·rw[if_neg c5,if_pos c6,if_pos (.inr c6),z6 (by omega),z6 (by omega)];rfl
 rw[if_neg c5,if_neg c6,if_neg (by omega),z6 (by omega),z6 (by omega)];rfl
theorem z1rz(m:Nat)(hG:z17y m):FnOK 29 (zis (m+1)):=fnK2 zr zx (M:=(z5f m)) rfl ⟨hG.2,hG.1,z26u,trivial⟩ trivial trivial trivial trivial Tryz.func29 fun r db=>GiF.r fun w o=>z1m6 m r db (wfA_ w 0) (wfA_ w 1) (obA_ o 0) (obA_ o 1)
theorem zrq:∀m,z17y m
 |0=>⟨fnZ2,fnZ2⟩
 |m+1=>⟨z1ry m (zrq m),z1rz m (zrq m)⟩
def z17z:FnC Un:=fnF2 (dS .rel) (dL .data) fun r db=>([r.sz≤2000000],z7v (z7l r db))
theorem z1y5:FnOK 29 z17z:=fnA2 fun m=>(zrq m).2
def hd1(r:Rel):Int:=if r.kids.length>1 then 2 else IntKind.i64.wrap (1+(r.rows.length:Int))
mutual
def sizT:Term→Int
 | .mk _ _ _ _ _ kids sub _=>z1m8 (zgt 0 kids) sub
def zgt:Int→List Term→Int
 |n,[]=>n
 |n,t::l=>zgt (addI n (sizT t)) l
def sizA:Int→Agg→Int
 |n,.mk _ _ t=>zgt n t
def z1m7:Int→List Agg→Int
 |n,[]=>n
 |n,a::l=>z1m7 (sizA n a) l
def sizR:Rel→Int
 | .mk _ _ _ kids terms aggs _ _ _ _ rows=>z1m7 (zgt (z139 (if kids.length>1 then 2 else IntKind.i64.wrap (1+(rows.length:Int))) kids) terms) aggs
def z139:Int→List Rel→Int
 |n,[]=>n
 |n,r::l=>z139 (addI n (sizR r)) l
def z1m8:Int→List Rel→Int
 |n,[]=>n
 |n,r::l=>z1m8 (addI (addI n 4) (sizR r)) l
end
theorem zt2:∀(l:List Term)(n:Int),l.foldl (fun n t=>addI n (sizT t)) n=zgt n l
 |[],n=>by rfl
 |t::l,n=>by rw[yt,zt2 l,zgt]
theorem z1m9:∀(l:List Rel)(n:Int),l.foldl (fun n t=>addI n (sizR t)) n=z139 n l
 |[],n=>by rfl
 |t::l,n=>by rw[yt,z1m9 l,z139]
theorem z1ma:∀(l:List Rel)(n:Int),l.foldl (fun n t=>addI (addI n 4) (sizR t)) n=z1m8 n l
 |[],n=>by rfl
 |t::l,n=>by rw[yt,z1ma l,z1m8]
theorem z2ks(n:Int)(a:Agg):sizA n a=zgt n a.t:=by cases a;rfl
theorem z1mb:∀(l:List Agg)(n:Int),l.foldl (fun n a=>zgt n a.t) n=z1m7 n l
 |[],n=>by rfl
 |t::l,n=>by rw[yt,z1mb l,z1m7,z2ks]
theorem z2kt(t:Term):sizT t=z1m8 (zgt 0 t.kids) t.sub:=by cases t;rfl
theorem z2ku(r:Rel):sizR r=z1m7 (zgt (z139 (hd1 r) r.kids) r.terms) r.aggs:=by
 cases r;rfl
def zgu(t:Term):Int:=sizT t
def zfp(r:Rel):Int:=sizR r
def ziw(m:Nat):FnC Un:=fnF1 (dS .term) fun t=>z2k (2*t.ht) m ([t.sz≤2000000],z2b (zgu t))
def zov(m:Nat):FnC Un:=fnF1 (dS .rel) fun r=>z2k (2*r.ht+1) m ([r.sz≤2000000],z2b (zfp r))
def zcf(m:Nat):Mc Un:=mcF_ [(21,ziw m),(28,zov m)] [] [] [] []
def zfq:Nat→NS:=nsF_ [(3,{ts:=bl 38 26,bs:=bl 38 2,nm:=[],cs:=true}),(7,{ts:=bl 38 42,bs:=bl 38 2,nm:=[],cs:=true})] true
def zas(t:Term)(v0:Int)(v1:Int):S Un:=(st 38 38 152 0 [(1,ax 1),(3,ai v0),(4,ai v1)] [(1,bg .term t)] [])
def zat(t:Term)(v0:Int)(v2:Int):S Un:=(st 38 38 152 0 [(1,ax 1),(3,ai v0),(5,ai v2)] [(1,bg .term t)] [])
def zix(m:Nat):S Un→Option (EX Un):=lpF_ (zcf m) zfq Tryz.f21 [1,1,0,1,2,2] 3
def ziy(m:Nat):S Un→Option (EX Un):=lpF_ (zcf m) zfq Tryz.f21 [1,1,1,0,1,2,2] 7
def z14x(m:Nat):Exit→S Un→Option (RF Un):=cxF_ (zcf m) zfq Tryz.f21 [1,1,0,1,2] [.d]
def z14y(m:Nat):Exit→S Un→Option (RF Un):=cxF_ (zcf m) zfq Tryz.f21 [1,1,1,0,1,2] [.d]
def z14z(m:Nat)(t:Term):Option (RF Un):=fnF_ (zcf m) zfq Tryz.f21 0 [.d] [.d (.agg (enc Ty.term t))]
theorem z1y6(m:Nat)(t:Term):z14z m t=(zix m (zas t (0:Int) (0:Int))).bind (zd (z14x m)):=by kernel_rfl
theorem z150(m:Nat)(t:Term)(v0:Int)(v1:Int):zix m (zas t v0 v1)=cndO (decide (v1<(↑t.kids.length:Int))) (obO (0≤v1∧v1<(↑t.kids.length:Int)) (obO ((2:Nat)*(Term.ids (t.kids.getD v1.toNat zb)).ht<m) (obO ((Term.ids (t.kids.getD v1.toNat zb)).sz≤(2000000:Nat)) (zix m (zas t (IntKind.i64.wrap (v0+zgu (Term.ids (t.kids.getD v1.toNat zb)))) (IntKind.i64.wrap (v1+1))))))) (some (.exit 0,(zas t v0 v1))):=lpQ_ (by kernel_rfl)
theorem z1hy(m:Nat)(t:Term)(v0:Int)(v1:Int):z14x m (.exit 0) (zas t v0 v1)=(ziy m (zat t v0 (0:Int))).bind (zd (z14y m)):=by kernel_rfl
theorem z151(m:Nat)(t:Term)(v0:Int)(v2:Int):ziy m (zat t v0 v2)=cndO (decide (v2<(↑t.sub.length:Int))) (obO (0≤v2∧v2<(↑t.sub.length:Int)) (obO ((2:Nat)*(Rel.ids (t.sub.getD v2.toNat za)).ht+(1:Nat)<m) (obO ((Rel.ids (t.sub.getD v2.toNat za)).sz≤(2000000:Nat)) (ziy m (zat t (IntKind.i64.wrap (IntKind.i64.wrap (v0+4)+zfp (Rel.ids (t.sub.getD v2.toNat za)))) (IntKind.i64.wrap (v2+1))))))) (some (.exit 2,(zat t v0 v2))):=lpQ_ (by kernel_rfl)
theorem z1hz(m:Nat)(t:Term)(v0:Int)(v2:Int):z14y m (.exit 2) (zat t v0 v2)=some (z2b (v0)):=by kernel_rfl
theorem z1mc(m:Nat)(t:Term)(ht:WS .term t)(hm:2*t.ht<m+1)(h:t.sz≤2000000):z14z m t=some (z2b (zgu t)):=by
 have lp:=zao (e:=.exit 0) (L:=zix m) (st:=fun(n:Int) i=>zas t n i) (l:=t.kids) (d:=zb) (fun n k=>addI n (sizT k)) (ht.term_kids).len
  (fun n i k hi hk hmem=>by
   have h1:=Term.ht_kid hmem;have h2:=zlc hmem;rw[z150];simp only[z8,hi,decide_true,if_true,and_true,y5,hk,Term.ids_eq];rw[z6 (by omega),z6 (by omega),z6 (by omega)]
   rfl)
  (fun n=>by rw[z150];simp[z8]) 0
 rw[zt2]at lp
 have lq:=zao (e:=.exit 2) (L:=ziy m) (st:=fun(n:Int) i=>zat t n i) (l:=t.sub) (d:=za) (fun n k=>addI (addI n 4) (sizR k)) (ht.term_sub).len
  (fun n i k hi hk hmem=>by
   have h1:=Term.ht_sub hmem;have h2:=zld hmem;rw[z151];simp only[z8,hi,decide_true,if_true,and_true,y5,hk,Rel.ids_eq];rw[z6 (by omega),z6 (by omega),z6 (by omega)]
   rfl)
  (fun n=>by rw[z151];simp[z8]) (zgt 0 t.kids)
 rw[z1ma]at lq;rw[z1y6];grind[zg,trans,z1hy,z1hz,zgu,z2kt]
abbrev z1s0(m:Nat):Prop:=FnOK 21 (ziw m)∧FnOK 28 (zov m)
theorem z1s1(m:Nat)(hG:z1s0 m):FnOK 21 (ziw (m+1)):=fnK1 zr (M:=(zcf m)) rfl ⟨hG.1,hG.2,trivial⟩ trivial trivial trivial trivial Tryz.func21 fun t=>GiF.r fun w o=>z1mc m t (wfA_ w 0) (obA_ o 0) (obA_ o 1)
def z7m(m:Nat):Mc Un:=mcF_ [(28,zov m),(21,ziw m)] [] [] [] []
def z5l:Nat→NS:=nsF_ [(5,{ts:=bl 77 26,bs:=bl 77 2,nm:=[],cs:=true}),(9,{ts:=bl 77 42,bs:=bl 77 2,nm:=[],cs:=true}),(13,{ts:=bl 77 74,bs:=bl 77 2,nm:=[],cs:=true}),(16,{ts:=bl 77 202,bs:=bl 77 2,nm:=[],cs:=true})] true
def z93(r:Rel)(v0:Int)(v1:Int):S Un:=(st 77 77 308 0 [(1,ax 1),(3,ai v0),(4,ai v1)] [(1,bg .rel r)] [])
def zei(r:Rel)(v0:Int)(v2:Int):S Un:=(st 77 77 308 0 [(1,ax 1),(3,ai v0),(5,ai v2)] [(1,bg .rel r)] [])
def zcg(r:Rel)(v0:Int)(v3:Int):S Un:=(st 77 77 308 0 [(1,ax 1),(3,ai v0),(6,ai v3)] [(1,bg .rel r)] [])
def zch(r:Rel)(v0:Int)(v3:Int)(v4:Int):S Un:=(st 77 77 308 0 [(1,ax 1),(3,ai v0),(6,ai v3),(7,ai v4)] [(1,bg .rel r)] [])
def zej(m:Nat):S Un→Option (EX Un):=lpF_ (z7m m) z5l Tryz.f28 [1,1,1,0,1,2,2] 5
def zow(m:Nat):S Un→Option (EX Un):=lpF_ (z7m m) z5l Tryz.f28 [1,1,1,1,0,1,2,2] 9
def zfr(m:Nat):S Un→Option (EX Un):=lpF_ (z7m m) z5l Tryz.f28 [1,1,1,1,1,0,1,2,2] 13
noncomputable def z180:Code:=sub (sub (ze Tryz.f28) [1,1,1,1,1,0,1,2,2]) [1,0,2,1,2,2]
def zln(m:Nat):S Un→Option (EX Un):=z1k (z5l 16) (fun s Q=>awf (z7m m) z5l z180 s Q)
def zox(m:Nat):Exit→S Un→Option (RF Un):=cxF_ (z7m m) z5l Tryz.f28 [1,1,1,0,1,2] [.d]
def z1en(m:Nat):Exit→S Un→Option (RF Un):=cxF_ (z7m m) z5l Tryz.f28 [1,1,1,1,0,1,2] [.d]
def z181(m:Nat):Exit→S Un→Option (RF Un):=cxF_ (z7m m) z5l Tryz.f28 [1,1,1,1,1,0,1,2] [.d]
def z182(m:Nat):Exit→S Un→Option (EX Un):=ctxF (z7m m) z5l (sub (ze Tryz.f28) [1,1,1,1,1,0,1,2,2]) [1,0,2,1,2] (zc4 (z5l 13) (zfr m))
def zyw(m:Nat)(r:Rel):Option (RF Un):=fnF_ (z7m m) z5l Tryz.f28 0 [.d] [.d (.agg (enc Ty.rel r))]
theorem z26v(m:Nat)(r:Rel):zyw m r=cndO (decide ((↑r.kids.length:Int)>(1:Int))) ((zej m (z93 r (2:Int) (0:Int))).bind (zd (zox m))) ((zej m (z93 r (IntKind.i64.wrap ((1:Int)+(↑r.rows.length:Int))) (0:Int))).bind (zd (zox m))):=by kernel_rfl
theorem z1eo(m:Nat)(r:Rel)(v0:Int)(v1:Int):zej m (z93 r v0 v1)=cndO (decide (v1<(↑r.kids.length:Int))) (obO (0≤v1∧v1<(↑r.kids.length:Int)) (obO ((2:Nat)*(Rel.ids (r.kids.getD v1.toNat za)).ht+(1:Nat)<m) (obO ((Rel.ids (r.kids.getD v1.toNat za)).sz≤(2000000:Nat)) (zej m (z93 r (IntKind.i64.wrap (v0+zfp (Rel.ids (r.kids.getD v1.toNat za)))) (IntKind.i64.wrap (v1+1))))))) (some (.exit 0,(z93 r v0 v1))):=lpQ_ (by kernel_rfl)
theorem z1s2(m:Nat)(r:Rel)(v0:Int)(v1:Int):zox m (.exit 0) (z93 r v0 v1)=(zow m (zei r v0 (0:Int))).bind (zd (z1en m)):=by kernel_rfl
theorem z1ep(m:Nat)(r:Rel)(v0:Int)(v2:Int):zow m (zei r v0 v2)=cndO (decide (v2<(↑r.terms.length:Int))) (obO (0≤v2∧v2<(↑r.terms.length:Int)) (obO ((2:Nat)*(Term.ids (r.terms.getD v2.toNat zb)).ht<m) (obO ((Term.ids (r.terms.getD v2.toNat zb)).sz≤(2000000:Nat)) (zow m (zei r (IntKind.i64.wrap (v0+zgu (Term.ids (r.terms.getD v2.toNat zb)))) (IntKind.i64.wrap (v2+1))))))) (some (.exit 2,(zei r v0 v2))):=lpQ_ (by kernel_rfl)
theorem z1s3(m:Nat)(r:Rel)(v0:Int)(v2:Int):z1en m (.exit 2) (zei r v0 v2)=(zfr m (zcg r v0 (0:Int))).bind (zd (z181 m)):=by kernel_rfl
theorem z183(m:Nat)(r:Rel)(v0:Int)(v3:Int):zfr m (zcg r v0 v3)=cndO (decide (v3<(↑r.aggs.length:Int))) ((zln m (zch r v0 v3 (0:Int))).bind (zd (z182 m))) (some (.exit 4,(zcg r v0 v3))):=lpQ_ (by kernel_rfl)
theorem z1md(m:Nat)(r:Rel)(v0:Int)(v3:Int):z181 m (.exit 4) (zcg r v0 v3)=some (z2b (v0)):=by kernel_rfl
theorem z184(m:Nat)(r:Rel)(v0:Int)(v3:Int)(v4:Int):zln m (zch r v0 v3 v4)=obO (0≤v3∧v3<(↑r.aggs.length:Int)) (cndO (decide (v4<(↑(Agg.t (r.aggs.getD v3.toNat zq)).length:Int))) (obO (0≤v3∧v3<(↑r.aggs.length:Int)) (obO (0≤v4∧v4<(↑(Agg.t (r.aggs.getD v3.toNat zq)).length:Int)) (obO ((2:Nat)*(Term.ids ((Agg.t (r.aggs.getD v3.toNat zq)).getD v4.toNat zb)).ht<m) (obO ((Term.ids ((Agg.t (r.aggs.getD v3.toNat zq)).getD v4.toNat zb)).sz≤(2000000:Nat)) (zln m (zch r (IntKind.i64.wrap (v0+zgu (Term.ids ((Agg.t (r.aggs.getD v3.toNat zq)).getD v4.toNat zb)))) v3 (IntKind.i64.wrap (v4+1)))))))) (some (.exit 6,(zch r v0 v3 v4)))):=(zbk (z5l 16) z180 _).trans (by kernel_rfl)
theorem z1me(m:Nat)(r:Rel)(v0:Int)(v3:Int)(v4:Int):z182 m (.exit 6) (zch r v0 v3 v4)=zfr m (zcg r v0 (IntKind.i64.wrap (v3+1))):=by kernel_rfl
theorem z1y7(m:Nat)(r:Rel)(hr:WS .rel r)(hm:2*r.ht+1<m+1)(h:r.sz≤2000000):zyw m r=some (z2b (zfp r)):=by
 obtain⟨p1,p2⟩:=zv0 r;have h3:=r.sz_eq
 have lp:=zao (e:=.exit 0) (L:=zej m) (st:=fun(n:Int) i=>z93 r n i) (l:=r.kids) (d:=za) (fun n k=>addI n (sizR k)) (hr.rel_kids).len
  (fun p i k hi hk hmem=>by
   have h1:=Rel.ht_kid hmem;have h2:=z9m hmem;rw[z1eo];simp only[z8,hi,decide_true,if_true,and_true,y5,hk,Rel.ids_eq];rw[z6 (by omega),z6 (by omega),z6 (by omega)]
   rfl)
  (fun n=>by rw[z1eo];simp[z8]) (hd1 r)
 rw[z1m9]at lp
 have lq:=zao (e:=.exit 2) (L:=zow m) (st:=fun(a:Int) i=>zei r a i) (l:=r.terms) (d:=zb) (fun n k=>addI n (sizT k)) (hr.rel_terms).len
  (fun a i k hi hk hmem=>by
   obtain⟨h1,h2⟩:=p1 k hmem;rw[z1ep];simp only[z8,hi,decide_true,if_true,and_true,y5,hk,Term.ids_eq];rw[z6 (by omega),z6 (by omega),z6 (by omega)]
   rfl)
  (fun n=>by rw[z1ep];simp[z8]) (z139 (hd1 r) r.kids)
 rw[zt2]at lq
 have ls:=zao (e:=.exit 4) (L:=zfr m) (st:=fun(a:Int) i=>zcg r a i) (l:=r.aggs) (d:=zq) (fun n a=>zgt n a.t) (hr.rel_aggs).len
  (fun a i k hi hk hmem=>by
   have li:=zao (e:=.exit 6) (L:=zln m) (st:=fun(a:Int) j=>zch r a i j) (l:=k.t) (d:=zb) (fun n k=>addI n (sizT k)) (by have:=z5v k.t;have:=znn hmem;have:=k.sz_eq;omega)
    (fun a j t hj ht htm=>by
     obtain⟨h1,h2⟩:=p2 k hmem t htm;rw[z184];simp only[hk,z8,hi,hj,decide_true,if_true,and_true,y5,ht,Term.ids_eq];rw[z6 (by omega),z6 (by omega),z6 (by omega),z6 (by omega),z6 (by omega)]
     rfl)
    (fun n=>by rw[z184];simp_all[z8,y5,decide_eq_true_eq,z6,if_neg]) a
   rw[zt2]at li;rw[z183];simp only[z8,hi,decide_true,if_true]
   grind[zg,trans,z1me])
  (fun n=>by rw[z183];simp[z8]) (zgt (z139 (hd1 r) r.kids) r.terms)
 rw[z1mb]at ls;have e:zyw m r=(zej m (z93 r (hd1 r) (0:Int))).bind (zd (zox m)):=by
  rw[z26v,z8];unfold hd1;grind
 rw[e];refine(zg lp).trans ?_;rw[z1s2];grind[zg,trans,z1s3,z1md,zfp,z2ku]
theorem z229(m:Nat)(hG:z1s0 m):FnOK 28 (zov (m+1)):=fnK1 zr (M:=(z7m m)) rfl ⟨hG.2,hG.1,trivial⟩ trivial trivial trivial trivial Tryz.func28 fun r=>GiF.r fun w o=>z1y7 m r (wfA_ w 0) (obA_ o 0) (obA_ o 1)
theorem zyx:∀m,z1s0 m
 |0=>⟨fnZ1,fnZ1⟩
 |m+1=>⟨z1s1 m (zyx m),z229 m (zyx m)⟩
def z1mf:FnC Un:=fnF1 (dS .rel) fun r=>([r.sz≤2000000],z2b (zfp r))
theorem z26w:FnOK 28 z1mf:=fnA1 fun m=>(zyx m).2
end
end B
namespace B
open Go Go.RowKit
set_option maxRecDepth 100000
noncomputable section
attribute [local irreducible] awp ctxK zu z1a retQ z1m awf ctxF z1k
def z1i0:Nat→NS:=nsF_ [(4,{ts:=bl 41 51,bs:=bl 41 0,nm:=[],cs:=true})] true
def zb7(x:List Val)(cols:List Col)(v0:Int):S Un:=(st 41 41 164 0 [(0,al .val x),(1,al .col cols),(4,ab false),(5,ai v0)] [] [])
def zqo:S Un→Option (EX Un):=lpF_ zsp z1i0 Tryz.f79 [1,1,0,1,2,2] 4
def zwr:Exit→S Un→Option (RF Un):=cxF_ zsp z1i0 Tryz.f79 [1,1,0,1,2] [.d]
def z1vr(x:List Val)(cols:List Col):Option (RF Un):=fnF_ zsp z1i0 Tryz.f79 0 [.d] [.d (.v (.dat (U:=Un) Ty.val x)),.d (.v (.dat (U:=Un) Ty.col cols))]
theorem z2es(x:List Val)(cols:List Col):z1vr x cols=cndO ((↑x.length:Int) !=(↑cols.length:Int)) (some (z91 (false))) (cndO (!zdc x) (some (z91 (false))) ((zqo (zb7 x cols (0:Int))).bind (zd zwr))):=by kernel_rfl
theorem z1vs(x:List Val)(cols:List Col)(v0:Int):zqo (zb7 x cols v0)=cndO (decide (v0<(↑x.length:Int))) (obO (0≤v0∧v0<(↑x.length:Int)) (cndO ((x.getD v0.toNat z7).kind !=0) (obO (0≤v0∧v0<(↑x.length:Int)) (obO (0≤v0∧v0<(↑cols.length:Int)) (cndO ((x.getD v0.toNat z7).kind !=(cols.getD v0.toNat ze8).type) (some (.ret,(zb7 x cols v0))) (zqo (zb7 x cols (IntKind.i64.wrap (v0+1))))))) (zqo (zb7 x cols (IntKind.i64.wrap (v0+1)))))) (some (.exit 0,(zb7 x cols v0))):=lpQ_ (by kernel_rfl)
theorem z1y8(x:List Val)(cols:List Col)(v0:Int):zwr .ret (zb7 x cols v0)=some (z91 (false)):=by kernel_rfl
theorem z22a(x:List Val)(cols:List Col)(v0:Int):zwr (.exit 0) (zb7 x cols v0)=some (z91 (true)):=by kernel_rfl
def z2b3(x:List Val)(cols:List Col)(i:Nat):Bool:=(x.getD i z7).kind ==0||(x.getD i z7).kind ==(cols.getD i ze8).type
def z8p(x:List Val)(cols:List Col):Bool:=decide (x.length=cols.length)&&x.all z7s&&(List.range x.length).all (z2b3 x cols)
theorem z26x(x:List Val)(cols:List Col)(hx:WL .val x)(_hc:WL .col cols):z1vr x cols=some (z91 (z8p x cols)):=by
 have hlen:=hx.len;rw[z2es];unfold z8p;by_cases c:x.length=cols.length
 ·rw[z8,if_neg (by grind),decide_eq_true c,y1c];have e:zdc x=x.all z7s:=rfl;rw[e];cases x.all z7s
  ·rfl
  ·refine Eq.trans ?_ (z2t (L:=zqo) (st:=fun i=>zb7 x cols i) (C:=zwr) (e:=.exit 0) (fun b=>some (z91 b)) (l:=List.range x.length) (d:=0) (z2b3 x cols) (by grind)
    (fun i k hi hk _=>by
     rw[y2r]at hi;rw[z1vs];simp only[z8,hi,decide_true,if_true,and_true,y5];rw[z6 (by omega),z6 (by omega),z6 (by omega)];unfold z2b3
     grind)
    (by rw[y2r,z1vs];simp[z8]) (fun i=>z1y8 _ _ _) (fun i=>z22a _ _ _))
   rfl
 ·rw[z8,if_pos (by grind),decide_eq_false c];rfl
def z1i1:FnC Un:=fnF2 (dL .val) (dL .col) fun x cols=>([],z91 (z8p x cols))
theorem z1vt:FnOK 79 z1i1:=fnK2 zx zx (M:=zsp) rfl ⟨z14j,trivial⟩ trivial trivial trivial trivial Tryz.func79 fun x cols=>GiF.r fun w _=>z26x x cols (wfA_ w 0) (wfA_ w 1)
def zgv:Mc Un:=mcF_ [(79,z1i1)] [] [] [] []
def zb8:Nat→NS:=nsF_ [(2,{ts:=bl 43 54,bs:=bl 43 4,nm:=[],cs:=true}),(6,{ts:=bl 43 118,bs:=bl 43 4,nm:=[],cs:=true})] true
def z5g(r:Rel)(db:List Data)(v0:Int):S Un:=(st 43 43 172 0 [(1,al .data db),(2,ax 2),(4,ab false),(5,ai v0)] [(2,bg .rel r)] [])
def z94(r:Rel)(db:List Data)(v0:Int)(v1:Int):S Un:=(st 43 43 172 0 [(1,al .data db),(2,ax 2),(4,ab false),(5,ai v0),(6,ai v1)] [(2,bg .rel r)] [])
def zbs:S Un→Option (EX Un):=lpF_ zgv zb8 Tryz.f78 [1,0,1,2,2] 2
noncomputable def z1eq:Code:=sub (sub (ze Tryz.f78) [1,0,1,2,2]) [1,0,2,1,1,2,2]
def zoy:S Un→Option (EX Un):=z1k (zb8 6) (fun s Q=>awf zgv zb8 z1eq s Q)
def zoz:Exit→S Un→Option (RF Un):=cxF_ zgv zb8 Tryz.f78 [1,0,1,2] [.d]
def zp0:Exit→S Un→Option (EX Un):=ctxF zgv zb8 (sub (ze Tryz.f78) [1,0,1,2,2]) [1,0,2,1,1,2] (zc4 (zb8 2) zbs)
def z1er(r:Rel)(db:List Data):Option (RF Un):=fnF_ zgv zb8 Tryz.f78 0 [.d] [.d (.agg (enc Ty.rel r)),.d (.v (.dat (U:=Un) Ty.data db))]
theorem z26y(r:Rel)(db:List Data):z1er r db=(zbs (z5g r db (0:Int))).bind (zd zoz):=by kernel_rfl
theorem z1es(r:Rel)(db:List Data)(v0:Int):zbs (z5g r db v0)=cndO (decide (v0<(↑db.length:Int))) (obO (0≤v0∧v0<(↑db.length:Int)) (cndO (!(db.getD v0.toNat z37).table.toList ==r.table.toList) (zbs (z5g r db (IntKind.i64.wrap (v0+1)))) ((zoy (z94 r db v0 (0:Int))).bind (zd zp0)))) (some (.exit 0,(z5g r db v0))):=lpQ_ (by kernel_rfl)
theorem z1s4(r:Rel)(db:List Data)(v0:Int):zoz (.exit 0) (z5g r db v0)=some (z91 (true)):=by kernel_rfl
theorem z1et(r:Rel)(db:List Data)(v0:Int)(v1:Int):zoy (z94 r db v0 v1)=obO (0≤v0∧v0<(↑db.length:Int)) (cndO (decide (v1<(↑(db.getD v0.toNat z37).rows.length:Int))) (obO (0≤v0∧v0<(↑db.length:Int)) (obO (0≤v1∧v1<(↑(db.getD v0.toNat z37).rows.length:Int)) (cndO (!z8p ((db.getD v0.toNat z37).rows.getD v1.toNat []) r.cols) (some (.ret,(z94 r db v0 v1))) (zoy (z94 r db v0 (IntKind.i64.wrap (v1+1))))))) (some (.exit 2,(z94 r db v0 v1)))):=(zbk (zb8 6) z1eq _).trans (by kernel_rfl)
theorem z1mg(r:Rel)(db:List Data)(v0:Int)(v1:Int):zp0 .ret (z94 r db v0 v1)=some (.ret,(z5g r db v0)):=by kernel_rfl
theorem z1mh(r:Rel)(db:List Data)(v0:Int):zoz .ret (z5g r db v0)=some (z91 (false)):=by kernel_rfl
theorem z1s5(r:Rel)(db:List Data)(v0:Int)(v1:Int):zp0 (.exit 2) (z94 r db v0 v1)=zbs (z5g r db (IntKind.i64.wrap (v0+1))):=by kernel_rfl
def znq(r:Rel)(db:List Data):Bool:=db.all fun d=>!(d.table.toList==r.table.toList)||d.rows.all fun x=>z8p x r.cols
theorem z1y9(r:Rel)(db:List Data)(_hr:WS .rel r)(hd:WL .data db):z1er r db=some (z91 (znq r db)):=by
 rw[z26y]
 exact z2t (L:=zbs) (st:=fun i=>z5g r db i) (C:=zoz) (e:=.exit 0) (fun b=>some (z91 b)) (l:=db) (d:=z37) (fun d=>!(d.table.toList==r.table.toList)||d.rows.all fun x=>z8p x r.cols) hd.len
  (fun i d hi hk hmem=>by
   have li:=z2t (L:=zoy) (st:=fun j=>z94 r db i j) (C:=zp0) (e:=.exit 2) (fun b=>if b=true then zbs (z5g r db (IntKind.i64.wrap ((i:Int)+1)))else some (.ret,z5g r db i)) (l:=d.rows) (d:=[]) (fun x=>z8p x r.cols) (WS.data_rows (WL.get hd hmem)).len
    (fun j x hj hx _=>by
     rw[z1et];simp only[z8,hi,y5,hk,hj,hx,decide_true,if_true,and_true]
     grind[z6,z8p])
    (by rw[z1et];simp_all[z8,y5,decide_eq_true_eq,z6,if_neg]) (fun j=>z1mg _ _ _ _) (fun j=>z1s5 _ _ _ _)
   rw[z1es];simp only[z8,hi,y5,hk,decide_true,if_true,and_true]
   grind[z6])
  (by rw[z1es];simp[z8]) (fun i=>z1mh _ _ _) (fun i=>z1s4 _ _ _)
def z1mi:FnC Un:=fnF2 (dS .rel) (dL .data) fun r db=>([],z91 (znq r db))
theorem z26z:FnOK 78 z1mi:=fnK2 zr zx (M:=zgv) rfl ⟨z1vt,trivial⟩ trivial trivial trivial trivial Tryz.func78 fun r db=>GiF.r fun w _=>z1y9 r db (wfA_ w 0) (wfA_ w 1)
mutual
def fitT(db:List Data):Term→Bool
 | .mk _ _ _ _ _ kids sub _=>z13b db kids&&z1mj db sub
def z13b(db:List Data):List Term→Bool
 |[]=>true
 |t::l=>fitT db t&&z13b db l
def fitA(db:List Data):Agg→Bool
 | .mk _ _ t=>z13b db t
def z202(db:List Data):List Agg→Bool
 |[]=>true
 |a::l=>fitA db a&&z202 db l
def fitR(db:List Data):Rel→Bool
 | .mk op table cols kids terms aggs keys limit skip all rows=>if op=1 then znq (.mk op table cols kids terms aggs keys limit skip all rows) db else z1mj db kids&&(z13b db terms&&z202 db aggs)
def z1mj(db:List Data):List Rel→Bool
 |[]=>true
 |r::l=>fitR db r&&z1mj db l
end
theorem zws(db:List Data):∀l:List Term,z13b db l=l.all fun t=>fitT db t
 |[]=>by rfl
 |t::l=>by simp only[z13b,y1g,zws db l]
theorem z185(db:List Data):∀l:List Rel,z1mj db l=l.all fun t=>fitR db t
 |[]=>by rfl
 |t::l=>by simp only[z1mj,y1g,z185 db l]
theorem z2kv(db:List Data)(a:Agg):fitA db a=z13b db a.t:=by cases a;rfl
theorem z1vu(db:List Data):∀l:List Agg,z202 db l=l.all fun a=>a.t.all fun t=>fitT db t
 |[]=>by rfl
 |t::l=>by simp only[z202,y1g,z1vu db l,z2kv,zws]
theorem z1s6(db:List Data)(t:Term):fitT db t=(t.kids.all (fun t=>fitT db t)&&t.sub.all fun t=>fitR db t):=by cases t;simp only[fitT,zws,z185,Term.kids_mk,Term.sub_mk]
theorem z1bx(db:List Data)(r:Rel):fitR db r=if r.op=1 then znq r db else r.kids.all (fun t=>fitR db t)&&(r.terms.all (fun t=>fitT db t)&&r.aggs.all fun a=>a.t.all fun t=>fitT db t):=by
 cases r;simp only[fitR,zws,z185,z1vu,Rel.op_mk,Rel.kids_mk,Rel.terms_mk,Rel.aggs_mk];rfl
def zdd(t:Term)(db:List Data):Bool:=fitT db t
def zbt(r:Rel)(db:List Data):Bool:=fitR db r
def zp1(m:Nat):FnC Un:=fnF2 (dS .term) (dL .data) fun t db=>z2k (2*t.ht) m ([t.sz≤2000000],z91 (zdd t db))
def zp2(m:Nat):FnC Un:=fnF2 (dS .rel) (dL .data) fun r db=>z2k (2*r.ht+1) m ([r.sz≤2000000],z91 (zbt r db))
def zgw(m:Nat):Mc Un:=mcF_ [(20,zp1 m),(41,zp2 m)] [] [] [] []
def zlp:Nat→NS:=nsF_ [(2,{ts:=bl 37 54,bs:=bl 37 4,nm:=[],cs:=true}),(7,{ts:=bl 37 86,bs:=bl 37 4,nm:=[],cs:=true})] true
def z95(t:Term)(db:List Data)(v0:Int):S Un:=(st 37 37 148 0 [(1,al .data db),(2,ax 2),(4,ab false),(5,ai v0)] [(2,bg .term t)] [])
def z96(t:Term)(db:List Data)(v1:Int):S Un:=(st 37 37 148 0 [(1,al .data db),(2,ax 2),(4,ab false),(6,ai v1)] [(2,bg .term t)] [])
def zp3(m:Nat):S Un→Option (EX Un):=lpF_ (zgw m) zlp Tryz.f20 [1,0,1,2,2] 2
def zp4(m:Nat):S Un→Option (EX Un):=lpF_ (zgw m) zlp Tryz.f20 [1,1,0,1,2,2] 7
def zp5(m:Nat):Exit→S Un→Option (RF Un):=cxF_ (zgw m) zlp Tryz.f20 [1,0,1,2] [.d]
def zp6(m:Nat):Exit→S Un→Option (RF Un):=cxF_ (zgw m) zlp Tryz.f20 [1,1,0,1,2] [.d]
def z1eu(m:Nat)(t:Term)(db:List Data):Option (RF Un):=fnF_ (zgw m) zlp Tryz.f20 0 [.d] [.d (.agg (enc Ty.term t)),.d (.v (.dat (U:=Un) Ty.data db))]
theorem z270(m:Nat)(t:Term)(db:List Data):z1eu m t db=(zp3 m (z95 t db (0:Int))).bind (zd (zp5 m)):=by kernel_rfl
theorem z1ev(m:Nat)(t:Term)(db:List Data)(v0:Int):zp3 m (z95 t db v0)=cndO (decide (v0<(↑t.kids.length:Int))) (obO (0≤v0∧v0<(↑t.kids.length:Int)) (obO ((2:Nat)*(Term.ids (t.kids.getD v0.toNat zb)).ht<m) (obO ((Term.ids (t.kids.getD v0.toNat zb)).sz≤(2000000:Nat)) (cndO (!zdd (Term.ids (t.kids.getD v0.toNat zb)) db) (some (.ret,(z95 t db v0))) (zp3 m (z95 t db (IntKind.i64.wrap (v0+1)))))))) (some (.exit 0,(z95 t db v0))):=lpQ_ (by kernel_rfl)
theorem z1mk(m:Nat)(t:Term)(db:List Data)(v0:Int):zp5 m .ret (z95 t db v0)=some (z91 (false)):=by kernel_rfl
theorem z1s7(m:Nat)(t:Term)(db:List Data)(v0:Int):zp5 m (.exit 0) (z95 t db v0)=(zp4 m (z96 t db (0:Int))).bind (zd (zp6 m)):=by kernel_rfl
theorem z1ew(m:Nat)(t:Term)(db:List Data)(v1:Int):zp4 m (z96 t db v1)=cndO (decide (v1<(↑t.sub.length:Int))) (obO (0≤v1∧v1<(↑t.sub.length:Int)) (obO ((2:Nat)*(Rel.ids (t.sub.getD v1.toNat za)).ht+(1:Nat)<m) (obO ((Rel.ids (t.sub.getD v1.toNat za)).sz≤(2000000:Nat)) (cndO (!zbt (Rel.ids (t.sub.getD v1.toNat za)) db) (some (.ret,(z96 t db v1))) (zp4 m (z96 t db (IntKind.i64.wrap (v1+1)))))))) (some (.exit 2,(z96 t db v1))):=lpQ_ (by kernel_rfl)
theorem z1ml(m:Nat)(t:Term)(db:List Data)(v1:Int):zp6 m .ret (z96 t db v1)=some (z91 (false)):=by kernel_rfl
theorem z1s8(m:Nat)(t:Term)(db:List Data)(v1:Int):zp6 m (.exit 2) (z96 t db v1)=some (z91 (true)):=by kernel_rfl
theorem z1ya(m:Nat)(t:Term)(db:List Data)(ht:WS .term t)(_hd:WL .data db)(hm:2*t.ht<m+1)(h:t.sz≤2000000):z1eu m t db=some (z91 (zdd t db)):=by
 have lq:=z2t (L:=zp4 m) (st:=fun i=>z96 t db i) (C:=zp6 m) (e:=.exit 2) (fun b=>some (z91 b)) (l:=t.sub) (d:=za) (fun t=>fitR db t) (ht.term_sub).len
  (fun i k hi hk hmem=>by
   have h1:=Term.ht_sub hmem;have h2:=zld hmem;rw[z1ew];simp only[z8,hi,decide_true,if_true,and_true,y5,hk,Rel.ids_eq]
   grind[z6,zbt,fitR])
  (by rw[z1ew];simp[z8]) (fun i=>z1ml _ _ _ _) (fun i=>z1s8 _ _ _ _)
 rw[z270]
 refine(z2t (L:=zp3 m) (st:=fun i=>z95 t db i) (C:=zp5 m) (e:=.exit 0) (fun b=>some (z91 (b&&t.sub.all fun t=>fitR db t))) (l:=t.kids) (d:=zb) (fun t=>fitT db t) (ht.term_kids).len
  (fun i k hi hk hmem=>by
   have h1:=Term.ht_kid hmem;have h2:=zlc hmem;rw[z1ev];simp only[z8,hi,decide_true,if_true,and_true,y5,hk,Term.ids_eq]
   grind[z6,zdd,fitT])
  (by rw[z1ev];simp[z8]) (fun i=>by simp[y1q,z1mk]) (fun i=>by simp_all[y1c,z1s7,trans])).trans ?_
 rw[zdd,z1s6]
abbrev z1s9(m:Nat):Prop:=FnOK 20 (zp1 m)∧FnOK 41 (zp2 m)
theorem z22b(m:Nat)(hG:z1s9 m):FnOK 20 (zp1 (m+1)):=fnK2 zr zx (M:=(zgw m)) rfl ⟨hG.1,hG.2,trivial⟩ trivial trivial trivial trivial Tryz.func20 fun t db=>GiF.r fun w o=>z1ya m t db (wfA_ w 0) (wfA_ w 1) (obA_ o 0) (obA_ o 1)
def z7n(m:Nat):Mc Un:=mcF_ [(78,z1mi),(41,zp2 m),(20,zp1 m)] [] [] [] []
def z5m:Nat→NS:=nsF_ [(4,{ts:=bl 75 54,bs:=bl 75 4,nm:=[],cs:=true}),(9,{ts:=bl 75 86,bs:=bl 75 4,nm:=[],cs:=true}),(14,{ts:=bl 75 150,bs:=bl 75 4,nm:=[],cs:=true}),(17,{ts:=bl 75 406,bs:=bl 75 4,nm:=[],cs:=true})] true
def z97(r:Rel)(db:List Data)(v0:Int):S Un:=(st 75 75 300 0 [(1,al .data db),(2,ax 2),(4,ab false),(5,ai v0)] [(2,bg .rel r)] [])
def z98(r:Rel)(db:List Data)(v1:Int):S Un:=(st 75 75 300 0 [(1,al .data db),(2,ax 2),(4,ab false),(6,ai v1)] [(2,bg .rel r)] [])
def z5h(r:Rel)(db:List Data)(v2:Int):S Un:=(st 75 75 300 0 [(1,al .data db),(2,ax 2),(4,ab false),(7,ai v2)] [(2,bg .rel r)] [])
def z7w(r:Rel)(db:List Data)(v2:Int)(v3:Int):S Un:=(st 75 75 300 0 [(1,al .data db),(2,ax 2),(4,ab false),(7,ai v2),(8,ai v3)] [(2,bg .rel r)] [])
def zp7(m:Nat):S Un→Option (EX Un):=lpF_ (z7n m) z5m Tryz.f41 [1,1,0,1,2,2] 4
def zp8(m:Nat):S Un→Option (EX Un):=lpF_ (z7n m) z5m Tryz.f41 [1,1,1,0,1,2,2] 9
def zci(m:Nat):S Un→Option (EX Un):=lpF_ (z7n m) z5m Tryz.f41 [1,1,1,1,0,1,2,2] 14
noncomputable def z186:Code:=sub (sub (ze Tryz.f41) [1,1,1,1,0,1,2,2]) [1,0,2,1,2,2]
def zlq(m:Nat):S Un→Option (EX Un):=z1k (z5m 17) (fun s Q=>awf (z7n m) z5m z186 s Q)
def zp9(m:Nat):Exit→S Un→Option (RF Un):=cxF_ (z7n m) z5m Tryz.f41 [1,1,0,1,2] [.d]
def zpa(m:Nat):Exit→S Un→Option (RF Un):=cxF_ (z7n m) z5m Tryz.f41 [1,1,1,0,1,2] [.d]
def zlr(m:Nat):Exit→S Un→Option (RF Un):=cxF_ (z7n m) z5m Tryz.f41 [1,1,1,1,0,1,2] [.d]
def zls(m:Nat):Exit→S Un→Option (EX Un):=ctxF (z7n m) z5m (sub (ze Tryz.f41) [1,1,1,1,0,1,2,2]) [1,0,2,1,2] (zc4 (z5m 14) (zci m))
def z1ex(m:Nat)(r:Rel)(db:List Data):Option (RF Un):=fnF_ (z7n m) z5m Tryz.f41 0 [.d] [.d (.agg (enc Ty.rel r)),.d (.v (.dat (U:=Un) Ty.data db))]
theorem z271(m:Nat)(r:Rel)(db:List Data):z1ex m r db=cndO (r.op==1) (some (z91 (znq (Rel.ids r) db))) ((zp7 m (z97 r db (0:Int))).bind (zd (zp9 m))):=by kernel_rfl
theorem z1ey(m:Nat)(r:Rel)(db:List Data)(v0:Int):zp7 m (z97 r db v0)=cndO (decide (v0<(↑r.kids.length:Int))) (obO (0≤v0∧v0<(↑r.kids.length:Int)) (obO ((2:Nat)*(Rel.ids (r.kids.getD v0.toNat za)).ht+(1:Nat)<m) (obO ((Rel.ids (r.kids.getD v0.toNat za)).sz≤(2000000:Nat)) (cndO (!zbt (Rel.ids (r.kids.getD v0.toNat za)) db) (some (.ret,(z97 r db v0))) (zp7 m (z97 r db (IntKind.i64.wrap (v0+1)))))))) (some (.exit 0,(z97 r db v0))):=lpQ_ (by kernel_rfl)
theorem z1mm(m:Nat)(r:Rel)(db:List Data)(v0:Int):zp9 m .ret (z97 r db v0)=some (z91 (false)):=by kernel_rfl
theorem z1sa(m:Nat)(r:Rel)(db:List Data)(v0:Int):zp9 m (.exit 0) (z97 r db v0)=(zp8 m (z98 r db (0:Int))).bind (zd (zpa m)):=by kernel_rfl
theorem z1ez(m:Nat)(r:Rel)(db:List Data)(v1:Int):zp8 m (z98 r db v1)=cndO (decide (v1<(↑r.terms.length:Int))) (obO (0≤v1∧v1<(↑r.terms.length:Int)) (obO ((2:Nat)*(Term.ids (r.terms.getD v1.toNat zb)).ht<m) (obO ((Term.ids (r.terms.getD v1.toNat zb)).sz≤(2000000:Nat)) (cndO (!zdd (Term.ids (r.terms.getD v1.toNat zb)) db) (some (.ret,(z98 r db v1))) (zp8 m (z98 r db (IntKind.i64.wrap (v1+1)))))))) (some (.exit 2,(z98 r db v1))):=lpQ_ (by kernel_rfl)
theorem z1mn(m:Nat)(r:Rel)(db:List Data)(v1:Int):zpa m .ret (z98 r db v1)=some (z91 (false)):=by kernel_rfl
theorem z1sb(m:Nat)(r:Rel)(db:List Data)(v1:Int):zpa m (.exit 2) (z98 r db v1)=(zci m (z5h r db (0:Int))).bind (zd (zlr m)):=by kernel_rfl
theorem z187(m:Nat)(r:Rel)(db:List Data)(v2:Int):zci m (z5h r db v2)=cndO (decide (v2<(↑r.aggs.length:Int))) ((zlq m (z7w r db v2 (0:Int))).bind (zd (zls m))) (some (.exit 4,(z5h r db v2))):=lpQ_ (by kernel_rfl)
theorem z1mo(m:Nat)(r:Rel)(db:List Data)(v2:Int):zlr m (.exit 4) (z5h r db v2)=some (z91 (true)):=by kernel_rfl
theorem z188(m:Nat)(r:Rel)(db:List Data)(v2:Int)(v3:Int):zlq m (z7w r db v2 v3)=obO (0≤v2∧v2<(↑r.aggs.length:Int)) (cndO (decide (v3<(↑(Agg.t (r.aggs.getD v2.toNat zq)).length:Int))) (obO (0≤v2∧v2<(↑r.aggs.length:Int)) (obO (0≤v3∧v3<(↑(Agg.t (r.aggs.getD v2.toNat zq)).length:Int)) (obO ((2:Nat)*(Term.ids ((Agg.t (r.aggs.getD v2.toNat zq)).getD v3.toNat zb)).ht<m) (obO ((Term.ids ((Agg.t (r.aggs.getD v2.toNat zq)).getD v3.toNat zb)).sz≤(2000000:Nat)) (cndO (!zdd (Term.ids ((Agg.t (r.aggs.getD v2.toNat zq)).getD v3.toNat zb)) db) (some (.ret,(z7w r db v2 v3))) (zlq m (z7w r db v2 (IntKind.i64.wrap (v3+1))))))))) (some (.exit 6,(z7w r db v2 v3)))):=(zbk (z5m 17) z186 _).trans (by kernel_rfl)
theorem z1i2(m:Nat)(r:Rel)(db:List Data)(v2:Int)(v3:Int):zls m .ret (z7w r db v2 v3)=some (.ret,(z5h r db v2)):=by kernel_rfl
theorem z1i3(m:Nat)(r:Rel)(db:List Data)(v2:Int):zlr m .ret (z5h r db v2)=some (z91 (false)):=by kernel_rfl
theorem z1mp(m:Nat)(r:Rel)(db:List Data)(v2:Int)(v3:Int):zls m (.exit 6) (z7w r db v2 v3)=zci m (z5h r db (IntKind.i64.wrap (v2+1))):=by kernel_rfl
theorem z1yb(m:Nat)(r:Rel)(db:List Data)(hr:WS .rel r)(_hd:WL .data db)(hm:2*r.ht+1<m+1)(h:r.sz≤2000000):z1ex m r db=some (z91 (zbt r db)):=by
 obtain⟨p1,p2⟩:=zv0 r;have h3:=r.sz_eq
 have l3:=z2t (L:=zci m) (st:=fun i=>z5h r db i) (C:=zlr m) (e:=.exit 4) (fun b=>some (z91 b)) (l:=r.aggs) (d:=zq) (fun a=>a.t.all fun t=>fitT db t) (hr.rel_aggs).len
  (fun i k hi hk hmem=>by
   have li:=z2t (L:=zlq m) (st:=fun j=>z7w r db i j) (C:=zls m) (e:=.exit 6) (fun b=>if b=true then zci m (z5h r db (IntKind.i64.wrap ((i:Int)+1)))else some (.ret,z5h r db i)) (l:=k.t) (d:=zb) (fun t=>fitT db t) (by have:=z5v k.t;have:=znn hmem;have:=k.sz_eq;omega)
    (fun j t hj ht htm=>by
     rw[z188];simp only[hk,z8,hi,hj,decide_true,if_true,and_true,y5,ht,Term.ids_eq]
     grind[z6,zdd,fitT])
    (by rw[z188];simp_all[z8,y5,decide_eq_true_eq,z6,if_neg]) (fun j=>z1i2 _ _ _ _ _) (fun j=>z1mp _ _ _ _ _)
   simp_all[z187,z8,decide_true,if_true])
  (by rw[z187];simp[z8]) (fun i=>z1i3 _ _ _ _) (fun i=>z1mo _ _ _ _)
 have l2:=z2t (L:=zp8 m) (st:=fun i=>z98 r db i) (C:=zpa m) (e:=.exit 2) (fun b=>some (z91 (b&&r.aggs.all fun a=>a.t.all fun t=>fitT db t))) (l:=r.terms) (d:=zb) (fun t=>fitT db t) (hr.rel_terms).len
  (fun i k hi hk hmem=>by
   rw[z1ez];simp only[z8,hi,decide_true,if_true,and_true,y5,hk,Term.ids_eq]
   grind[z6,zdd,fitT])
  (by rw[z1ez];simp[z8]) (fun i=>by simp[y1q,z1mn]) (fun i=>by simp_all[y1c,z1sb,trans])
 rw[z271,z8,zbt,z1bx];by_cases c:r.op=1
 ·simp_all[if_pos,Rel.ids_eq]
 ·rw[if_neg (by grind),if_neg c]
  exact z2t (L:=zp7 m) (st:=fun i=>z97 r db i) (C:=zp9 m) (e:=.exit 0) (fun b=>some (z91 (b&&(r.terms.all (fun t=>fitT db t)&&r.aggs.all fun a=>a.t.all fun t=>fitT db t)))) (l:=r.kids) (d:=za) (fun t=>fitR db t) (hr.rel_kids).len
   (fun i k hi hk hmem=>by
    have h1:=Rel.ht_kid hmem;have h2:=z9m hmem;rw[z1ey];simp only[z8,hi,decide_true,if_true,and_true,y5,hk,Rel.ids_eq]
    grind[z6,zbt,fitR])
   (by rw[z1ey];simp[z8]) (fun i=>by simp[y1q,z1mm]) (fun i=>by simp_all[y1c,z1sa,trans])
theorem z22c(m:Nat)(hG:z1s9 m):FnOK 41 (zp2 (m+1)):=fnK2 zr zx (M:=(z7n m)) rfl ⟨z26z,hG.2,hG.1,trivial⟩ trivial trivial trivial trivial Tryz.func41 fun r db=>GiF.r fun w o=>z1yb m r db (wfA_ w 0) (wfA_ w 1) (obA_ o 0) (obA_ o 1)
theorem zyy:∀m,z1s9 m
 |0=>⟨fnZ2,fnZ2⟩
 |m+1=>⟨z22b m (zyy m),z22c m (zyy m)⟩
def z1mq:FnC Un:=fnF2 (dS .rel) (dL .data) fun r db=>([r.sz≤2000000],z91 (zbt r db))
theorem z272:FnOK 41 z1mq:=fnA2 fun m=>(zyy m).2
end
end B
namespace B
open Go Go.RowKit
set_option maxRecDepth 100000
noncomputable section
attribute [local irreducible] awp ctxK zu z1a retQ z1m awf ctxF z1k
def z1f0(k:Int):Option (RF Un):=fnF_ z1dq z26d Tryz.f110 0 [.d] [.d (.v (.s (.int .i64 k)))]
theorem z273(k:Int):z1f0 k=cndO (k==0) (some (z91 (true))) (cndO (k==1) (some (z91 (true))) (cndO (k==2) (some (z91 (true))) (some (z91 (k==3))))):=by kernel_rfl
def z1by{σ α:Type}(f:σ→α→Option σ):σ→List α→Option σ
 |a,[]=>some a
 |a,x::l=>match f a x with|some b=>z1by f b l|none=>none
theorem z22d{σ α β:Type}{L:S Un→Option (EX Un)}{st rt:σ→Int→S Un}{C:Exit→S Un→Option β}(R:Option σ→Option β){l:List α}{d:α}{e:Exit}(f:σ→α→Option σ)(Inv:Nat→σ→Prop)(hl:l.length≤9223372036854775807)
  (step:∀(a:σ)(i:Nat)(x:α),(i:Int)<(l.length:Int)→l.getD i d=x→x∈l→Inv i a→(∀b,f a x=some b→Inv (i+1) b)∧L (st a i)=match f a x with|some b=>L (st b (IntKind.i64.wrap ((i:Int)+1)))|none=>some (.ret,rt a i))
  (stop:∀a,L (st a (l.length:Int))=some (e,st a (l.length:Int)))(r1:∀(a:σ)(i:Int),C .ret (rt a i)=R none)(r2:∀a,C e (st a (l.length:Int))=R (some a))(a:σ)(h0:Inv 0 a):(L (st a 0)).bind (zd C)=R (z1by f a l):=by
 have key:∀(r:List α)(i:Nat)(a:σ),l.drop i=r→i≤l.length→Inv i a→(L (st a i)).bind (zd C)=R (z1by f a r):=by
  intro r
  induction r with
  |nil=>
   intro i a hr hi _;have:l.length≤i:=y1o.1 hr;have e:i=l.length:=by omega
   rw[e,stop];exact r2 _
  |cons x r ih=>
   intro i a hr hi hI;have hlt:i<l.length:=by
    grind
   have hx:l.getD i d=x:=by
    have:=y24 (xs:=l) (i:=i) (j:=0);grind
   have hm:x∈l:=by grind
   have hr2:l.drop (i+1)=r:=by grind[List.tail_drop]
   obtain⟨hs1,hs2⟩:=step a i x (by omega) hx hm hI;rw[hs2];simp only[z1by];cases hq:f a x with
   |none=>exact r1 _ _
   |some b=>
    grind[z3e]
 grind
def z4r(k:Int):Bool:=decide (k=0∨k=1∨k=2∨k=3)
theorem z1yc(k:Int)(_h:WI k):z1f0 k=some (z91 (z4r k)):=by
 rw[z273];unfold z4r;simp only[z8,beq_iff_eq];grind
def zt4:FnC Un:=fnF1 (dI .i64) fun k=>([],z91 (z4r k))
theorem zyz:FnOK 110 zt4:=fnK1 z1c (M:=z1dq) rfl trivial trivial trivial trivial trivial Tryz.func110 fun k=>GiF.r fun w _=>z1yc k (wfA_ w 0)
def z1ms:Mc Un:=mcF_ [(110,zt4)] [] [] [] []
def z1f1(a:Int)(b:Int):Option (RF Un):=fnF_ z1ms z26d Tryz.f108 0 [.d] [.d (.v (.s (.int .i64 a))),.d (.v (.s (.int .i64 b)))]
theorem z274(a:Int)(b:Int):z1f1 a b=cndO (z4r a) (cndO (z4r b) (cndO (a==b) (some (z91 (true))) (cndO (a==0) (some (z91 (true))) (some (z91 (b==0))))) (some (z91 (false)))) (some (z91 (false))):=by kernel_rfl
def z6k(a b:Int):Bool:=z4r a&&z4r b&&decide (a=b∨a=0∨b=0)
theorem z1yd(a b:Int)(_ha:WI a)(_hb:WI b):z1f1 a b=some (z91 (z6k a b)):=by
 rw[z274];unfold z6k;cases z4r a
 ·rfl
 cases z4r b
 ·rfl
 simp only[z8,if_true,beq_iff_eq];grind
def zlt:FnC Un:=fnF2 (dI .i64) (dI .i64) fun a b=>([],z91 (z6k a b))
theorem zpb:FnOK 108 zlt:=fnK2 z1c z1c (M:=z1ms) rfl ⟨zyz,trivial⟩ trivial trivial trivial trivial Tryz.func108 fun a b=>GiF.r fun w _=>z1yd a b (wfA_ w 0) (wfA_ w 1)
def z1mt:Mc Un:=mcF_ [(108,zlt)] [] [] [] []
def zlu(r:Int×Bool):RF Un:=([.c (.s (.int .i64 r.1)),.c (.s (.bool r.2))],[])
def z1f2(a:Int)(b:Int):Option (RF Un):=fnF_ z1mt z26d Tryz.f61 0 [.d,.d] [.d (.v (.s (.int .i64 a))),.d (.v (.s (.int .i64 b)))]
theorem z275(a:Int)(b:Int):z1f2 a b=cndO (!z6k a b) (some (zlu ((0:Int),false))) (cndO (a==0) (some (zlu (b,true))) (some (zlu (a,true)))):=by kernel_rfl
def z5w(a b:Int):Int×Bool:=if z6k a b=true then(if a=0 then(b,true)else(a,true))else(0,false)
theorem z1ye(a b:Int)(_ha:WI a)(_hb:WI b):z1f2 a b=some (zlu (z5w a b)):=by
 rw[z275];unfold z5w;cases z6k a b
 ·rfl
 ·rw[y49,z8,if_neg (by simp),z8,if_pos rfl];grind
def zt5:FnC Un:=fnF2 (dI .i64) (dI .i64) fun a b=>([],zlu (z5w a b))
theorem zz0:FnOK 61 zt5:=fnK2 z1c z1c (M:=z1mt) rfl ⟨zpb,trivial⟩ trivial trivial trivial trivial Tryz.func61 fun a b=>GiF.r fun w _=>z1ye a b (wfA_ w 0) (wfA_ w 1)
def z99(l:List Int)(k:Int)(v0:Int):S Un:=(st 19 19 76 0 [(0,al .int l),(1,ai k),(4,ab false),(5,ai v0)] [] [])
def zpc:S Un→Option (EX Un):=lpF_ z1mt z17l Tryz.f106 [1,0,1,2,2] 2
def zpd:Exit→S Un→Option (RF Un):=cxF_ z1mt z17l Tryz.f106 [1,0,1,2] [.d]
def z1f3(l:List Int)(k:Int):Option (RF Un):=fnF_ z1mt z17l Tryz.f106 0 [.d] [.d (.v (.dat (U:=Un) Ty.int l)),.d (.v (.s (.int .i64 k)))]
theorem z276(l:List Int)(k:Int):z1f3 l k=(zpc (z99 l k (0:Int))).bind (zd zpd):=by kernel_rfl
theorem z1f4(l:List Int)(k:Int)(v0:Int):zpc (z99 l k v0)=cndO (decide (v0<(↑l.length:Int))) (obO (0≤v0∧v0<(↑l.length:Int)) (cndO (!z6k (l.getD v0.toNat (0:Int)) k) (some (.ret,(z99 l k v0))) (zpc (z99 l k (IntKind.i64.wrap (v0+1)))))) (some (.exit 0,(z99 l k v0))):=lpQ_ (by kernel_rfl)
theorem z1mu(l:List Int)(k:Int)(v0:Int):zpd .ret (z99 l k v0)=some (z91 (false)):=by kernel_rfl
theorem z1sc(l:List Int)(k:Int)(v0:Int):zpd (.exit 0) (z99 l k v0)=some (z91 (true)):=by kernel_rfl
def z1s(l:List Int)(k:Int):Bool:=l.all fun a=>z6k a k
theorem z1yf(l:List Int)(k:Int)(hl:WL .int l)(_hk:WI k):z1f3 l k=some (z91 (z1s l k)):=by
 rw[z276]
 exact z2t (L:=zpc) (st:=fun i=>z99 l k i) (C:=zpd) (e:=.exit 0) (fun b=>some (z91 b)) (l:=l) (d:=0) (fun a=>z6k a k) hl.len
  (fun i x hi hx _=>by
   rw[z1f4];simp only[z8,hi,decide_true,if_true,and_true,y5,hx]
   grind[z6,z6k])
  (by rw[z1f4];simp[z8]) (fun i=>z1mu _ _ _) (fun i=>z1sc _ _ _)
def z13d:FnC Un:=fnF2 (dL .int) (dI .i64) fun l k=>([],z91 (z1s l k))
theorem z1f5:FnOK 106 z13d:=fnK2 zx z1c (M:=z1mt) rfl ⟨zpb,trivial⟩ trivial trivial trivial trivial Tryz.func106 fun l k=>GiF.r fun w _=>z1yf l k (wfA_ w 0) (wfA_ w 1)
def zlw:Mc Un:=mcF_ [(61,zt5)] [] [] [] []
def zv3:Nat→NS:=nsF_ [(3,{ts:=bl 27 61,bs:=bl 27 0,nm:=[],cs:=true})] true
def z5n(l:List Int)(v0:Int)(v1:Int):S Un:=(st 27 27 108 0 [(0,al .int l),(2,ai (0:Int)),(3,ab false),(4,ai v0),(5,ai v1)] [] [])
def ziz:S Un→Option (EX Un):=lpF_ zlw zv3 Tryz.f107 [1,1,0,1,2,2] 3
def zj0:Exit→S Un→Option (RF Un):=cxF_ zlw zv3 Tryz.f107 [1,1,0,1,2] [.d,.d]
def z152(l:List Int):Option (RF Un):=fnF_ zlw zv3 Tryz.f107 0 [.d,.d] [.d (.v (.dat (U:=Un) Ty.int l))]
theorem z1yg(l:List Int):z152 l=(ziz (z5n l (0:Int) (0:Int))).bind (zd zj0):=by kernel_rfl
theorem z153(l:List Int)(v0:Int)(v1:Int):ziz (z5n l v0 v1)=cndO (decide (v1<(↑l.length:Int))) (obO (0≤v1∧v1<(↑l.length:Int)) (cndO (!(z5w v0 (l.getD v1.toNat (0:Int))).snd) (some (.ret,(z5n l v0 v1))) (ziz (z5n l ((z5w v0 (l.getD v1.toNat (0:Int))).fst) (IntKind.i64.wrap (v1+1)))))) (some (.exit 0,(z5n l v0 v1))):=lpQ_ (by kernel_rfl)
theorem z1cq(l:List Int)(v0:Int)(v1:Int):zj0 .ret (z5n l v0 v1)=some (zlu ((0:Int),false)):=by kernel_rfl
theorem z1i4(l:List Int)(v0:Int)(v1:Int):zj0 (.exit 0) (z5n l v0 v1)=some (zlu (v0,true)):=by kernel_rfl
def z2b7(k x:Int):Option Int:=if(z5w k x).2=true then some (z5w k x).1 else none
def z3g(l:List Int):Int×Bool:=match z1by z2b7 0 l with|some k=>(k,true)|none=>(0,false)
theorem z1mv(l:List Int)(hl:WL .int l):z152 l=some (zlu (z3g l)):=by
 rw[z1yg]
 exact z22d (L:=ziz) (st:=fun(k:Int) i=>z5n l k i) (C:=zj0) (e:=.exit 0) (rt:=fun(k:Int) i=>z5n l k i) (fun o=>some (zlu (match o with|some k=>(k,true)|none=>(0,false)))) (l:=l) (d:=0) z2b7 (fun _ _=>True) hl.len
  (fun a i x hi hx _ _=>by
   rw[z153];simp only[z8,hi,decide_true,if_true,and_true,y5,hx]
   grind[z6,z2b7,z5w])
  (fun a=>by rw[z153];simp[z8]) (fun a i=>z1cq _ _ _) (fun a=>z1i4 _ _ _) 0 trivial
def zlx:FnC Un:=fnF1 (dL .int) fun l=>([],zlu (z3g l))
theorem zrr:FnOK 107 zlx:=fnK1 zx (M:=zlw) rfl ⟨zz0,trivial⟩ trivial trivial trivial trivial Tryz.func107 fun l=>GiF.r fun w _=>z1mv l (wfA_ w 0)
def z189(k:Int)(ok:Bool):Option (RF Un):=fnF_ z1dq z26d Tryz.f105 0 [.d,.d] [.d (.v (.s (.int .i64 k))),.d (.v (cb ok))]
theorem z22e(k:Int)(ok:Bool):z189 k ok=cndO (!ok) (some (z7v ((0:Int),(9:Int)))) (some (z7v (k,(0:Int)))):=by kernel_rfl
def zo(k:Int)(ok:Bool):Int×Int:=if ok=true then(k,0)else(0,9)
theorem z1sd(k:Int)(ok:Bool)(_hk:WI k):z189 k ok=some (z7v (zo k ok)):=by
 rw[z22e];cases ok<;>rfl
def zi2:FnC Un:=fnF2 (dI .i64) dB fun k ok=>([],z7v (zo k ok))
theorem zly:FnOK 105 zi2:=fnK2 z1c z1kw (M:=z1dq) rfl trivial trivial trivial trivial trivial Tryz.func105 fun k ok=>GiF.r fun w _=>z1sd k ok (wfA_ w 0)
def z1f7(op:Int):Option (RF Un):=fnF_ z1dq z26d Tryz.f109 0 [.d,.d] [.d (.v (.s (.int .i64 op)))]
theorem z278(op:Int):z1f7 op=cndO (op==3) (some (z7v ((1:Int),(1:Int)))) (cndO (op==4) (some (z7v ((1:Int),(1:Int)))) (cndO (op==19) (some (z7v ((1:Int),(1:Int)))) (cndO (op==21) (some (z7v ((2:Int),(1152921504606846976:Int)))) (cndO (op==23) (some (z7v ((2:Int),(1152921504606846976:Int)))) (cndO (op==22) (some (z7v ((3:Int),(3:Int)))) (cndO (decide (op≥5)) (cndO (decide (op≤18)) (some (z7v ((2:Int),(2:Int)))) (cndO (op==20) (some (z7v ((2:Int),(2:Int)))) (some (z7v ((0:Int),(0:Int)))))) (cndO (op==20) (some (z7v ((2:Int),(2:Int)))) (some (z7v ((0:Int),(0:Int))))))))))):=by kernel_rfl
def zjw(op:Int):Int×Int:=
 if op=3∨op=4∨op=19 then(1,1)else if op=21∨op=23 then(2,1152921504606846976)else if op=22 then(3,3)else if(5≤op∧op≤18)∨op=20 then(2,2)else(0,0)
theorem z1yh(op:Int)(_h:WI op):z1f7 op=some (z7v (zjw op)):=by
 rw[z278];unfold zjw;simp only[z8,beq_iff_eq,decide_eq_true_eq,ge_iff_le];grind
def z1mx:FnC Un:=fnF1 (dI .i64) fun op=>([],z7v (zjw op))
theorem z279:FnOK 109 z1mx:=fnK1 z1c (M:=z1dq) rfl trivial trivial trivial trivial trivial Tryz.func109 fun op=>GiF.r fun w _=>z1yh op (wfA_ w 0)
end
end B
end Go.Proofs.YtjfpbchdcbhfgaaGreat
