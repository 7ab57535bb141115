/- Part 9 of the proof: Slight2 Slight3 Slight4. -/
import Derived.Test.YtjfpbchdcbhfgaaGreatNjo8
set_option linter.unusedVariables false
set_option linter.unusedSimpArgs false
namespace Go.Proofs.YtjfpbchdcbhfgaaGreat
namespace B
open Go Go.RowKit
set_option maxRecDepth 100000
noncomputable section
attribute [local irreducible] awp ctxK zw z1a retQ z1m awf ctxF z1l
def z14c:Nat→NS:=nsF_ [(3,{ts:=bl 29 99,bs:=bl 29 0,nm:=[],cs:=true})] true
def zc7(table:ByteArray)(db:List Data)(v0:Int)(v1:Int):S Un:=(st 29 29 116 0 [(0,at_ table),(1,al .data db),(5,ai v0),(6,ai v1)] [] [])
def zii:S Un→Option (EX Un):=lpF_ z1f6 z14c Tryz.f64 [1,1,0,1,2,2] 3
def z1g0:Exit→S Un→Option (RF Un):=cxF_ z1f6 z14c Tryz.f64 [1,1,0,1,2] [.d]
def z1g1(table:ByteArray)(db:List Data):Option (RF Un):=fnF_ z1f6 z14c Tryz.f64 0 [.d] [.d (.v (cs table)),.d (.v (.dat (U:=Un) Ty.data db))]
theorem z28u(table:ByteArray)(db:List Data):z1g1 table db=(zii (zc7 table db (0:Int) (0:Int))).bind (zd z1g0):=by kernel_rfl
theorem z1g2(table:ByteArray)(db:List Data)(v0:Int)(v1:Int):zii (zc7 table db v0 v1)=cndO (decide (v1<(↑db.length:Int))) (obO (0≤v1∧v1<(↑db.length:Int)) (cndO ((db.getD v1.toNat z38).table.toList ==table.toList) (obO (0≤v1∧v1<(↑db.length:Int)) (zii (zc7 table db (IntKind.i64.wrap (v0+(↑(db.getD v1.toNat z38).rows.length:Int))) (IntKind.i64.wrap (v1+1))))) (zii (zc7 table db v0 (IntKind.i64.wrap (v1+1)))))) (some (.exit 0,(zc7 table db v0 v1))):=lpQ_ (by kernel_rfl)
theorem z1tl(table:ByteArray)(db:List Data)(v0:Int)(v1:Int):z1g0 (.exit 0) (zc7 table db v0 v1)=some (z2c (v0)):=by kernel_rfl
theorem za0{σ α:Type}{L:S Un→Option (EX Un)}{st:σ→Int→S Un}{l:List α}{d:α}(g:σ→α→σ){e:Exit}(hl:l.length≤9223372036854775807)
  (step:∀(a:σ)(i:Nat)(x:α),(i:Int)<(l.length:Int)→l.getD i d=x→x∈l→L (st a i)=L (st (g a x) (IntKind.i64.wrap ((i:Int)+1))))
  (stop:∀a,L (st a (l.length:Int))=some (e,st a (l.length:Int)))(a:σ):L (st a (0:Int))=some (e,st (l.foldl g a) (l.length:Int)):=
 (z1j (e:=e) (L:=L) (st:=st) (l:=l) (d:=d) (g:=g) (fun _ _=>True) hl (fun a i x hi hx _=>⟨trivial,step a i x hi hx (by grind)⟩) (fun a _=>stop a) a trivial).1
def addI(n x:Int):Int:=IntKind.i64.wrap (n+x)
def minI(a b:Int):Int:=List.foldl (fun a b=>if b<a then b else a) a [b]
def zm7(table:ByteArray)(n:Int)(d:Data):Int:=if(d.table.toList==table.toList)=true then addI n d.rows.length else n
def zc8(table:ByteArray)(db:List Data):Int:=db.foldl (zm7 table) 0
theorem z1zv(table:ByteArray)(db:List Data)(_ht:WStr table)(hd:WL .data db):z1g1 table db=some (z2c (zc8 table db)):=by
 have lp:=za0 (e:=.exit 0) (L:=zii) (st:=fun(n:Int) i=>zc7 table db n i) (l:=db) (d:=z38) (zm7 table) hd.len
  (fun n i k hi hk _=>by
   rw[z1g2];simp only[z8,hi,decide_true,if_true,and_true,y5,hk];rw[z6 (by omega),z6 (by omega)];unfold zm7;by_cases c:(k.table.toList==table.toList)=true
   ·rw[if_pos c,if_pos c];rfl
   grind)
  (fun n=>by rw[z1g2];simp[z8]) 0
 rw[z28u];refine(zj lp).trans ?_;rw[z1tl];rfl
def z1nq:FnC Un:=fnF2 dStr (dL .data) fun table db=>([],z2c (zc8 table db))
theorem z28v:FnOK 64 z1nq:=fnK2 z3y zr (M:=z1f6) rfl trivial trivial trivial trivial trivial Tryz.func64 fun table db=>GiF.r fun w _=>z1zv table db (wfA_ w 0) (wfA_ w 1)
def z19c(op held rl n:Int)(rows:List Int)(asks:Int):Int×Int:=
 let out (i o:Int):Int×Int:=(minI o 1048576,minI (addI n (IntKind.i64.wrap (minI i 1048576*minI asks 1048576))) 1048576)
 if op=1 then out held held
 else if rows.length=0 then out rl rl
 else if rows.length=1 then out (rows.getD 0 0) (maxI (rows.getD 0 0) 1)
 else if op=5∨op=6 then out (IntKind.i64.wrap (rows.getD 0 0*maxI (rows.getD 1 0) 1)) (IntKind.i64.wrap (rows.getD 0 0*maxI (rows.getD 1 0) 1))
 else out (IntKind.i64.wrap (rows.getD 0 0+rows.getD 1 0)) (IntKind.i64.wrap (rows.getD 0 0+rows.getD 1 0))
mutual
def wghT(db:List Data):Term→Int
 | .mk _ _ _ _ _ kids sub _=>z1ns db (z1dc db 0 kids) sub
def z1dc(db:List Data):Int→List Term→Int
 |n,[]=>n
 |n,t::l=>z1dc db (capI n (wghT db t)) l
def zm8(db:List Data):Int→List Term→Int
 |n,[]=>n
 |n,t::l=>zm8 db (addI n (wghT db t)) l
def askA(db:List Data):Int→Agg→Int
 |n,.mk _ _ t=>zm8 db n t
def ztx(db:List Data):Int→List Agg→Int
 |n,[]=>n
 |n,a::l=>ztx db (askA db n a) l
def wghR(db:List Data):Rel→Int×Int
 | .mk op table _ kids terms aggs _ _ _ _ rows=>z19c op (zc8 table db) rows.length ((z1nr db kids).foldl (fun n p=>addI n p.2) 0) ((z1nr db kids).map (·.1)) (ztx db (zm8 db 1 terms) aggs)
def z1nr(db:List Data):List Rel→List (Int×Int)
 |[]=>[]
 |r::l=>wghR db r::z1nr db l
def z1ns(db:List Data):Int→List Rel→Int
 |n,[]=>n
 |n,r::l=>z1ns db (capI n (wghR db r).2) l
end
theorem zty(db:List Data):∀(l:List Term)(n:Int),l.foldl (fun n t=>capI n (wghT db t)) n=z1dc db n l
 |[],n=>by rfl
 |t::l,n=>by rw[yx,zty db l,z1dc]
theorem zm9(db:List Data):∀(l:List Term)(n:Int),l.foldl (fun n t=>addI n (wghT db t)) n=zm8 db n l
 |[],n=>by rfl
 |t::l,n=>by rw[yx,zm9 db l,zm8]
theorem z2bb(db:List Data)(n:Int)(a:Agg):askA db n a=zm8 db n a.t:=by cases a;rfl
theorem z1nt(db:List Data):∀(l:List Agg)(n:Int),l.foldl (fun n a=>zm8 db n a.t) n=ztx db n l
 |[],n=>by rfl
 |t::l,n=>by rw[yx,z1nt db l,ztx,z2bb]
theorem ztz(db:List Data):∀(l:List Rel)(n:Int),l.foldl (fun n t=>capI n (wghR db t).2) n=z1ns db n l
 |[],n=>by rfl
 |t::l,n=>by rw[yx,ztz db l,z1ns]
theorem z1xf(db:List Data):∀l:List Rel,z1nr db l=l.map (wghR db)
 |[]=>by rfl
 |r::l=>by rw[z1nr,z1xf db l,yy]
theorem z1tm(db:List Data)(t:Term):wghT db t=z1ns db (z1dc db 0 t.kids) t.sub:=by cases t;rfl
theorem z2bc(db:List Data)(r:Rel):wghR db r=z19c r.op (zc8 r.table db) r.rows.length (r.kids.foldl (fun n k=>addI n (wghR db k).2) 0) (r.kids.map fun k=>(wghR db k).1) (ztx db (zm8 db 1 r.terms) r.aggs):=by
 cases r;simp only[wghR,z1xf,List.foldl_map,List.map_map,Rel.op_mk,Rel.table_mk,Rel.kids_mk,Rel.terms_mk,Rel.aggs_mk,Rel.rows_mk];rfl
def zh7(t:Term)(db:List Data):Int:=wghT db t
def z6n(r:Rel)(db:List Data):Int×Int:=wghR db r
theorem z1xg(db:List Data):∀(l:List Rel)(n:Int)(x:List Int),l.foldl (fun(p:Int×List Int) k=>(addI p.1 (wghR db k).2,p.2++[(wghR db k).1])) (n,x)=(l.foldl (fun n k=>addI n (wghR db k).2) n,x++l.map fun k=>(wghR db k).1)
 |[],n,x=>by simp
 |r::l,n,x=>by rw[yx,z1xg db l,yx,yy,y11];rfl
theorem zvw(r:Rel):(∀t∈r.terms,t.ht<r.ht∧t.sz<r.sz)∧∀a∈r.aggs,∀t∈a.t,t.ht<r.ht∧t.sz<r.sz:=by
 have h5:htTs r.terms<r.ht∧htAs r.aggs<r.ht:=by cases r;grind[Rel.ht,Rel.terms_mk,Rel.aggs_mk]
 have h3:=r.sz_eq;refine⟨fun t h=>⟨by have:=zc1 h;omega,by have:=zkb h;omega⟩,fun a ha t h=>?_⟩;have h1:=z13w ha;have h2:=zoc ha;have h6:=a.sz_eq;have h7:=zc1 h;have h8:=zkb h;have h9:htTs a.t<a.ht:=by cases a;simp[Agg.t_mk,Agg.ht]
 omega
def zja(m:Nat):FnC Un:=fnF2 (dS .term) (dL .data) fun t db=>z2o (2*t.ht) m ([t.sz≤2000000],z2c (zh7 t db))
def z80(r:Int×Int):RF Un:=([.c (.s (.int .i64 r.1)),.c (.s (.int .i64 r.2))],[])
def zjb(m:Nat):FnC Un:=fnF2 (dS .rel) (dL .data) fun r db=>z2o (2*r.ht+1) m ([r.sz≤2000000],z80 (z6n r db))
def zcy(m:Nat):Mc Un:=mcF_ [(34,zja m),(29,zjb m)] [] [] [] []
def zg7:Nat→NS:=nsF_ [(3,{ts:=bl 49 102,bs:=bl 49 4,nm:=[],cs:=true}),(7,{ts:=bl 49 166,bs:=bl 49 4,nm:=[],cs:=true})] true
def zb0(t:Term)(db:List Data)(v0:Int)(v1:Int):S Un:=(st 49 49 196 0 [(1,al .data db),(2,ax 2),(5,ai v0),(6,ai v1)] [(2,bg .term t)] [])
def zb1(t:Term)(db:List Data)(v0:Int)(v2:Int):S Un:=(st 49 49 196 0 [(1,al .data db),(2,ax 2),(5,ai v0),(7,ai v2)] [(2,bg .term t)] [])
def zjc(m:Nat):S Un→Option (EX Un):=lpF_ (zcy m) zg7 Tryz.f34 [1,1,0,1,2,2] 3
def zjd(m:Nat):S Un→Option (EX Un):=lpF_ (zcy m) zg7 Tryz.f34 [1,1,1,0,1,2,2] 7
def z160(m:Nat):Exit→S Un→Option (RF Un):=cxF_ (zcy m) zg7 Tryz.f34 [1,1,0,1,2] [.d]
def z161(m:Nat):Exit→S Un→Option (RF Un):=cxF_ (zcy m) zg7 Tryz.f34 [1,1,1,0,1,2] [.d]
def z162(m:Nat)(t:Term)(db:List Data):Option (RF Un):=fnF_ (zcy m) zg7 Tryz.f34 0 [.d] [.d (.agg (enc Ty.term t)),.d (.v (.dat (U:=Un) Ty.data db))]
theorem z1zw(m:Nat)(t:Term)(db:List Data):z162 m t db=(zjc m (zb0 t db (0:Int) (0:Int))).bind (zd (z160 m)):=by kernel_rfl
theorem z163(m:Nat)(t:Term)(db:List Data)(v0:Int)(v1:Int):zjc m (zb0 t db v0 v1)=cndO (decide (v1<(↑t.kids.length:Int))) (obO (0≤v1∧v1<(↑t.kids.length:Int)) (obO ((2:Nat)*(Term.ids (t.kids.getD v1.toNat zb)).ht<m) (obO ((Term.ids (t.kids.getD v1.toNat zb)).sz≤(2000000:Nat)) (zjc m (zb0 t db (List.foldl (fun a b=>if b<a then b else a) (IntKind.i64.wrap (v0+zh7 (Term.ids (t.kids.getD v1.toNat zb)) db)) [(1048576:Int)]) (IntKind.i64.wrap (v1+1))))))) (some (.exit 0,(zb0 t db v0 v1))):=lpQ_ (by kernel_rfl)
theorem z1jd(m:Nat)(t:Term)(db:List Data)(v0:Int)(v1:Int):z160 m (.exit 0) (zb0 t db v0 v1)=(zjd m (zb1 t db v0 (0:Int))).bind (zd (z161 m)):=by kernel_rfl
theorem z164(m:Nat)(t:Term)(db:List Data)(v0:Int)(v2:Int):zjd m (zb1 t db v0 v2)=cndO (decide (v2<(↑t.sub.length:Int))) (obO (0≤v2∧v2<(↑t.sub.length:Int)) (obO ((2:Nat)*(Rel.ids (t.sub.getD v2.toNat za)).ht+(1:Nat)<m) (obO ((Rel.ids (t.sub.getD v2.toNat za)).sz≤(2000000:Nat)) (zjd m (zb1 t db (List.foldl (fun a b=>if b<a then b else a) (IntKind.i64.wrap (v0+(z6n (Rel.ids (t.sub.getD v2.toNat za)) db).snd)) [(1048576:Int)]) (IntKind.i64.wrap (v2+1))))))) (some (.exit 2,(zb1 t db v0 v2))):=lpQ_ (by kernel_rfl)
theorem z1je(m:Nat)(t:Term)(db:List Data)(v0:Int)(v2:Int):z161 m (.exit 2) (zb1 t db v0 v2)=some (z2c (v0)):=by kernel_rfl
theorem z1nu(m:Nat)(t:Term)(db:List Data)(ht:WS .term t)(_hd:WL .data db)(hm:2*t.ht<m+1)(h:t.sz≤2000000):z162 m t db=some (z2c (zh7 t db)):=by
 have lp:=za0 (e:=.exit 0) (L:=zjc m) (st:=fun(n:Int) i=>zb0 t db n i) (l:=t.kids) (d:=zb) (fun n k=>capI n (wghT db k)) (ht.term_kids).len
  (fun n i k hi hk hmem=>by
   have h1:=Term.ht_kid hmem;have h2:=zlz hmem;rw[z163];simp only[z8,hi,decide_true,if_true,and_true,y5,hk,Term.ids_eq];rw[z6 (by omega),z6 (by omega),z6 (by omega)]
   rfl)
  (fun n=>by rw[z163];simp[z8]) 0
 rw[zty]at lp
 have lq:=za0 (e:=.exit 2) (L:=zjd m) (st:=fun(n:Int) i=>zb1 t db n i) (l:=t.sub) (d:=za) (fun n k=>capI n (wghR db k).2) (ht.term_sub).len
  (fun n i k hi hk hmem=>by
   have h1:=Term.ht_sub hmem;have h2:=zm0 hmem;rw[z164];simp only[z8,hi,decide_true,if_true,and_true,y5,hk,Rel.ids_eq];rw[z6 (by omega),z6 (by omega),z6 (by omega)]
   rfl)
  (fun n=>by rw[z164];simp[z8]) (z1dc db 0 t.kids)
 rw[ztz]at lq;rw[z1zw];grind[zj,trans,z1jd,z1je,zh7,z1tm]
abbrev z19d(m:Nat):Prop:=FnOK 34 (zja m)∧FnOK 29 (zjb m)
theorem z1tn(m:Nat)(hG:z19d m):FnOK 34 (zja (m+1)):=fnK2 zt zr (M:=(zcy m)) rfl ⟨hG.1,hG.2,trivial⟩ trivial trivial trivial trivial Tryz.func34 fun t db=>GiF.r fun w o=>z1nu m t db (wfA_ w 0) (wfA_ w 1) (obA_ o 0) (obA_ o 1)
def z5k(m:Nat):Mc Un:=mcF_ [(29,zjb m),(34,zja m),(64,z1nq)] [] [] [] []
def z43:Nat→NS:=nsF_ [(3,{ts:=bl 156 454,bs:=bl 156 4,nm:=[(.sl 6,624)],cs:=true}),(10,{ts:=bl 156 6342,bs:=bl 156 4,nm:=[(.sl 6,625)],cs:=true}),(14,{ts:=bl 156 10438,bs:=bl 156 4,nm:=[(.sl 6,626)],cs:=true}),(17,{ts:=bl 156 26822,bs:=bl 156 4,nm:=[(.sl 6,627)],cs:=true})] true
def zej(r:Rel)(db:List Data)(v1:Int):=z6n (Rel.mk (Rel.op (r.kids.getD v1.toNat za)) (Rel.table (r.kids.getD v1.toNat za)) (Rel.cols (r.kids.getD v1.toNat za)) (Rel.kids (r.kids.getD v1.toNat za)) (Rel.terms (r.kids.getD v1.toNat za)) (Rel.aggs (r.kids.getD v1.toNat za)) (Rel.keys (r.kids.getD v1.toNat za)) (Rel.limit (r.kids.getD v1.toNat za)) (Rel.skip (r.kids.getD v1.toNat za)) (Rel.all (r.kids.getD v1.toNat za)) (Rel.rows (r.kids.getD v1.toNat za))) db
def zb2(r:Rel)(db:List Data)(v0:Int)(v1:Int)(v2:List Int):S Un:=(st 156 156 628 0 [(1,al .data db),(2,ax 2),(6,ao 624),(7,ai v0),(8,ai v1)] [(2,bg .rel r)] [(624,some ⟨(0:Nat),Ty.int,v2,some (0:Nat),true⟩)])
def za1(r:Rel)(db:List Data)(v0:Int)(v2:List Int)(v3:Int)(v4:Int):S Un:=(st 156 156 628 0 [(1,al .data db),(2,ax 2),(6,ao 625),(7,ai v0),(11,ai v3),(12,ai v4)] [(2,bg .rel r)] [(625,some ⟨(0:Nat),Ty.int,v2,some (0:Nat),true⟩)])
def za2(r:Rel)(db:List Data)(v0:Int)(v3:Int)(v2:List Int)(v5:Int):S Un:=(st 156 156 628 0 [(1,al .data db),(2,ax 2),(6,ao 626),(7,ai v0),(11,ai v3),(13,ai v5)] [(2,bg .rel r)] [(626,some ⟨(0:Nat),Ty.int,v2,some (0:Nat),true⟩)])
def za3(r:Rel)(db:List Data)(v0:Int)(v3:Int)(v5:Int)(v2:List Int)(v6:Int):S Un:=(st 156 156 628 0 [(1,al .data db),(2,ax 2),(6,ao 627),(7,ai v0),(11,ai v3),(13,ai v5),(14,ai v6)] [(2,bg .rel r)] [(627,some ⟨(0:Nat),Ty.int,v2,some (0:Nat),true⟩)])
def zje(m:Nat):S Un→Option (EX Un):=lpF_ (z5k m) z43 Tryz.f29 [1,1,0,1,2,2] 3
def zh8(m:Nat):S Un→Option (EX Un):=lpF_ (z5k m) z43 Tryz.f29 [1,1,1,1,0,1,2,2] 10
def zcz(m:Nat):S Un→Option (EX Un):=lpF_ (z5k m) z43 Tryz.f29 [1,1,1,1,1,0,1,2,2] 14
noncomputable def z11l:Code:=sub (sub (zf Tryz.f29) [1,1,1,1,1,0,1,2,2]) [1,0,2,1,2,2]
def zh9(m:Nat):S Un→Option (EX Un):=z1l (z43 17) (fun s Q=>awf (z5k m) z43 z11l s Q)
def z165(m:Nat):Exit→S Un→Option (RF Un):=cxF_ (z5k m) z43 Tryz.f29 [1,1,0,1,2] [.d,.d]
def z11m(m:Nat):Exit→S Un→Option (RF Un):=cxF_ (z5k m) z43 Tryz.f29 [1,1,1,1,0,1,2] [.d,.d]
def z11n(m:Nat):Exit→S Un→Option (RF Un):=cxF_ (z5k m) z43 Tryz.f29 [1,1,1,1,1,0,1,2] [.d,.d]
def z11o(m:Nat):Exit→S Un→Option (EX Un):=ctxF (z5k m) z43 (sub (zf Tryz.f29) [1,1,1,1,1,0,1,2,2]) [1,0,2,1,2] (zco (z43 14) (zcz m))
def z166(m:Nat)(r:Rel)(db:List Data):Option (RF Un):=fnF_ (z5k m) z43 Tryz.f29 4 [.d,.d] [.d (.agg (enc Ty.rel r)),.d (.v (.dat (U:=Un) Ty.data db))]
theorem z1zx(m:Nat)(r:Rel)(db:List Data):z166 m r db=(zje m (zb2 r db (0:Int) (0:Int) ([]))).bind (zd (z165 m)):=by kernel_rfl
theorem z167(m:Nat)(r:Rel)(db:List Data)(v0:Int)(v1:Int)(v2:List Int):zje m (zb2 r db v0 v1 v2)=cndO (decide (v1<(↑r.kids.length:Int))) (obO (0≤v1∧v1<(↑r.kids.length:Int)) (obO ((2:Nat)*(Rel.ids (r.kids.getD v1.toNat za)).ht+(1:Nat)<m) (obO ((Rel.ids (r.kids.getD v1.toNat za)).sz≤(2000000:Nat)) (obO ((v2.length+[(zej r db v1).fst].length)*(8:Nat)≤ze) (zje m (zb2 r db (IntKind.i64.wrap (v0+(zej r db v1).snd)) (IntKind.i64.wrap (v1+1)) (v2++[(zej r db v1).fst]))))))) (some (.exit 0,(zb2 r db v0 v1 v2))):=lpQ_ (by kernel_rfl)
theorem z1jf(m:Nat)(r:Rel)(db:List Data)(v0:Int)(v1:Int)(v2:List Int):z165 m (.exit 0) (zb2 r db v0 v1 v2)=(zh8 m (za1 r db v0 v2 (1:Int) (0:Int))).bind (zd (z11m m)):=by kernel_rfl
theorem z11p(m:Nat)(r:Rel)(db:List Data)(v0:Int)(v2:List Int)(v3:Int)(v4:Int):zh8 m (za1 r db v0 v2 v3 v4)=cndO (decide (v4<(↑r.terms.length:Int))) (obO (0≤v4∧v4<(↑r.terms.length:Int)) (obO ((2:Nat)*(Term.ids (r.terms.getD v4.toNat zb)).ht<m) (obO ((Term.ids (r.terms.getD v4.toNat zb)).sz≤(2000000:Nat)) (zh8 m (za1 r db v0 v2 (IntKind.i64.wrap (v3+zh7 (Term.ids (r.terms.getD v4.toNat zb)) db)) (IntKind.i64.wrap (v4+1))))))) (some (.exit 2,(za1 r db v0 v2 v3 v4))):=lpQ_ (by kernel_rfl)
theorem z1e0(m:Nat)(r:Rel)(db:List Data)(v0:Int)(v2:List Int)(v3:Int)(v4:Int):z11m m (.exit 2) (za1 r db v0 v2 v3 v4)=(zcz m (za2 r db v0 v3 v2 (0:Int))).bind (zd (z11n m)):=by kernel_rfl
theorem z11q(m:Nat)(r:Rel)(db:List Data)(v0:Int)(v3:Int)(v2:List Int)(v5:Int):zcz m (za2 r db v0 v3 v2 v5)=cndO (decide (v5<(↑r.aggs.length:Int))) ((zh9 m (za3 r db v0 v3 v5 v2 (0:Int))).bind (zd (z11o m))) (some (.exit 4,(za2 r db v0 v3 v2 v5))):=lpQ_ (by kernel_rfl)
def zsm(v0:Int)(v2:List Int)(v3:Int):Option (RF Un):=obO ((0:Int)≤(0:Int)∧(0:Int)<(↑v2.length:Int)) (obO ((0:Int)≤(1:Int)∧(1:Int)<(↑v2.length:Int)) (some (z80 (List.foldl (fun a b=>if b<a then b else a) (IntKind.i64.wrap (v2.getD 0 (0:Int)*List.foldl (fun a b=>if a<b then b else a) (v2.getD 1 (0:Int)) [(1:Int)])) [(1048576:Int)],List.foldl (fun a b=>if b<a then b else a) (IntKind.i64.wrap (v0+IntKind.i64.wrap (List.foldl (fun a b=>if b<a then b else a) (IntKind.i64.wrap (v2.getD 0 (0:Int)*List.foldl (fun a b=>if a<b then b else a) (v2.getD 1 (0:Int)) [(1:Int)])) [(1048576:Int)]*List.foldl (fun a b=>if b<a then b else a) v3 [(1048576:Int)]))) [(1048576:Int)]))))
theorem z1e1(m:Nat)(r:Rel)(db:List Data)(v0:Int)(v3:Int)(v2:List Int)(v5:Int):z11n m (.exit 4) (za2 r db v0 v3 v2 v5)=cndO (r.op==1) (some (z80 (List.foldl (fun a b=>if b<a then b else a) (zc8 r.table db) [(1048576:Int)],List.foldl (fun a b=>if b<a then b else a) (IntKind.i64.wrap (v0+IntKind.i64.wrap (List.foldl (fun a b=>if b<a then b else a) (zc8 r.table db) [(1048576:Int)]*List.foldl (fun a b=>if b<a then b else a) v3 [(1048576:Int)]))) [(1048576:Int)]))) (cndO ((↑v2.length:Int)==(0:Int)) (some (z80 (List.foldl (fun a b=>if b<a then b else a) (↑r.rows.length:Int) [(1048576:Int)],List.foldl (fun a b=>if b<a then b else a) (IntKind.i64.wrap (v0+IntKind.i64.wrap (List.foldl (fun a b=>if b<a then b else a) (↑r.rows.length:Int) [(1048576:Int)]*List.foldl (fun a b=>if b<a then b else a) v3 [(1048576:Int)]))) [(1048576:Int)]))) (cndO ((↑v2.length:Int)==(1:Int)) (obO ((0:Int)≤(0:Int)∧(0:Int)<(↑v2.length:Int)) (some (z80 (List.foldl (fun a b=>if b<a then b else a) (List.foldl (fun a b=>if a<b then b else a) (v2.getD 0 (0:Int)) [(1:Int)]) [(1048576:Int)],List.foldl (fun a b=>if b<a then b else a) (IntKind.i64.wrap (v0+IntKind.i64.wrap (List.foldl (fun a b=>if b<a then b else a) (v2.getD 0 (0:Int)) [(1048576:Int)]*List.foldl (fun a b=>if b<a then b else a) v3 [(1048576:Int)]))) [(1048576:Int)])))) (cndO (r.op==5) (zsm v0 v2 v3) (cndO (r.op==6) (zsm v0 v2 v3) (obO ((0:Int)≤(0:Int)∧(0:Int)<(↑v2.length:Int)) (obO ((0:Int)≤(1:Int)∧(1:Int)<(↑v2.length:Int)) (some (z80 (List.foldl (fun a b=>if b<a then b else a) (IntKind.i64.wrap (v2.getD 0 (0:Int)+v2.getD 1 (0:Int))) [(1048576:Int)],List.foldl (fun a b=>if b<a then b else a) (IntKind.i64.wrap (v0+IntKind.i64.wrap (List.foldl (fun a b=>if b<a then b else a) (IntKind.i64.wrap (v2.getD 0 (0:Int)+v2.getD 1 (0:Int))) [(1048576:Int)]*List.foldl (fun a b=>if b<a then b else a) v3 [(1048576:Int)]))) [(1048576:Int)]))))))))):=by kernel_rfl
theorem z11r(m:Nat)(r:Rel)(db:List Data)(v0:Int)(v3:Int)(v5:Int)(v2:List Int)(v6:Int):zh9 m (za3 r db v0 v3 v5 v2 v6)=obO (0≤v5∧v5<(↑r.aggs.length:Int)) (cndO (decide (v6<(↑(Agg.t (r.aggs.getD v5.toNat zq)).length:Int))) (obO (0≤v5∧v5<(↑r.aggs.length:Int)) (obO (0≤v6∧v6<(↑(Agg.t (r.aggs.getD v5.toNat zq)).length:Int)) (obO ((2:Nat)*(Term.ids ((Agg.t (r.aggs.getD v5.toNat zq)).getD v6.toNat zb)).ht<m) (obO ((Term.ids ((Agg.t (r.aggs.getD v5.toNat zq)).getD v6.toNat zb)).sz≤(2000000:Nat)) (zh9 m (za3 r db v0 (IntKind.i64.wrap (v3+zh7 (Term.ids ((Agg.t (r.aggs.getD v5.toNat zq)).getD v6.toNat zb)) db)) v5 v2 (IntKind.i64.wrap (v6+1)))))))) (some (.exit 6,(za3 r db v0 v3 v5 v2 v6)))):=(zc0 (z43 17) z11l _).trans (by kernel_rfl)
theorem z1e2(m:Nat)(r:Rel)(db:List Data)(v0:Int)(v3:Int)(v5:Int)(v2:List Int)(v6:Int):z11o m (.exit 6) (za3 r db v0 v3 v5 v2 v6)=zcz m (za2 r db v0 v3 v2 (IntKind.i64.wrap (v5+1))):=by kernel_rfl
theorem z1nv(m:Nat)(r:Rel)(db:List Data)(hr:WS .rel r)(_hd:WL .data db)(hm:2*r.ht+1<m+1)(h:r.sz≤2000000):z166 m r db=some (z80 (z6n r db)):=by
 obtain⟨p1,p2⟩:=zvw r;have hkl:=z13x r.kids;have h3:=r.sz_eq
 obtain⟨lp,_⟩:=z1j (e:=.exit 0) (L:=zje m) (st:=fun(p:Int×List Int) i=>zb2 r db p.1 i p.2) (l:=r.kids) (d:=za) (g:=fun p k=>(addI p.1 (wghR db k).2,p.2++[(wghR db k).1])) (fun i p=>p.2.length=i) (hr.rel_kids).len
  (fun p i k hi hk hI=>by
   have hmem:k∈r.kids:=by grind
   have h1:=Rel.ht_kid hmem;have h2:=z9x hmem;have hc:zej r db (i:Int)=wghR db k:=by unfold zej z6n;rw[y5,hk];exact congrArg (wghR db) (by cases k;rfl)
   refine⟨by grind,?_⟩;rw[z167];simp only[hc,z8,hi,decide_true,if_true,and_true,y5,hk,Rel.ids_eq];rw[z6 (by omega),z6 (by omega),z6 (by omega),z6 (by grind[ze,List.length_singleton])]
   rfl)
  (fun n _=>by rw[z167];simp[z8]) (0,[]) rfl
 rw[z1xg]at lp
 have lq:=fun(n:Int)(x:List Int)=>za0 (e:=.exit 2) (L:=zh8 m) (st:=fun(a:Int) i=>za1 r db n x a i) (l:=r.terms) (d:=zb) (fun n k=>addI n (wghT db k)) (hr.rel_terms).len
  (fun a i k hi hk hmem=>by
   obtain⟨h1,h2⟩:=p1 k hmem;rw[z11p];simp only[z8,hi,decide_true,if_true,and_true,y5,hk,Term.ids_eq];rw[z6 (by omega),z6 (by omega),z6 (by omega)]
   rfl)
  (fun n=>by rw[z11p];simp[z8]) 1
 have ls:=fun(n:Int)(x:List Int)=>za0 (e:=.exit 4) (L:=zcz m) (st:=fun(a:Int) i=>za2 r db n a x i) (l:=r.aggs) (d:=zq) (fun n a=>zm8 db n a.t) (hr.rel_aggs).len
  (fun a i k hi hk hmem=>by
   have li:=za0 (e:=.exit 6) (L:=zh9 m) (st:=fun(a:Int) j=>za3 r db n a i x j) (l:=k.t) (d:=zb) (fun n k=>addI n (wghT db k)) (by have:=z60 k.t;have:=zoc hmem;have:=k.sz_eq;omega)
    (fun a j t hj ht htm=>by
     obtain⟨h1,h2⟩:=p2 k hmem t htm;rw[z11r];simp only[hk,z8,hi,hj,decide_true,if_true,and_true,y5,ht,Term.ids_eq];rw[z6 (by omega),z6 (by omega),z6 (by omega),z6 (by omega),z6 (by omega)]
     rfl)
    (fun n=>by rw[z11r];simp_all[z8,y5,decide_eq_true_eq,z6,if_neg]) a
   rw[zm9]at li;rw[z11q];simp only[z8,hi,decide_true,if_true]
   grind[zj,trans,z1e2])
  (fun n=>by rw[z11q];simp[z8]) (zm8 db 1 r.terms)
 rw[z1zx];refine(zj lp).trans ?_;rw[z1jf];refine(zj (lq _ _)).trans ?_;rw[zm9,z1e0];refine(zj (ls _ _)).trans ?_;rw[z1nt,z1e1,z6n,z2bc,yw];generalize(r.kids.map fun k=>(wghR db k).1)=x;unfold z19c zsm;simp only[z8,beq_iff_eq];by_cases c1:r.op=1
 ·rw[if_pos c1,if_pos c1];rfl
 rw[if_neg c1,if_neg c1];by_cases c2:x.length=0
 ·rw[if_pos (by omega),if_pos c2];rfl
 rw[if_neg (by omega),if_neg c2];by_cases c3:x.length=1
 ·rw[if_pos (by omega),if_pos c3,z6 (by omega)];rfl
 rw[if_neg (by omega),if_neg c3];by_cases c5:r.op=5
 ·rw[if_pos c5,if_pos (.inl c5),z6 (by omega),z6 (by omega)];rfl
 by_cases c6:r.op=6
 ·rw[if_neg c5,if_pos c6,if_pos (.inr c6),z6 (by omega),z6 (by omega)];rfl
 rw[if_neg c5,if_neg c6,if_neg (by omega),z6 (by omega),z6 (by omega)];rfl
theorem z1to(m:Nat)(hG:z19d m):FnOK 29 (zjb (m+1)):=fnK2 zt zr (M:=(z5k m)) rfl ⟨hG.2,hG.1,z28v,trivial⟩ trivial trivial trivial trivial Tryz.func29 fun r db=>GiF.r fun w o=>z1nv m r db (wfA_ w 0) (wfA_ w 1) (obA_ o 0) (obA_ o 1)
theorem zsn:∀m,z19d m
 |0=>⟨fnZ2,fnZ2⟩
 |m+1=>⟨z1tn m (zsn m),z1to m (zsn m)⟩
def zma:FnC Un:=fnF2 (dS .rel) (dL .data) fun r db=>([r.sz≤2000000],z80 (z6n r db))
theorem z168:FnOK 29 zma:=fnA2 fun m=>(zsn m).2
def hd1(r:Rel):Int:=if r.kids.length>1 then 2 else IntKind.i64.wrap (1+(r.rows.length:Int))
mutual
def sizT:Term→Int
 | .mk _ _ _ _ _ kids sub _=>z1nx (zha 0 kids) sub
def zha:Int→List Term→Int
 |n,[]=>n
 |n,t::l=>zha (addI n (sizT t)) l
def sizA:Int→Agg→Int
 |n,.mk _ _ t=>zha n t
def z1nw:Int→List Agg→Int
 |n,[]=>n
 |n,a::l=>z1nw (sizA n a) l
def sizR:Rel→Int
 | .mk _ _ _ kids terms aggs _ _ _ _ rows=>z1nw (zha (z14d (if kids.length>1 then 2 else IntKind.i64.wrap (1+(rows.length:Int))) kids) terms) aggs
def z14d:Int→List Rel→Int
 |n,[]=>n
 |n,r::l=>z14d (addI n (sizR r)) l
def z1nx:Int→List Rel→Int
 |n,[]=>n
 |n,r::l=>z1nx (addI (addI n 4) (sizR r)) l
end
theorem zu0:∀(l:List Term)(n:Int),l.foldl (fun n t=>addI n (sizT t)) n=zha n l
 |[],n=>by rfl
 |t::l,n=>by rw[yx,zu0 l,zha]
theorem z1ny:∀(l:List Rel)(n:Int),l.foldl (fun n t=>addI n (sizR t)) n=z14d n l
 |[],n=>by rfl
 |t::l,n=>by rw[yx,z1ny l,z14d]
theorem z1nz:∀(l:List Rel)(n:Int),l.foldl (fun n t=>addI (addI n 4) (sizR t)) n=z1nx n l
 |[],n=>by rfl
 |t::l,n=>by rw[yx,z1nz l,z1nx]
theorem z2my(n:Int)(a:Agg):sizA n a=zha n a.t:=by cases a;rfl
theorem z1o0:∀(l:List Agg)(n:Int),l.foldl (fun n a=>zha n a.t) n=z1nw n l
 |[],n=>by rfl
 |t::l,n=>by rw[yx,z1o0 l,z1nw,z2my]
theorem z2mz(t:Term):sizT t=z1nx (zha 0 t.kids) t.sub:=by cases t;rfl
theorem z2n0(r:Rel):sizR r=z1nw (zha (z14d (hd1 r) r.kids) r.terms) r.aggs:=by
 cases r;rfl
def zbk(t:Term):Int:=sizT t
def zc9(r:Rel):Int:=sizR r
def zjf(m:Nat):FnC Un:=fnF1 (dS .term) fun t=>z2o (2*t.ht) m ([t.sz≤2000000],z2c (zbk t))
def zpm(m:Nat):FnC Un:=fnF1 (dS .rel) fun r=>z2o (2*r.ht+1) m ([r.sz≤2000000],z2c (zc9 r))
def zd0(m:Nat):Mc Un:=mcF_ [(21,zjf m),(28,zpm m)] [] [] [] []
def zg8:Nat→NS:=nsF_ [(3,{ts:=bl 38 26,bs:=bl 38 2,nm:=[],cs:=true}),(7,{ts:=bl 38 42,bs:=bl 38 2,nm:=[],cs:=true})] true
def zb3(t:Term)(v0:Int)(v1:Int):S Un:=(st 38 38 152 0 [(1,ax 1),(3,ai v0),(4,ai v1)] [(1,bg .term t)] [])
def zb4(t:Term)(v0:Int)(v2:Int):S Un:=(st 38 38 152 0 [(1,ax 1),(3,ai v0),(5,ai v2)] [(1,bg .term t)] [])
def zjg(m:Nat):S Un→Option (EX Un):=lpF_ (zd0 m) zg8 Tryz.f21 [1,1,0,1,2,2] 3
def zjh(m:Nat):S Un→Option (EX Un):=lpF_ (zd0 m) zg8 Tryz.f21 [1,1,1,0,1,2,2] 7
def z169(m:Nat):Exit→S Un→Option (RF Un):=cxF_ (zd0 m) zg8 Tryz.f21 [1,1,0,1,2] [.d]
def z16a(m:Nat):Exit→S Un→Option (RF Un):=cxF_ (zd0 m) zg8 Tryz.f21 [1,1,1,0,1,2] [.d]
def z16b(m:Nat)(t:Term):Option (RF Un):=fnF_ (zd0 m) zg8 Tryz.f21 0 [.d] [.d (.agg (enc Ty.term t))]
theorem z1zy(m:Nat)(t:Term):z16b m t=(zjg m (zb3 t (0:Int) (0:Int))).bind (zd (z169 m)):=by kernel_rfl
theorem z16c(m:Nat)(t:Term)(v0:Int)(v1:Int):zjg m (zb3 t v0 v1)=cndO (decide (v1<(↑t.kids.length:Int))) (obO (0≤v1∧v1<(↑t.kids.length:Int)) (obO ((2:Nat)*(Term.ids (t.kids.getD v1.toNat zb)).ht<m) (obO ((Term.ids (t.kids.getD v1.toNat zb)).sz≤(2000000:Nat)) (zjg m (zb3 t (IntKind.i64.wrap (v0+zbk (Term.ids (t.kids.getD v1.toNat zb)))) (IntKind.i64.wrap (v1+1))))))) (some (.exit 0,(zb3 t v0 v1))):=lpQ_ (by kernel_rfl)
theorem z1jg(m:Nat)(t:Term)(v0:Int)(v1:Int):z169 m (.exit 0) (zb3 t v0 v1)=(zjh m (zb4 t v0 (0:Int))).bind (zd (z16a m)):=by kernel_rfl
theorem z16d(m:Nat)(t:Term)(v0:Int)(v2:Int):zjh m (zb4 t v0 v2)=cndO (decide (v2<(↑t.sub.length:Int))) (obO (0≤v2∧v2<(↑t.sub.length:Int)) (obO ((2:Nat)*(Rel.ids (t.sub.getD v2.toNat za)).ht+(1:Nat)<m) (obO ((Rel.ids (t.sub.getD v2.toNat za)).sz≤(2000000:Nat)) (zjh m (zb4 t (IntKind.i64.wrap (IntKind.i64.wrap (v0+4)+zc9 (Rel.ids (t.sub.getD v2.toNat za)))) (IntKind.i64.wrap (v2+1))))))) (some (.exit 2,(zb4 t v0 v2))):=lpQ_ (by kernel_rfl)
theorem z1jh(m:Nat)(t:Term)(v0:Int)(v2:Int):z16a m (.exit 2) (zb4 t v0 v2)=some (z2c (v0)):=by kernel_rfl
theorem z1o1(m:Nat)(t:Term)(ht:WS .term t)(hm:2*t.ht<m+1)(h:t.sz≤2000000):z16b m t=some (z2c (zbk t)):=by
 have lp:=za0 (e:=.exit 0) (L:=zjg m) (st:=fun(n:Int) i=>zb3 t n i) (l:=t.kids) (d:=zb) (fun n k=>addI n (sizT k)) (ht.term_kids).len
  (fun n i k hi hk hmem=>by
   have h1:=Term.ht_kid hmem;have h2:=zlz hmem;rw[z16c];simp only[z8,hi,decide_true,if_true,and_true,y5,hk,Term.ids_eq];rw[z6 (by omega),z6 (by omega),z6 (by omega)]
   rfl)
  (fun n=>by rw[z16c];simp[z8]) 0
 rw[zu0]at lp
 have lq:=za0 (e:=.exit 2) (L:=zjh m) (st:=fun(n:Int) i=>zb4 t n i) (l:=t.sub) (d:=za) (fun n k=>addI (addI n 4) (sizR k)) (ht.term_sub).len
  (fun n i k hi hk hmem=>by
   have h1:=Term.ht_sub hmem;have h2:=zm0 hmem;rw[z16d];simp only[z8,hi,decide_true,if_true,and_true,y5,hk,Rel.ids_eq];rw[z6 (by omega),z6 (by omega),z6 (by omega)]
   rfl)
  (fun n=>by rw[z16d];simp[z8]) (zha 0 t.kids)
 rw[z1nz]at lq;rw[z1zy];grind[zj,trans,z1jg,z1jh,zbk,z2mz]
abbrev z1tp(m:Nat):Prop:=FnOK 21 (zjf m)∧FnOK 28 (zpm m)
theorem z1tq(m:Nat)(hG:z1tp m):FnOK 21 (zjf (m+1)):=fnK1 zt (M:=(zd0 m)) rfl ⟨hG.1,hG.2,trivial⟩ trivial trivial trivial trivial Tryz.func21 fun t=>GiF.r fun w o=>z1o1 m t (wfA_ w 0) (obA_ o 0) (obA_ o 1)
def z7s(m:Nat):Mc Un:=mcF_ [(28,zpm m),(21,zjf m)] [] [] [] []
def z5q:Nat→NS:=nsF_ [(5,{ts:=bl 77 26,bs:=bl 77 2,nm:=[],cs:=true}),(9,{ts:=bl 77 42,bs:=bl 77 2,nm:=[],cs:=true}),(13,{ts:=bl 77 74,bs:=bl 77 2,nm:=[],cs:=true}),(16,{ts:=bl 77 202,bs:=bl 77 2,nm:=[],cs:=true})] true
def z9d(r:Rel)(v0:Int)(v1:Int):S Un:=(st 77 77 308 0 [(1,ax 1),(3,ai v0),(4,ai v1)] [(1,bg .rel r)] [])
def zf0(r:Rel)(v0:Int)(v2:Int):S Un:=(st 77 77 308 0 [(1,ax 1),(3,ai v0),(5,ai v2)] [(1,bg .rel r)] [])
def zd1(r:Rel)(v0:Int)(v3:Int):S Un:=(st 77 77 308 0 [(1,ax 1),(3,ai v0),(6,ai v3)] [(1,bg .rel r)] [])
def zd2(r:Rel)(v0:Int)(v3:Int)(v4:Int):S Un:=(st 77 77 308 0 [(1,ax 1),(3,ai v0),(6,ai v3),(7,ai v4)] [(1,bg .rel r)] [])
def zf1(m:Nat):S Un→Option (EX Un):=lpF_ (z7s m) z5q Tryz.f28 [1,1,1,0,1,2,2] 5
def zpn(m:Nat):S Un→Option (EX Un):=lpF_ (z7s m) z5q Tryz.f28 [1,1,1,1,0,1,2,2] 9
def zg9(m:Nat):S Un→Option (EX Un):=lpF_ (z7s m) z5q Tryz.f28 [1,1,1,1,1,0,1,2,2] 13
noncomputable def z19e:Code:=sub (sub (zf Tryz.f28) [1,1,1,1,1,0,1,2,2]) [1,0,2,1,2,2]
def zmc(m:Nat):S Un→Option (EX Un):=z1l (z5q 16) (fun s Q=>awf (z7s m) z5q z19e s Q)
def zpo(m:Nat):Exit→S Un→Option (RF Un):=cxF_ (z7s m) z5q Tryz.f28 [1,1,1,0,1,2] [.d]
def z1g3(m:Nat):Exit→S Un→Option (RF Un):=cxF_ (z7s m) z5q Tryz.f28 [1,1,1,1,0,1,2] [.d]
def z19f(m:Nat):Exit→S Un→Option (RF Un):=cxF_ (z7s m) z5q Tryz.f28 [1,1,1,1,1,0,1,2] [.d]
def z19g(m:Nat):Exit→S Un→Option (EX Un):=ctxF (z7s m) z5q (sub (zf Tryz.f28) [1,1,1,1,1,0,1,2,2]) [1,0,2,1,2] (zco (z5q 13) (zg9 m))
def zzs(m:Nat)(r:Rel):Option (RF Un):=fnF_ (z7s m) z5q Tryz.f28 0 [.d] [.d (.agg (enc Ty.rel r))]
theorem z28w(m:Nat)(r:Rel):zzs m r=cndO (decide ((↑r.kids.length:Int)>(1:Int))) ((zf1 m (z9d r (2:Int) (0:Int))).bind (zd (zpo m))) ((zf1 m (z9d r (IntKind.i64.wrap ((1:Int)+(↑r.rows.length:Int))) (0:Int))).bind (zd (zpo m))):=by kernel_rfl
theorem z1g4(m:Nat)(r:Rel)(v0:Int)(v1:Int):zf1 m (z9d r v0 v1)=cndO (decide (v1<(↑r.kids.length:Int))) (obO (0≤v1∧v1<(↑r.kids.length:Int)) (obO ((2:Nat)*(Rel.ids (r.kids.getD v1.toNat za)).ht+(1:Nat)<m) (obO ((Rel.ids (r.kids.getD v1.toNat za)).sz≤(2000000:Nat)) (zf1 m (z9d r (IntKind.i64.wrap (v0+zc9 (Rel.ids (r.kids.getD v1.toNat za)))) (IntKind.i64.wrap (v1+1))))))) (some (.exit 0,(z9d r v0 v1))):=lpQ_ (by kernel_rfl)
theorem z1tr(m:Nat)(r:Rel)(v0:Int)(v1:Int):zpo m (.exit 0) (z9d r v0 v1)=(zpn m (zf0 r v0 (0:Int))).bind (zd (z1g3 m)):=by kernel_rfl
theorem z1g5(m:Nat)(r:Rel)(v0:Int)(v2:Int):zpn m (zf0 r v0 v2)=cndO (decide (v2<(↑r.terms.length:Int))) (obO (0≤v2∧v2<(↑r.terms.length:Int)) (obO ((2:Nat)*(Term.ids (r.terms.getD v2.toNat zb)).ht<m) (obO ((Term.ids (r.terms.getD v2.toNat zb)).sz≤(2000000:Nat)) (zpn m (zf0 r (IntKind.i64.wrap (v0+zbk (Term.ids (r.terms.getD v2.toNat zb)))) (IntKind.i64.wrap (v2+1))))))) (some (.exit 2,(zf0 r v0 v2))):=lpQ_ (by kernel_rfl)
theorem z1ts(m:Nat)(r:Rel)(v0:Int)(v2:Int):z1g3 m (.exit 2) (zf0 r v0 v2)=(zg9 m (zd1 r v0 (0:Int))).bind (zd (z19f m)):=by kernel_rfl
theorem z19h(m:Nat)(r:Rel)(v0:Int)(v3:Int):zg9 m (zd1 r v0 v3)=cndO (decide (v3<(↑r.aggs.length:Int))) ((zmc m (zd2 r v0 v3 (0:Int))).bind (zd (z19g m))) (some (.exit 4,(zd1 r v0 v3))):=lpQ_ (by kernel_rfl)
theorem z1o2(m:Nat)(r:Rel)(v0:Int)(v3:Int):z19f m (.exit 4) (zd1 r v0 v3)=some (z2c (v0)):=by kernel_rfl
theorem z19i(m:Nat)(r:Rel)(v0:Int)(v3:Int)(v4:Int):zmc m (zd2 r v0 v3 v4)=obO (0≤v3∧v3<(↑r.aggs.length:Int)) (cndO (decide (v4<(↑(Agg.t (r.aggs.getD v3.toNat zq)).length:Int))) (obO (0≤v3∧v3<(↑r.aggs.length:Int)) (obO (0≤v4∧v4<(↑(Agg.t (r.aggs.getD v3.toNat zq)).length:Int)) (obO ((2:Nat)*(Term.ids ((Agg.t (r.aggs.getD v3.toNat zq)).getD v4.toNat zb)).ht<m) (obO ((Term.ids ((Agg.t (r.aggs.getD v3.toNat zq)).getD v4.toNat zb)).sz≤(2000000:Nat)) (zmc m (zd2 r (IntKind.i64.wrap (v0+zbk (Term.ids ((Agg.t (r.aggs.getD v3.toNat zq)).getD v4.toNat zb)))) v3 (IntKind.i64.wrap (v4+1)))))))) (some (.exit 6,(zd2 r v0 v3 v4)))):=(zc0 (z5q 16) z19e _).trans (by kernel_rfl)
theorem z1o3(m:Nat)(r:Rel)(v0:Int)(v3:Int)(v4:Int):z19g m (.exit 6) (zd2 r v0 v3 v4)=zg9 m (zd1 r v0 (IntKind.i64.wrap (v3+1))):=by kernel_rfl
theorem z1zz(m:Nat)(r:Rel)(hr:WS .rel r)(hm:2*r.ht+1<m+1)(h:r.sz≤2000000):zzs m r=some (z2c (zc9 r)):=by
 obtain⟨p1,p2⟩:=zvw r;have h3:=r.sz_eq
 have lp:=za0 (e:=.exit 0) (L:=zf1 m) (st:=fun(n:Int) i=>z9d r n i) (l:=r.kids) (d:=za) (fun n k=>addI n (sizR k)) (hr.rel_kids).len
  (fun p i k hi hk hmem=>by
   have h1:=Rel.ht_kid hmem;have h2:=z9x hmem;rw[z1g4];simp only[z8,hi,decide_true,if_true,and_true,y5,hk,Rel.ids_eq];rw[z6 (by omega),z6 (by omega),z6 (by omega)]
   rfl)
  (fun n=>by rw[z1g4];simp[z8]) (hd1 r)
 rw[z1ny]at lp
 have lq:=za0 (e:=.exit 2) (L:=zpn m) (st:=fun(a:Int) i=>zf0 r a i) (l:=r.terms) (d:=zb) (fun n k=>addI n (sizT k)) (hr.rel_terms).len
  (fun a i k hi hk hmem=>by
   obtain⟨h1,h2⟩:=p1 k hmem;rw[z1g5];simp only[z8,hi,decide_true,if_true,and_true,y5,hk,Term.ids_eq];rw[z6 (by omega),z6 (by omega),z6 (by omega)]
   rfl)
  (fun n=>by rw[z1g5];simp[z8]) (z14d (hd1 r) r.kids)
 rw[zu0]at lq
 have ls:=za0 (e:=.exit 4) (L:=zg9 m) (st:=fun(a:Int) i=>zd1 r a i) (l:=r.aggs) (d:=zq) (fun n a=>zha n a.t) (hr.rel_aggs).len
  (fun a i k hi hk hmem=>by
   have li:=za0 (e:=.exit 6) (L:=zmc m) (st:=fun(a:Int) j=>zd2 r a i j) (l:=k.t) (d:=zb) (fun n k=>addI n (sizT k)) (by have:=z60 k.t;have:=zoc hmem;have:=k.sz_eq;omega)
    (fun a j t hj ht htm=>by
     obtain⟨h1,h2⟩:=p2 k hmem t htm;rw[z19i];simp only[hk,z8,hi,hj,decide_true,if_true,and_true,y5,ht,Term.ids_eq];rw[z6 (by omega),z6 (by omega),z6 (by omega),z6 (by omega),z6 (by omega)]
     rfl)
    (fun n=>by rw[z19i];simp_all[z8,y5,decide_eq_true_eq,z6,if_neg]) a
   rw[zu0]at li;rw[z19h];simp only[z8,hi,decide_true,if_true]
   grind[zj,trans,z1o3])
  (fun n=>by rw[z19h];simp[z8]) (zha (z14d (hd1 r) r.kids) r.terms)
 rw[z1o0]at ls;have e:zzs m r=(zf1 m (z9d r (hd1 r) (0:Int))).bind (zd (zpo m)):=by
  rw[z28w,z8];unfold hd1;grind
 rw[e];refine(zj lp).trans ?_;rw[z1tr];grind[zj,trans,z1ts,z1o2,zc9,z2n0]
theorem z245(m:Nat)(hG:z1tp m):FnOK 28 (zpm (m+1)):=fnK1 zt (M:=(z7s m)) rfl ⟨hG.2,hG.1,trivial⟩ trivial trivial trivial trivial Tryz.func28 fun r=>GiF.r fun w o=>z1zz m r (wfA_ w 0) (obA_ o 0) (obA_ o 1)
theorem zpp:∀m,z1tp m
 |0=>⟨fnZ1,fnZ1⟩
 |m+1=>⟨z1tq m (zpp m),z245 m (zpp m)⟩
def zvy:FnC Un:=fnF1 (dS .term) fun t=>([t.sz≤2000000],z2c (zbk t))
theorem z200:FnOK 21 zvy:=fnA1 fun m=>(zpp m).1
def zu2:FnC Un:=fnF1 (dS .rel) fun r=>([r.sz≤2000000],z2c (zc9 r))
theorem z1g6:FnOK 28 zu2:=fnA1 fun m=>(zpp m).2
end
end B
namespace B
open Go Go.RowKit
set_option maxRecDepth 100000
noncomputable section
attribute [local irreducible] awp ctxK zw z1a retQ z1m awf ctxF z1l
def z1ji:Nat→NS:=nsF_ [(4,{ts:=bl 41 51,bs:=bl 41 0,nm:=[],cs:=true})] true
def zbl(x:List Val)(cols:List Col)(v0:Int):S Un:=(st 41 41 164 0 [(0,al .val x),(1,al .col cols),(4,ab false),(5,ai v0)] [] [])
def zrk:S Un→Option (EX Un):=lpF_ ztn z1ji Tryz.f79 [1,1,0,1,2,2] 4
def zxn:Exit→S Un→Option (RF Un):=cxF_ ztn z1ji Tryz.f79 [1,1,0,1,2] [.d]
def z1xh(x:List Val)(cols:List Col):Option (RF Un):=fnF_ ztn z1ji Tryz.f79 0 [.d] [.d (.v (.dat (U:=Un) Ty.val x)),.d (.v (.dat (U:=Un) Ty.col cols))]
theorem z2gs(x:List Val)(cols:List Col):z1xh x cols=cndO ((↑x.length:Int) !=(↑cols.length:Int)) (some (z9b (false))) (cndO (!ze0 x) (some (z9b (false))) ((zrk (zbl x cols (0:Int))).bind (zd zxn))):=by kernel_rfl
theorem z1xi(x:List Val)(cols:List Col)(v0:Int):zrk (zbl x cols v0)=cndO (decide (v0<(↑x.length:Int))) (obO (0≤v0∧v0<(↑x.length:Int)) (cndO ((x.getD v0.toNat z7).kind !=0) (obO (0≤v0∧v0<(↑x.length:Int)) (obO (0≤v0∧v0<(↑cols.length:Int)) (cndO ((x.getD v0.toNat z7).kind !=(cols.getD v0.toNat z9t).type) (some (.ret,(zbl x cols v0))) (zrk (zbl x cols (IntKind.i64.wrap (v0+1))))))) (zrk (zbl x cols (IntKind.i64.wrap (v0+1)))))) (some (.exit 0,(zbl x cols v0))):=lpQ_ (by kernel_rfl)
theorem z201(x:List Val)(cols:List Col)(v0:Int):zxn .ret (zbl x cols v0)=some (z9b (false)):=by kernel_rfl
theorem z246(x:List Val)(cols:List Col)(v0:Int):zxn (.exit 0) (zbl x cols v0)=some (z9b (true)):=by kernel_rfl
def z2d5(x:List Val)(cols:List Col)(i:Nat):Bool:=(x.getD i z7).kind ==0||(x.getD i z7).kind ==(cols.getD i z9t).type
def z8y(x:List Val)(cols:List Col):Bool:=decide (x.length=cols.length)&&x.all z7x&&(List.range x.length).all (z2d5 x cols)
theorem z28x(x:List Val)(cols:List Col)(hx:WL .val x)(_hc:WL .col cols):z1xh x cols=some (z9b (z8y x cols)):=by
 have hlen:=hx.len;rw[z2gs];unfold z8y;by_cases c:x.length=cols.length
 ·rw[z8,if_neg (by grind),decide_eq_true c,y1b];have e:ze0 x=x.all z7x:=rfl;rw[e];cases x.all z7x
  ·rfl
  ·refine Eq.trans ?_ (z2x (L:=zrk) (st:=fun i=>zbl x cols i) (C:=zxn) (e:=.exit 0) (fun b=>some (z9b b)) (l:=List.range x.length) (d:=0) (z2d5 x cols) (by grind)
    (fun i k hi hk _=>by
     rw[y2w]at hi;rw[z1xi];simp only[z8,hi,decide_true,if_true,and_true,y5];rw[z6 (by omega),z6 (by omega),z6 (by omega)];unfold z2d5
     grind)
    (by rw[y2w,z1xi];simp[z8]) (fun i=>z201 _ _ _) (fun i=>z246 _ _ _))
   rfl
 ·rw[z8,if_pos (by grind),decide_eq_false c];rfl
def z1jj:FnC Un:=fnF2 (dL .val) (dL .col) fun x cols=>([],z9b (z8y x cols))
theorem z1xj:FnOK 79 z1jj:=fnK2 zr zr (M:=ztn) rfl ⟨z15u,trivial⟩ trivial trivial trivial trivial Tryz.func79 fun x cols=>GiF.r fun w _=>z28x x cols (wfA_ w 0) (wfA_ w 1)
def zhb:Mc Un:=mcF_ [(79,z1jj)] [] [] [] []
def zbm:Nat→NS:=nsF_ [(2,{ts:=bl 43 54,bs:=bl 43 4,nm:=[],cs:=true}),(6,{ts:=bl 43 118,bs:=bl 43 4,nm:=[],cs:=true})] true
def z5l(r:Rel)(db:List Data)(v0:Int):S Un:=(st 43 43 172 0 [(1,al .data db),(2,ax 2),(4,ab false),(5,ai v0)] [(2,bg .rel r)] [])
def z9e(r:Rel)(db:List Data)(v0:Int)(v1:Int):S Un:=(st 43 43 172 0 [(1,al .data db),(2,ax 2),(4,ab false),(5,ai v0),(6,ai v1)] [(2,bg .rel r)] [])
def zca:S Un→Option (EX Un):=lpF_ zhb zbm Tryz.f78 [1,0,1,2,2] 2
noncomputable def z1g7:Code:=sub (sub (zf Tryz.f78) [1,0,1,2,2]) [1,0,2,1,1,2,2]
def zpq:S Un→Option (EX Un):=z1l (zbm 6) (fun s Q=>awf zhb zbm z1g7 s Q)
def zpr:Exit→S Un→Option (RF Un):=cxF_ zhb zbm Tryz.f78 [1,0,1,2] [.d]
def zps:Exit→S Un→Option (EX Un):=ctxF zhb zbm (sub (zf Tryz.f78) [1,0,1,2,2]) [1,0,2,1,1,2] (zco (zbm 2) zca)
def z1g8(r:Rel)(db:List Data):Option (RF Un):=fnF_ zhb zbm Tryz.f78 0 [.d] [.d (.agg (enc Ty.rel r)),.d (.v (.dat (U:=Un) Ty.data db))]
theorem z28y(r:Rel)(db:List Data):z1g8 r db=(zca (z5l r db (0:Int))).bind (zd zpr):=by kernel_rfl
theorem z1g9(r:Rel)(db:List Data)(v0:Int):zca (z5l r db v0)=cndO (decide (v0<(↑db.length:Int))) (obO (0≤v0∧v0<(↑db.length:Int)) (cndO (!(db.getD v0.toNat z38).table.toList ==r.table.toList) (zca (z5l r db (IntKind.i64.wrap (v0+1)))) ((zpq (z9e r db v0 (0:Int))).bind (zd zps)))) (some (.exit 0,(z5l r db v0))):=lpQ_ (by kernel_rfl)
theorem z1tt(r:Rel)(db:List Data)(v0:Int):zpr (.exit 0) (z5l r db v0)=some (z9b (true)):=by kernel_rfl
theorem z1ga(r:Rel)(db:List Data)(v0:Int)(v1:Int):zpq (z9e r db v0 v1)=obO (0≤v0∧v0<(↑db.length:Int)) (cndO (decide (v1<(↑(db.getD v0.toNat z38).rows.length:Int))) (obO (0≤v0∧v0<(↑db.length:Int)) (obO (0≤v1∧v1<(↑(db.getD v0.toNat z38).rows.length:Int)) (cndO (!z8y ((db.getD v0.toNat z38).rows.getD v1.toNat []) r.cols) (some (.ret,(z9e r db v0 v1))) (zpq (z9e r db v0 (IntKind.i64.wrap (v1+1))))))) (some (.exit 2,(z9e r db v0 v1)))):=(zc0 (zbm 6) z1g7 _).trans (by kernel_rfl)
theorem z1o4(r:Rel)(db:List Data)(v0:Int)(v1:Int):zps .ret (z9e r db v0 v1)=some (.ret,(z5l r db v0)):=by kernel_rfl
theorem z1o5(r:Rel)(db:List Data)(v0:Int):zpr .ret (z5l r db v0)=some (z9b (false)):=by kernel_rfl
theorem z1tu(r:Rel)(db:List Data)(v0:Int)(v1:Int):zps (.exit 2) (z9e r db v0 v1)=zca (z5l r db (IntKind.i64.wrap (v0+1))):=by kernel_rfl
def zof(r:Rel)(db:List Data):Bool:=db.all fun d=>!(d.table.toList==r.table.toList)||d.rows.all fun x=>z8y x r.cols
theorem z202(r:Rel)(db:List Data)(_hr:WS .rel r)(hd:WL .data db):z1g8 r db=some (z9b (zof r db)):=by
 rw[z28y]
 exact z2x (L:=zca) (st:=fun i=>z5l r db i) (C:=zpr) (e:=.exit 0) (fun b=>some (z9b b)) (l:=db) (d:=z38) (fun d=>!(d.table.toList==r.table.toList)||d.rows.all fun x=>z8y x r.cols) hd.len
  (fun i d hi hk hmem=>by
   have li:=z2x (L:=zpq) (st:=fun j=>z9e r db i j) (C:=zps) (e:=.exit 2) (fun b=>if b=true then zca (z5l r db (IntKind.i64.wrap ((i:Int)+1)))else some (.ret,z5l r db i)) (l:=d.rows) (d:=[]) (fun x=>z8y x r.cols) (WS.data_rows (WL.get hd hmem)).len
    (fun j x hj hx _=>by
     rw[z1ga];simp only[z8,hi,y5,hk,hj,hx,decide_true,if_true,and_true]
     grind[z6,z8y])
    (by rw[z1ga];simp_all[z8,y5,decide_eq_true_eq,z6,if_neg]) (fun j=>z1o4 _ _ _ _) (fun j=>z1tu _ _ _ _)
   rw[z1g9];simp only[z8,hi,y5,hk,decide_true,if_true,and_true]
   grind[z6])
  (by rw[z1g9];simp[z8]) (fun i=>z1o5 _ _ _) (fun i=>z1tt _ _ _)
def z1o6:FnC Un:=fnF2 (dS .rel) (dL .data) fun r db=>([],z9b (zof r db))
theorem z28z:FnOK 78 z1o6:=fnK2 zt zr (M:=zhb) rfl ⟨z1xj,trivial⟩ trivial trivial trivial trivial Tryz.func78 fun r db=>GiF.r fun w _=>z202 r db (wfA_ w 0) (wfA_ w 1)
mutual
def fitT(db:List Data):Term→Bool
 | .mk _ _ _ _ _ kids sub _=>z14f db kids&&z1o7 db sub
def z14f(db:List Data):List Term→Bool
 |[]=>true
 |t::l=>fitT db t&&z14f db l
def fitA(db:List Data):Agg→Bool
 | .mk _ _ t=>z14f db t
def z21v(db:List Data):List Agg→Bool
 |[]=>true
 |a::l=>fitA db a&&z21v db l
def fitR(db:List Data):Rel→Bool
 | .mk op table cols kids terms aggs keys limit skip all rows=>if op=1 then zof (.mk op table cols kids terms aggs keys limit skip all rows) db else z1o7 db kids&&(z14f db terms&&z21v db aggs)
def z1o7(db:List Data):List Rel→Bool
 |[]=>true
 |r::l=>fitR db r&&z1o7 db l
end
theorem zxo(db:List Data):∀l:List Term,z14f db l=l.all fun t=>fitT db t
 |[]=>by rfl
 |t::l=>by simp only[z14f,y1h,zxo db l]
theorem z19j(db:List Data):∀l:List Rel,z1o7 db l=l.all fun t=>fitR db t
 |[]=>by rfl
 |t::l=>by simp only[z1o7,y1h,z19j db l]
theorem z2n1(db:List Data)(a:Agg):fitA db a=z14f db a.t:=by cases a;rfl
theorem z1xk(db:List Data):∀l:List Agg,z21v db l=l.all fun a=>a.t.all fun t=>fitT db t
 |[]=>by rfl
 |t::l=>by simp only[z21v,y1h,z1xk db l,z2n1,zxo]
theorem z1tv(db:List Data)(t:Term):fitT db t=(t.kids.all (fun t=>fitT db t)&&t.sub.all fun t=>fitR db t):=by cases t;simp only[fitT,zxo,z19j,Term.kids_mk,Term.sub_mk]
theorem z1dd(db:List Data)(r:Rel):fitR db r=if r.op=1 then zof r db else r.kids.all (fun t=>fitR db t)&&(r.terms.all (fun t=>fitT db t)&&r.aggs.all fun a=>a.t.all fun t=>fitT db t):=by
 cases r;simp only[fitR,zxo,z19j,z1xk,Rel.op_mk,Rel.kids_mk,Rel.terms_mk,Rel.aggs_mk];rfl
def zaf(t:Term)(db:List Data):Bool:=fitT db t
def zcb(r:Rel)(db:List Data):Bool:=fitR db r
def zpt(m:Nat):FnC Un:=fnF2 (dS .term) (dL .data) fun t db=>z2o (2*t.ht) m ([t.sz≤2000000],z9b (zaf t db))
def zpu(m:Nat):FnC Un:=fnF2 (dS .rel) (dL .data) fun r db=>z2o (2*r.ht+1) m ([r.sz≤2000000],z9b (zcb r db))
def zhc(m:Nat):Mc Un:=mcF_ [(20,zpt m),(41,zpu m)] [] [] [] []
def zme:Nat→NS:=nsF_ [(2,{ts:=bl 37 54,bs:=bl 37 4,nm:=[],cs:=true}),(7,{ts:=bl 37 86,bs:=bl 37 4,nm:=[],cs:=true})] true
def z9f(t:Term)(db:List Data)(v0:Int):S Un:=(st 37 37 148 0 [(1,al .data db),(2,ax 2),(4,ab false),(5,ai v0)] [(2,bg .term t)] [])
def z9g(t:Term)(db:List Data)(v1:Int):S Un:=(st 37 37 148 0 [(1,al .data db),(2,ax 2),(4,ab false),(6,ai v1)] [(2,bg .term t)] [])
def zpv(m:Nat):S Un→Option (EX Un):=lpF_ (zhc m) zme Tryz.f20 [1,0,1,2,2] 2
def zpw(m:Nat):S Un→Option (EX Un):=lpF_ (zhc m) zme Tryz.f20 [1,1,0,1,2,2] 7
def zpx(m:Nat):Exit→S Un→Option (RF Un):=cxF_ (zhc m) zme Tryz.f20 [1,0,1,2] [.d]
def zpy(m:Nat):Exit→S Un→Option (RF Un):=cxF_ (zhc m) zme Tryz.f20 [1,1,0,1,2] [.d]
def z1gb(m:Nat)(t:Term)(db:List Data):Option (RF Un):=fnF_ (zhc m) zme Tryz.f20 0 [.d] [.d (.agg (enc Ty.term t)),.d (.v (.dat (U:=Un) Ty.data db))]
theorem z290(m:Nat)(t:Term)(db:List Data):z1gb m t db=(zpv m (z9f t db (0:Int))).bind (zd (zpx m)):=by kernel_rfl
theorem z1gc(m:Nat)(t:Term)(db:List Data)(v0:Int):zpv m (z9f t db v0)=cndO (decide (v0<(↑t.kids.length:Int))) (obO (0≤v0∧v0<(↑t.kids.length:Int)) (obO ((2:Nat)*(Term.ids (t.kids.getD v0.toNat zb)).ht<m) (obO ((Term.ids (t.kids.getD v0.toNat zb)).sz≤(2000000:Nat)) (cndO (!zaf (Term.ids (t.kids.getD v0.toNat zb)) db) (some (.ret,(z9f t db v0))) (zpv m (z9f t db (IntKind.i64.wrap (v0+1)))))))) (some (.exit 0,(z9f t db v0))):=lpQ_ (by kernel_rfl)
theorem z1o8(m:Nat)(t:Term)(db:List Data)(v0:Int):zpx m .ret (z9f t db v0)=some (z9b (false)):=by kernel_rfl
theorem z1tw(m:Nat)(t:Term)(db:List Data)(v0:Int):zpx m (.exit 0) (z9f t db v0)=(zpw m (z9g t db (0:Int))).bind (zd (zpy m)):=by kernel_rfl
theorem z1gd(m:Nat)(t:Term)(db:List Data)(v1:Int):zpw m (z9g t db v1)=cndO (decide (v1<(↑t.sub.length:Int))) (obO (0≤v1∧v1<(↑t.sub.length:Int)) (obO ((2:Nat)*(Rel.ids (t.sub.getD v1.toNat za)).ht+(1:Nat)<m) (obO ((Rel.ids (t.sub.getD v1.toNat za)).sz≤(2000000:Nat)) (cndO (!zcb (Rel.ids (t.sub.getD v1.toNat za)) db) (some (.ret,(z9g t db v1))) (zpw m (z9g t db (IntKind.i64.wrap (v1+1)))))))) (some (.exit 2,(z9g t db v1))):=lpQ_ (by kernel_rfl)
theorem z1o9(m:Nat)(t:Term)(db:List Data)(v1:Int):zpy m .ret (z9g t db v1)=some (z9b (false)):=by kernel_rfl
theorem z1tx(m:Nat)(t:Term)(db:List Data)(v1:Int):zpy m (.exit 2) (z9g t db v1)=some (z9b (true)):=by kernel_rfl
theorem z203(m:Nat)(t:Term)(db:List Data)(ht:WS .term t)(_hd:WL .data db)(hm:2*t.ht<m+1)(h:t.sz≤2000000):z1gb m t db=some (z9b (zaf t db)):=by
 have lq:=z2x (L:=zpw m) (st:=fun i=>z9g t db i) (C:=zpy m) (e:=.exit 2) (fun b=>some (z9b b)) (l:=t.sub) (d:=za) (fun t=>fitR db t) (ht.term_sub).len
  (fun i k hi hk hmem=>by
   have h1:=Term.ht_sub hmem;have h2:=zm0 hmem;rw[z1gd];simp only[z8,hi,decide_true,if_true,and_true,y5,hk,Rel.ids_eq]
   grind[z6,zcb,fitR])
  (by rw[z1gd];simp[z8]) (fun i=>z1o9 _ _ _ _) (fun i=>z1tx _ _ _ _)
 rw[z290]
 refine(z2x (L:=zpv m) (st:=fun i=>z9f t db i) (C:=zpx m) (e:=.exit 0) (fun b=>some (z9b (b&&t.sub.all fun t=>fitR db t))) (l:=t.kids) (d:=zb) (fun t=>fitT db t) (ht.term_kids).len
  (fun i k hi hk hmem=>by
   have h1:=Term.ht_kid hmem;have h2:=zlz hmem;rw[z1gc];simp only[z8,hi,decide_true,if_true,and_true,y5,hk,Term.ids_eq]
   grind[z6,zaf,fitT])
  (by rw[z1gc];simp[z8]) (fun i=>by simp[y1w,z1o8]) (fun i=>by simp_all[y1b,z1tw,trans])).trans ?_
 rw[zaf,z1tv]
abbrev z1ty(m:Nat):Prop:=FnOK 20 (zpt m)∧FnOK 41 (zpu m)
theorem z247(m:Nat)(hG:z1ty m):FnOK 20 (zpt (m+1)):=fnK2 zt zr (M:=(zhc m)) rfl ⟨hG.1,hG.2,trivial⟩ trivial trivial trivial trivial Tryz.func20 fun t db=>GiF.r fun w o=>z203 m t db (wfA_ w 0) (wfA_ w 1) (obA_ o 0) (obA_ o 1)
def z7t(m:Nat):Mc Un:=mcF_ [(78,z1o6),(41,zpu m),(20,zpt m)] [] [] [] []
def z5r:Nat→NS:=nsF_ [(4,{ts:=bl 75 54,bs:=bl 75 4,nm:=[],cs:=true}),(9,{ts:=bl 75 86,bs:=bl 75 4,nm:=[],cs:=true}),(14,{ts:=bl 75 150,bs:=bl 75 4,nm:=[],cs:=true}),(17,{ts:=bl 75 406,bs:=bl 75 4,nm:=[],cs:=true})] true
def z9h(r:Rel)(db:List Data)(v0:Int):S Un:=(st 75 75 300 0 [(1,al .data db),(2,ax 2),(4,ab false),(5,ai v0)] [(2,bg .rel r)] [])
def z9i(r:Rel)(db:List Data)(v1:Int):S Un:=(st 75 75 300 0 [(1,al .data db),(2,ax 2),(4,ab false),(6,ai v1)] [(2,bg .rel r)] [])
def z5m(r:Rel)(db:List Data)(v2:Int):S Un:=(st 75 75 300 0 [(1,al .data db),(2,ax 2),(4,ab false),(7,ai v2)] [(2,bg .rel r)] [])
def z81(r:Rel)(db:List Data)(v2:Int)(v3:Int):S Un:=(st 75 75 300 0 [(1,al .data db),(2,ax 2),(4,ab false),(7,ai v2),(8,ai v3)] [(2,bg .rel r)] [])
def zpz(m:Nat):S Un→Option (EX Un):=lpF_ (z7t m) z5r Tryz.f41 [1,1,0,1,2,2] 4
def zq0(m:Nat):S Un→Option (EX Un):=lpF_ (z7t m) z5r Tryz.f41 [1,1,1,0,1,2,2] 9
def zd3(m:Nat):S Un→Option (EX Un):=lpF_ (z7t m) z5r Tryz.f41 [1,1,1,1,0,1,2,2] 14
noncomputable def z19k:Code:=sub (sub (zf Tryz.f41) [1,1,1,1,0,1,2,2]) [1,0,2,1,2,2]
def zmf(m:Nat):S Un→Option (EX Un):=z1l (z5r 17) (fun s Q=>awf (z7t m) z5r z19k s Q)
def zq1(m:Nat):Exit→S Un→Option (RF Un):=cxF_ (z7t m) z5r Tryz.f41 [1,1,0,1,2] [.d]
def zq2(m:Nat):Exit→S Un→Option (RF Un):=cxF_ (z7t m) z5r Tryz.f41 [1,1,1,0,1,2] [.d]
def zmg(m:Nat):Exit→S Un→Option (RF Un):=cxF_ (z7t m) z5r Tryz.f41 [1,1,1,1,0,1,2] [.d]
def zmh(m:Nat):Exit→S Un→Option (EX Un):=ctxF (z7t m) z5r (sub (zf Tryz.f41) [1,1,1,1,0,1,2,2]) [1,0,2,1,2] (zco (z5r 14) (zd3 m))
def z1ge(m:Nat)(r:Rel)(db:List Data):Option (RF Un):=fnF_ (z7t m) z5r Tryz.f41 0 [.d] [.d (.agg (enc Ty.rel r)),.d (.v (.dat (U:=Un) Ty.data db))]
theorem z291(m:Nat)(r:Rel)(db:List Data):z1ge m r db=cndO (r.op==1) (some (z9b (zof (Rel.ids r) db))) ((zpz m (z9h r db (0:Int))).bind (zd (zq1 m))):=by kernel_rfl
theorem z1gf(m:Nat)(r:Rel)(db:List Data)(v0:Int):zpz m (z9h r db v0)=cndO (decide (v0<(↑r.kids.length:Int))) (obO (0≤v0∧v0<(↑r.kids.length:Int)) (obO ((2:Nat)*(Rel.ids (r.kids.getD v0.toNat za)).ht+(1:Nat)<m) (obO ((Rel.ids (r.kids.getD v0.toNat za)).sz≤(2000000:Nat)) (cndO (!zcb (Rel.ids (r.kids.getD v0.toNat za)) db) (some (.ret,(z9h r db v0))) (zpz m (z9h r db (IntKind.i64.wrap (v0+1)))))))) (some (.exit 0,(z9h r db v0))):=lpQ_ (by kernel_rfl)
theorem z1oa(m:Nat)(r:Rel)(db:List Data)(v0:Int):zq1 m .ret (z9h r db v0)=some (z9b (false)):=by kernel_rfl
theorem z1tz(m:Nat)(r:Rel)(db:List Data)(v0:Int):zq1 m (.exit 0) (z9h r db v0)=(zq0 m (z9i r db (0:Int))).bind (zd (zq2 m)):=by kernel_rfl
theorem z1gg(m:Nat)(r:Rel)(db:List Data)(v1:Int):zq0 m (z9i r db v1)=cndO (decide (v1<(↑r.terms.length:Int))) (obO (0≤v1∧v1<(↑r.terms.length:Int)) (obO ((2:Nat)*(Term.ids (r.terms.getD v1.toNat zb)).ht<m) (obO ((Term.ids (r.terms.getD v1.toNat zb)).sz≤(2000000:Nat)) (cndO (!zaf (Term.ids (r.terms.getD v1.toNat zb)) db) (some (.ret,(z9i r db v1))) (zq0 m (z9i r db (IntKind.i64.wrap (v1+1)))))))) (some (.exit 2,(z9i r db v1))):=lpQ_ (by kernel_rfl)
theorem z1ob(m:Nat)(r:Rel)(db:List Data)(v1:Int):zq2 m .ret (z9i r db v1)=some (z9b (false)):=by kernel_rfl
theorem z1u0(m:Nat)(r:Rel)(db:List Data)(v1:Int):zq2 m (.exit 2) (z9i r db v1)=(zd3 m (z5m r db (0:Int))).bind (zd (zmg m)):=by kernel_rfl
theorem z19l(m:Nat)(r:Rel)(db:List Data)(v2:Int):zd3 m (z5m r db v2)=cndO (decide (v2<(↑r.aggs.length:Int))) ((zmf m (z81 r db v2 (0:Int))).bind (zd (zmh m))) (some (.exit 4,(z5m r db v2))):=lpQ_ (by kernel_rfl)
theorem z1oc(m:Nat)(r:Rel)(db:List Data)(v2:Int):zmg m (.exit 4) (z5m r db v2)=some (z9b (true)):=by kernel_rfl
theorem z19m(m:Nat)(r:Rel)(db:List Data)(v2:Int)(v3:Int):zmf m (z81 r db v2 v3)=obO (0≤v2∧v2<(↑r.aggs.length:Int)) (cndO (decide (v3<(↑(Agg.t (r.aggs.getD v2.toNat zq)).length:Int))) (obO (0≤v2∧v2<(↑r.aggs.length:Int)) (obO (0≤v3∧v3<(↑(Agg.t (r.aggs.getD v2.toNat zq)).length:Int)) (obO ((2:Nat)*(Term.ids ((Agg.t (r.aggs.getD v2.toNat zq)).getD v3.toNat zb)).ht<m) (obO ((Term.ids ((Agg.t (r.aggs.getD v2.toNat zq)).getD v3.toNat zb)).sz≤(2000000:Nat)) (cndO (!zaf (Term.ids ((Agg.t (r.aggs.getD v2.toNat zq)).getD v3.toNat zb)) db) (some (.ret,(z81 r db v2 v3))) (zmf m (z81 r db v2 (IntKind.i64.wrap (v3+1))))))))) (some (.exit 6,(z81 r db v2 v3)))):=(zc0 (z5r 17) z19k _).trans (by kernel_rfl)
theorem z1jk(m:Nat)(r:Rel)(db:List Data)(v2:Int)(v3:Int):zmh m .ret (z81 r db v2 v3)=some (.ret,(z5m r db v2)):=by kernel_rfl
theorem z1jl(m:Nat)(r:Rel)(db:List Data)(v2:Int):zmg m .ret (z5m r db v2)=some (z9b (false)):=by kernel_rfl
theorem z1od(m:Nat)(r:Rel)(db:List Data)(v2:Int)(v3:Int):zmh m (.exit 6) (z81 r db v2 v3)=zd3 m (z5m r db (IntKind.i64.wrap (v2+1))):=by kernel_rfl
theorem z204(m:Nat)(r:Rel)(db:List Data)(hr:WS .rel r)(_hd:WL .data db)(hm:2*r.ht+1<m+1)(h:r.sz≤2000000):z1ge m r db=some (z9b (zcb r db)):=by
 obtain⟨p1,p2⟩:=zvw r;have h3:=r.sz_eq
 have l3:=z2x (L:=zd3 m) (st:=fun i=>z5m r db i) (C:=zmg m) (e:=.exit 4) (fun b=>some (z9b b)) (l:=r.aggs) (d:=zq) (fun a=>a.t.all fun t=>fitT db t) (hr.rel_aggs).len
  (fun i k hi hk hmem=>by
   have li:=z2x (L:=zmf m) (st:=fun j=>z81 r db i j) (C:=zmh m) (e:=.exit 6) (fun b=>if b=true then zd3 m (z5m r db (IntKind.i64.wrap ((i:Int)+1)))else some (.ret,z5m r db i)) (l:=k.t) (d:=zb) (fun t=>fitT db t) (by have:=z60 k.t;have:=zoc hmem;have:=k.sz_eq;omega)
    (fun j t hj ht htm=>by
     rw[z19m];simp only[hk,z8,hi,hj,decide_true,if_true,and_true,y5,ht,Term.ids_eq]
     grind[z6,zaf,fitT])
    (by rw[z19m];simp_all[z8,y5,decide_eq_true_eq,z6,if_neg]) (fun j=>z1jk _ _ _ _ _) (fun j=>z1od _ _ _ _ _)
   simp_all[z19l,z8,decide_true,if_true])
  (by rw[z19l];simp[z8]) (fun i=>z1jl _ _ _ _) (fun i=>z1oc _ _ _ _)
 have l2:=z2x (L:=zq0 m) (st:=fun i=>z9i r db i) (C:=zq2 m) (e:=.exit 2) (fun b=>some (z9b (b&&r.aggs.all fun a=>a.t.all fun t=>fitT db t))) (l:=r.terms) (d:=zb) (fun t=>fitT db t) (hr.rel_terms).len
  (fun i k hi hk hmem=>by
   rw[z1gg];simp only[z8,hi,decide_true,if_true,and_true,y5,hk,Term.ids_eq]
   grind[z6,zaf,fitT])
  (by rw[z1gg];simp[z8]) (fun i=>by simp[y1w,z1ob]) (fun i=>by simp_all[y1b,z1u0,trans])
 rw[z291,z8,zcb,z1dd];by_cases c:r.op=1
 ·simp_all[if_pos,Rel.ids_eq]
 ·rw[if_neg (by grind),if_neg c]
  exact z2x (L:=zpz m) (st:=fun i=>z9h r db i) (C:=zq1 m) (e:=.exit 0) (fun b=>some (z9b (b&&(r.terms.all (fun t=>fitT db t)&&r.aggs.all fun a=>a.t.all fun t=>fitT db t)))) (l:=r.kids) (d:=za) (fun t=>fitR db t) (hr.rel_kids).len
   (fun i k hi hk hmem=>by
    have h1:=Rel.ht_kid hmem;have h2:=z9x hmem;rw[z1gf];simp only[z8,hi,decide_true,if_true,and_true,y5,hk,Rel.ids_eq]
    grind[z6,zcb,fitR])
   (by rw[z1gf];simp[z8]) (fun i=>by simp[y1w,z1oa]) (fun i=>by simp_all[y1b,z1tz,trans])
theorem z248(m:Nat)(hG:z1ty m):FnOK 41 (zpu (m+1)):=fnK2 zt zr (M:=(z7t m)) rfl ⟨z28z,hG.2,hG.1,trivial⟩ trivial trivial trivial trivial Tryz.func41 fun r db=>GiF.r fun w o=>z204 m r db (wfA_ w 0) (wfA_ w 1) (obA_ o 0) (obA_ o 1)
theorem zq3:∀m,z1ty m
 |0=>⟨fnZ2,fnZ2⟩
 |m+1=>⟨z247 m (zq3 m),z248 m (zq3 m)⟩
def z14g:FnC Un:=fnF2 (dS .term) (dL .data) fun t db=>([t.sz≤2000000],z9b (zaf t db))
theorem z292:FnOK 20 z14g:=fnA2 fun m=>(zq3 m).1
def z1oe:FnC Un:=fnF2 (dS .rel) (dL .data) fun r db=>([r.sz≤2000000],z9b (zcb r db))
theorem z293:FnOK 41 z1oe:=fnA2 fun m=>(zq3 m).2
end
end B
namespace B
open Go Go.RowKit
set_option maxRecDepth 100000
noncomputable section
attribute [local irreducible] awp ctxK zw z1a retQ z1m awf ctxF z1l
def z1gh(k:Int):Option (RF Un):=fnF_ z1f6 z28d Tryz.f110 0 [.d] [.d (.v (.s (.int .i64 k)))]
theorem z294(k:Int):z1gh k=cndO (k==0) (some (z9b (true))) (cndO (k==1) (some (z9b (true))) (cndO (k==2) (some (z9b (true))) (some (z9b (k==3))))):=by kernel_rfl
def z1de{σ α:Type}(f:σ→α→Option σ):σ→List α→Option σ
 |a,[]=>some a
 |a,x::l=>match f a x with|some b=>z1de f b l|none=>none
theorem z249{σ α β:Type}{L:S Un→Option (EX Un)}{st rt:σ→Int→S Un}{C:Exit→S Un→Option β}(R:Option σ→Option β){l:List α}{d:α}{e:Exit}(f:σ→α→Option σ)(Inv:Nat→σ→Prop)(hl:l.length≤9223372036854775807)
  (step:∀(a:σ)(i:Nat)(x:α),(i:Int)<(l.length:Int)→l.getD i d=x→x∈l→Inv i a→(∀b,f a x=some b→Inv (i+1) b)∧L (st a i)=match f a x with|some b=>L (st b (IntKind.i64.wrap ((i:Int)+1)))|none=>some (.ret,rt a i))
  (stop:∀a,L (st a (l.length:Int))=some (e,st a (l.length:Int)))(r1:∀(a:σ)(i:Int),C .ret (rt a i)=R none)(r2:∀a,C e (st a (l.length:Int))=R (some a))(a:σ)(h0:Inv 0 a):(L (st a 0)).bind (zd C)=R (z1de f a l):=by
 have key:∀(r:List α)(i:Nat)(a:σ),l.drop i=r→i≤l.length→Inv i a→(L (st a i)).bind (zd C)=R (z1de f a r):=by
  intro r
  induction r with
  |nil=>
   intro i a hr hi _;have:l.length≤i:=y1q.1 hr;have e:i=l.length:=by omega
   rw[e,stop];exact r2 _
  |cons x r ih=>
   intro i a hr hi hI;have hlt:i<l.length:=by
    grind
   have hx:l.getD i d=x:=by
    have:=y25 (xs:=l) (i:=i) (j:=0);grind
   have hm:x∈l:=by grind
   have hr2:l.drop (i+1)=r:=by grind[List.tail_drop]
   obtain⟨hs1,hs2⟩:=step a i x (by omega) hx hm hI;rw[hs2];simp only[z1de];cases hq:f a x with
   |none=>exact r1 _ _
   |some b=>
    grind[z3g]
 grind
def z4q(k:Int):Bool:=decide (k=0∨k=1∨k=2∨k=3)
theorem z205(k:Int)(_h:WI k):z1gh k=some (z9b (z4q k)):=by
 rw[z294];unfold z4q;simp only[z8,beq_iff_eq];grind
def zu3:FnC Un:=fnF1 (dI .i64) fun k=>([],z9b (z4q k))
theorem zzt:FnOK 110 zu3:=fnK1 z17 (M:=z1f6) rfl trivial trivial trivial trivial trivial Tryz.func110 fun k=>GiF.r fun w _=>z205 k (wfA_ w 0)
def z1og:Mc Un:=mcF_ [(110,zu3)] [] [] [] []
def z1gi(a:Int)(b:Int):Option (RF Un):=fnF_ z1og z28d Tryz.f108 0 [.d] [.d (.v (.s (.int .i64 a))),.d (.v (.s (.int .i64 b)))]
theorem z295(a:Int)(b:Int):z1gi a b=cndO (z4q a) (cndO (z4q b) (cndO (a==b) (some (z9b (true))) (cndO (a==0) (some (z9b (true))) (some (z9b (b==0))))) (some (z9b (false)))) (some (z9b (false))):=by kernel_rfl
def z6p(a b:Int):Bool:=z4q a&&z4q b&&decide (a=b∨a=0∨b=0)
theorem z206(a b:Int)(_ha:WI a)(_hb:WI b):z1gi a b=some (z9b (z6p a b)):=by
 rw[z295];unfold z6p;cases z4q a
 ·rfl
 cases z4q b
 ·rfl
 simp only[z8,if_true,beq_iff_eq];grind
def zmi:FnC Un:=fnF2 (dI .i64) (dI .i64) fun a b=>([],z9b (z6p a b))
theorem zq4:FnOK 108 zmi:=fnK2 z17 z17 (M:=z1og) rfl ⟨zzt,trivial⟩ trivial trivial trivial trivial Tryz.func108 fun a b=>GiF.r fun w _=>z206 a b (wfA_ w 0) (wfA_ w 1)
def z1oh:Mc Un:=mcF_ [(108,zmi)] [] [] [] []
def zmj(r:Int×Bool):RF Un:=([.c (.s (.int .i64 r.1)),.c (.s (.bool r.2))],[])
def z1gj(a:Int)(b:Int):Option (RF Un):=fnF_ z1oh z28d Tryz.f61 0 [.d,.d] [.d (.v (.s (.int .i64 a))),.d (.v (.s (.int .i64 b)))]
theorem z296(a:Int)(b:Int):z1gj a b=cndO (!z6p a b) (some (zmj ((0:Int),false))) (cndO (a==0) (some (zmj (b,true))) (some (zmj (a,true)))):=by kernel_rfl
def z61(a b:Int):Int×Bool:=if z6p a b=true then(if a=0 then(b,true)else(a,true))else(0,false)
theorem z207(a b:Int)(_ha:WI a)(_hb:WI b):z1gj a b=some (zmj (z61 a b)):=by
 rw[z296];unfold z61;cases z6p a b
 ·rfl
 ·rw[y4c,z8,if_neg (by simp),z8,if_pos rfl];grind
def zu4:FnC Un:=fnF2 (dI .i64) (dI .i64) fun a b=>([],zmj (z61 a b))
theorem zzu:FnOK 61 zu4:=fnK2 z17 z17 (M:=z1oh) rfl ⟨zq4,trivial⟩ trivial trivial trivial trivial Tryz.func61 fun a b=>GiF.r fun w _=>z207 a b (wfA_ w 0) (wfA_ w 1)
def z9j(l:List Int)(k:Int)(v0:Int):S Un:=(st 19 19 76 0 [(0,al .int l),(1,ai k),(4,ab false),(5,ai v0)] [] [])
def zq5:S Un→Option (EX Un):=lpF_ z1oh z190 Tryz.f106 [1,0,1,2,2] 2
def zq6:Exit→S Un→Option (RF Un):=cxF_ z1oh z190 Tryz.f106 [1,0,1,2] [.d]
def z1gk(l:List Int)(k:Int):Option (RF Un):=fnF_ z1oh z190 Tryz.f106 0 [.d] [.d (.v (.dat (U:=Un) Ty.int l)),.d (.v (.s (.int .i64 k)))]
theorem z297(l:List Int)(k:Int):z1gk l k=(zq5 (z9j l k (0:Int))).bind (zd zq6):=by kernel_rfl
theorem z1gl(l:List Int)(k:Int)(v0:Int):zq5 (z9j l k v0)=cndO (decide (v0<(↑l.length:Int))) (obO (0≤v0∧v0<(↑l.length:Int)) (cndO (!z6p (l.getD v0.toNat (0:Int)) k) (some (.ret,(z9j l k v0))) (zq5 (z9j l k (IntKind.i64.wrap (v0+1)))))) (some (.exit 0,(z9j l k v0))):=lpQ_ (by kernel_rfl)
theorem z1oi(l:List Int)(k:Int)(v0:Int):zq6 .ret (z9j l k v0)=some (z9b (false)):=by kernel_rfl
theorem z1u1(l:List Int)(k:Int)(v0:Int):zq6 (.exit 0) (z9j l k v0)=some (z9b (true)):=by kernel_rfl
def z1s(l:List Int)(k:Int):Bool:=l.all fun a=>z6p a k
theorem z208(l:List Int)(k:Int)(hl:WL .int l)(_hk:WI k):z1gk l k=some (z9b (z1s l k)):=by
 rw[z297]
 exact z2x (L:=zq5) (st:=fun i=>z9j l k i) (C:=zq6) (e:=.exit 0) (fun b=>some (z9b b)) (l:=l) (d:=0) (fun a=>z6p a k) hl.len
  (fun i x hi hx _=>by
   rw[z1gl];simp only[z8,hi,decide_true,if_true,and_true,y5,hx]
   grind[z6,z6p])
  (by rw[z1gl];simp[z8]) (fun i=>z1oi _ _ _) (fun i=>z1u1 _ _ _)
def z14i:FnC Un:=fnF2 (dL .int) (dI .i64) fun l k=>([],z9b (z1s l k))
theorem z1gm:FnOK 106 z14i:=fnK2 zr z17 (M:=z1oh) rfl ⟨zq4,trivial⟩ trivial trivial trivial trivial Tryz.func106 fun l k=>GiF.r fun w _=>z208 l k (wfA_ w 0) (wfA_ w 1)
def zml:Mc Un:=mcF_ [(61,zu4)] [] [] [] []
def zvz:Nat→NS:=nsF_ [(3,{ts:=bl 27 61,bs:=bl 27 0,nm:=[],cs:=true})] true
def z5s(l:List Int)(v0:Int)(v1:Int):S Un:=(st 27 27 108 0 [(0,al .int l),(2,ai (0:Int)),(3,ab false),(4,ai v0),(5,ai v1)] [] [])
def zji:S Un→Option (EX Un):=lpF_ zml zvz Tryz.f107 [1,1,0,1,2,2] 3
def zjj:Exit→S Un→Option (RF Un):=cxF_ zml zvz Tryz.f107 [1,1,0,1,2] [.d,.d]
def z16e(l:List Int):Option (RF Un):=fnF_ zml zvz Tryz.f107 0 [.d,.d] [.d (.v (.dat (U:=Un) Ty.int l))]
theorem z209(l:List Int):z16e l=(zji (z5s l (0:Int) (0:Int))).bind (zd zjj):=by kernel_rfl
theorem z16f(l:List Int)(v0:Int)(v1:Int):zji (z5s l v0 v1)=cndO (decide (v1<(↑l.length:Int))) (obO (0≤v1∧v1<(↑l.length:Int)) (cndO (!(z61 v0 (l.getD v1.toNat (0:Int))).snd) (some (.ret,(z5s l v0 v1))) (zji (z5s l ((z61 v0 (l.getD v1.toNat (0:Int))).fst) (IntKind.i64.wrap (v1+1)))))) (some (.exit 0,(z5s l v0 v1))):=lpQ_ (by kernel_rfl)
theorem z1e3(l:List Int)(v0:Int)(v1:Int):zjj .ret (z5s l v0 v1)=some (zmj ((0:Int),false)):=by kernel_rfl
theorem z1jm(l:List Int)(v0:Int)(v1:Int):zjj (.exit 0) (z5s l v0 v1)=some (zmj (v0,true)):=by kernel_rfl
def z2d9(k x:Int):Option Int:=if(z61 k x).2=true then some (z61 k x).1 else none
def z3i(l:List Int):Int×Bool:=match z1de z2d9 0 l with|some k=>(k,true)|none=>(0,false)
theorem z1oj(l:List Int)(hl:WL .int l):z16e l=some (zmj (z3i l)):=by
 rw[z209]
 exact z249 (L:=zji) (st:=fun(k:Int) i=>z5s l k i) (C:=zjj) (e:=.exit 0) (rt:=fun(k:Int) i=>z5s l k i) (fun o=>some (zmj (match o with|some k=>(k,true)|none=>(0,false)))) (l:=l) (d:=0) z2d9 (fun _ _=>True) hl.len
  (fun a i x hi hx _ _=>by
   rw[z16f];simp only[z8,hi,decide_true,if_true,and_true,y5,hx]
   grind[z6,z2d9,z61])
  (fun a=>by rw[z16f];simp[z8]) (fun a i=>z1e3 _ _ _) (fun a=>z1jm _ _ _) 0 trivial
def zmm:FnC Un:=fnF1 (dL .int) fun l=>([],zmj (z3i l))
theorem zso:FnOK 107 zmm:=fnK1 zr (M:=zml) rfl ⟨zzu,trivial⟩ trivial trivial trivial trivial Tryz.func107 fun l=>GiF.r fun w _=>z1oj l (wfA_ w 0)
def z19n(k:Int)(ok:Bool):Option (RF Un):=fnF_ z1f6 z28d Tryz.f105 0 [.d,.d] [.d (.v (.s (.int .i64 k))),.d (.v (cb ok))]
theorem z24a(k:Int)(ok:Bool):z19n k ok=cndO (!ok) (some (z80 ((0:Int),(9:Int)))) (some (z80 (k,(0:Int)))):=by kernel_rfl
def zo(k:Int)(ok:Bool):Int×Int:=if ok=true then(k,0)else(0,9)
theorem z1u2(k:Int)(ok:Bool)(_hk:WI k):z19n k ok=some (z80 (zo k ok)):=by
 rw[z24a];cases ok<;>rfl
def zij:FnC Un:=fnF2 (dI .i64) dB fun k ok=>([],z80 (zo k ok))
theorem zmn:FnOK 105 zij:=fnK2 z17 z1d7 (M:=z1f6) rfl trivial trivial trivial trivial trivial Tryz.func105 fun k ok=>GiF.r fun w _=>z1u2 k ok (wfA_ w 0)
def z1go(op:Int):Option (RF Un):=fnF_ z1f6 z28d Tryz.f109 0 [.d,.d] [.d (.v (.s (.int .i64 op)))]
theorem z299(op:Int):z1go op=cndO (op==3) (some (z80 ((1:Int),(1:Int)))) (cndO (op==4) (some (z80 ((1:Int),(1:Int)))) (cndO (op==19) (some (z80 ((1:Int),(1:Int)))) (cndO (op==21) (some (z80 ((2:Int),(1152921504606846976:Int)))) (cndO (op==23) (some (z80 ((2:Int),(1152921504606846976:Int)))) (cndO (op==22) (some (z80 ((3:Int),(3:Int)))) (cndO (decide (op≥5)) (cndO (decide (op≤18)) (some (z80 ((2:Int),(2:Int)))) (cndO (op==20) (some (z80 ((2:Int),(2:Int)))) (some (z80 ((0:Int),(0:Int)))))) (cndO (op==20) (some (z80 ((2:Int),(2:Int)))) (some (z80 ((0:Int),(0:Int))))))))))):=by kernel_rfl
def zkf(op:Int):Int×Int:=
 if op=3∨op=4∨op=19 then(1,1)else if op=21∨op=23 then(2,1152921504606846976)else if op=22 then(3,3)else if(5≤op∧op≤18)∨op=20 then(2,2)else(0,0)
theorem z20a(op:Int)(_h:WI op):z1go op=some (z80 (zkf op)):=by
 rw[z299];unfold zkf;simp only[z8,beq_iff_eq,decide_eq_true_eq,ge_iff_le];grind
def z1ol:FnC Un:=fnF1 (dI .i64) fun op=>([],z80 (zkf op))
theorem z29a:FnOK 109 z1ol:=fnK1 z17 (M:=z1f6) rfl trivial trivial trivial trivial trivial Tryz.func109 fun op=>GiF.r fun w _=>z20a op (wfA_ w 0)
end
end B
end Go.Proofs.YtjfpbchdcbhfgaaGreat
