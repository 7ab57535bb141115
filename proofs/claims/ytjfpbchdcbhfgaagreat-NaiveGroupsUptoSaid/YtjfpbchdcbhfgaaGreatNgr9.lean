/- Part 9 of the proof: Slight3 Slight4 Slight5 Slight6. -/
import Derived.Test.YtjfpbchdcbhfgaaGreatNgr8
set_option linter.unusedVariables false
set_option linter.unusedSimpArgs false
namespace Go.Proofs.YtjfpbchdcbhfgaaGreat
namespace B
open Go Go.RowKit
set_option maxRecDepth 100000
noncomputable section
attribute [local irreducible] awp ctxK zx z1f retQ z1l awf ctxF z1k
def z1g1:Nat→NS:=nsF_ [(4,{ts:=bl 41 51,bs:=bl 41 0,nm:=[],cs:=true})] true
def zb4(x:List Val)(cols:List Col)(v0:Int):S Un:=(st 41 41 164 0 [(0,al .val x),(1,al .col cols),(4,ab false),(5,ai v0)] [] [])
def zpl:S Un→Option (EX Un):=lpF_ zrk z1g1 Tryz.f79 [1,1,0,1,2,2] 4
def zvc:Exit→S Un→Option (RF Un):=cxF_ zrk z1g1 Tryz.f79 [1,1,0,1,2] [.d]
def z1ta(x:List Val)(cols:List Col):Option (RF Un):=fnF_ zrk z1g1 Tryz.f79 0 [.d] [.d (.v (.dat (U:=Un) Ty.val x)),.d (.v (.dat (U:=Un) Ty.col cols))]
theorem z2bp(x:List Val)(cols:List Col):z1ta x cols=cndO ((↑x.length:Int) !=(↑cols.length:Int)) (some (z8z (false))) (cndO (!zd8 x) (some (z8z (false))) ((zpl (zb4 x cols (0:Int))).bind (ze zvc))):=by kernel_rfl
theorem z1tb(x:List Val)(cols:List Col)(v0:Int):zpl (zb4 x cols v0)=cndO (decide (v0<(↑x.length:Int))) (obO (0≤v0∧v0<(↑x.length:Int)) (cndO ((x.getD v0.toNat z7).kind !=0) (obO (0≤v0∧v0<(↑x.length:Int)) (obO (0≤v0∧v0<(↑cols.length:Int)) (cndO ((x.getD v0.toNat z7).kind !=(cols.getD v0.toNat z43).type) (some (.ret,(zb4 x cols v0))) (zpl (zb4 x cols (IntKind.i64.wrap (v0+1))))))) (zpl (zb4 x cols (IntKind.i64.wrap (v0+1)))))) (some (.exit 0,(zb4 x cols v0))):=lpQ_ (by kernel_rfl)
theorem z1vj(x:List Val)(cols:List Col)(v0:Int):zvc .ret (zb4 x cols v0)=some (z8z (false)):=by kernel_rfl
theorem z1zc(x:List Val)(cols:List Col)(v0:Int):zvc (.exit 0) (zb4 x cols v0)=some (z8z (true)):=by kernel_rfl
def z284(x:List Val)(cols:List Col)(i:Nat):Bool:=(x.getD i z7).kind ==0||(x.getD i z7).kind ==(cols.getD i z43).type
def z8m(x:List Val)(cols:List Col):Bool:=decide (x.length=cols.length)&&x.all z7o&&(List.range x.length).all (z284 x cols)
theorem z240(x:List Val)(cols:List Col)(hx:WL .val x)(_hc:WL .col cols):z1ta x cols=some (z8z (z8m x cols)):=by
 have hlen:=hx.len;rw[z2bp];unfold z8m;by_cases c:x.length=cols.length
 ·rw[z8,if_neg (by grind),decide_eq_true c,y1c];have e:zd8 x=x.all z7o:=rfl;rw[e];cases x.all z7o
  ·rfl
  ·refine Eq.trans ?_ (z2w (L:=zpl) (st:=fun i=>zb4 x cols i) (C:=zvc) (e:=.exit 0) (fun b=>some (z8z b)) (l:=List.range x.length) (d:=0) (z284 x cols) (by grind)
    (fun i k hi hk _=>by
     rw[y2s]at hi;rw[z1tb];simp only[z8,hi,decide_true,if_true,and_true,y5];rw[z6 (by omega),z6 (by omega),z6 (by omega)];unfold z284
     grind)
    (by rw[y2s,z1tb];simp[z8]) (fun i=>z1vj _ _ _) (fun i=>z1zc _ _ _))
   rfl
 ·rw[z8,if_pos (by grind),decide_eq_false c];rfl
def z1g2:FnC Un:=fnF2 (dL .val) (dL .col) fun x cols=>([],z8z (z8m x cols))
theorem z1tc:FnOK 79 z1g2:=fnK2 z11 z11 (M:=zrk) rfl ⟨z12z,trivial⟩ trivial trivial trivial trivial Tryz.func79 fun x cols=>GiF.r fun w _=>z240 x cols (wfA_ w 0) (wfA_ w 1)
def zgd:Mc Un:=mcF_ [(79,z1g2)] [] [] [] []
def zb5:Nat→NS:=nsF_ [(2,{ts:=bl 43 54,bs:=bl 43 4,nm:=[],cs:=true}),(6,{ts:=bl 43 118,bs:=bl 43 4,nm:=[],cs:=true})] true
def z5d(r:Rel)(db:List Data)(v0:Int):S Un:=(st 43 43 172 0 [(1,al .data db),(2,ax 2),(4,ab false),(5,ai v0)] [(2,bg .rel r)] [])
def z92(r:Rel)(db:List Data)(v0:Int)(v1:Int):S Un:=(st 43 43 172 0 [(1,al .data db),(2,ax 2),(4,ab false),(5,ai v0),(6,ai v1)] [(2,bg .rel r)] [])
def zbq:S Un→Option (EX Un):=lpF_ zgd zb5 Tryz.f78 [1,0,1,2,2] 2
noncomputable def z1cw:Code:=sub (sub (zk Tryz.f78) [1,0,1,2,2]) [1,0,2,1,1,2,2]
def znz:S Un→Option (EX Un):=z1k (zb5 6) (fun s Q=>awf zgd zb5 z1cw s Q)
def zo0:Exit→S Un→Option (RF Un):=cxF_ zgd zb5 Tryz.f78 [1,0,1,2] [.d]
def zo1:Exit→S Un→Option (EX Un):=ctxF zgd zb5 (sub (zk Tryz.f78) [1,0,1,2,2]) [1,0,2,1,1,2] (zc3 (zb5 2) zbq)
def z1cx(r:Rel)(db:List Data):Option (RF Un):=fnF_ zgd zb5 Tryz.f78 0 [.d] [.d (.agg (enc Ty.rel r)),.d (.v (.dat (U:=Un) Ty.data db))]
theorem z241(r:Rel)(db:List Data):z1cx r db=(zbq (z5d r db (0:Int))).bind (ze zo0):=by kernel_rfl
theorem z1cy(r:Rel)(db:List Data)(v0:Int):zbq (z5d r db v0)=cndO (decide (v0<(↑db.length:Int))) (obO (0≤v0∧v0<(↑db.length:Int)) (cndO (!(db.getD v0.toNat z38).table.toList ==r.table.toList) (zbq (z5d r db (IntKind.i64.wrap (v0+1)))) ((znz (z92 r db v0 (0:Int))).bind (ze zo1)))) (some (.exit 0,(z5d r db v0))):=lpQ_ (by kernel_rfl)
theorem z1pp(r:Rel)(db:List Data)(v0:Int):zo0 (.exit 0) (z5d r db v0)=some (z8z (true)):=by kernel_rfl
theorem z1cz(r:Rel)(db:List Data)(v0:Int)(v1:Int):znz (z92 r db v0 v1)=obO (0≤v0∧v0<(↑db.length:Int)) (cndO (decide (v1<(↑(db.getD v0.toNat z38).rows.length:Int))) (obO (0≤v0∧v0<(↑db.length:Int)) (obO (0≤v1∧v1<(↑(db.getD v0.toNat z38).rows.length:Int)) (cndO (!z8m ((db.getD v0.toNat z38).rows.getD v1.toNat []) r.cols) (some (.ret,(z92 r db v0 v1))) (znz (z92 r db v0 (IntKind.i64.wrap (v1+1))))))) (some (.exit 2,(z92 r db v0 v1)))):=(zbh (zb5 6) z1cw _).trans (by kernel_rfl)
theorem z1kb(r:Rel)(db:List Data)(v0:Int)(v1:Int):zo1 .ret (z92 r db v0 v1)=some (.ret,(z5d r db v0)):=by kernel_rfl
theorem z1kc(r:Rel)(db:List Data)(v0:Int):zo0 .ret (z5d r db v0)=some (z8z (false)):=by kernel_rfl
theorem z1pq(r:Rel)(db:List Data)(v0:Int)(v1:Int):zo1 (.exit 2) (z92 r db v0 v1)=zbq (z5d r db (IntKind.i64.wrap (v0+1))):=by kernel_rfl
def zmv(r:Rel)(db:List Data):Bool:=db.all fun d=>!(d.table.toList==r.table.toList)||d.rows.all fun x=>z8m x r.cols
theorem z1vk(r:Rel)(db:List Data)(_hr:WS .rel r)(hd:WL .data db):z1cx r db=some (z8z (zmv r db)):=by
 rw[z241]
 exact z2w (L:=zbq) (st:=fun i=>z5d r db i) (C:=zo0) (e:=.exit 0) (fun b=>some (z8z b)) (l:=db) (d:=z38) (fun d=>!(d.table.toList==r.table.toList)||d.rows.all fun x=>z8m x r.cols) hd.len
  (fun i d hi hk hmem=>by
   have li:=z2w (L:=znz) (st:=fun j=>z92 r db i j) (C:=zo1) (e:=.exit 2) (fun b=>if b=true then zbq (z5d r db (IntKind.i64.wrap ((i:Int)+1)))else some (.ret,z5d r db i)) (l:=d.rows) (d:=[]) (fun x=>z8m x r.cols) (WS.data_rows (WL.get hd hmem)).len
    (fun j x hj hx _=>by
     rw[z1cz];simp only[z8,hi,y5,hk,hj,hx,decide_true,if_true,and_true]
     grind[z6,z8m])
    (by rw[z1cz];simp_all[z8,y5,decide_eq_true_eq,z6,if_neg]) (fun j=>z1kb _ _ _ _) (fun j=>z1pq _ _ _ _)
   rw[z1cy];simp only[z8,hi,y5,hk,decide_true,if_true,and_true]
   grind[z6])
  (by rw[z1cy];simp[z8]) (fun i=>z1kc _ _ _) (fun i=>z1pp _ _ _)
def z1kd:FnC Un:=fnF2 (dS .rel) (dL .data) fun r db=>([],z8z (zmv r db))
theorem z242:FnOK 78 z1kd:=fnK2 zr z11 (M:=zgd) rfl ⟨z1tc,trivial⟩ trivial trivial trivial trivial Tryz.func78 fun r db=>GiF.r fun w _=>z1vk r db (wfA_ w 0) (wfA_ w 1)
mutual
def fitT(db:List Data):Term→Bool
 | .mk _ _ _ _ _ kids sub _=>z11u db kids&&z1ke db sub
def z11u(db:List Data):List Term→Bool
 |[]=>true
 |t::l=>fitT db t&&z11u db l
def fitA(db:List Data):Agg→Bool
 | .mk _ _ t=>z11u db t
def z1xa(db:List Data):List Agg→Bool
 |[]=>true
 |a::l=>fitA db a&&z1xa db l
def fitR(db:List Data):Rel→Bool
 | .mk op table cols kids terms aggs keys limit skip all rows=>if op=1 then zmv (.mk op table cols kids terms aggs keys limit skip all rows) db else z1ke db kids&&(z11u db terms&&z1xa db aggs)
def z1ke(db:List Data):List Rel→Bool
 |[]=>true
 |r::l=>fitR db r&&z1ke db l
end
theorem zvd(db:List Data):∀l:List Term,z11u db l=l.all fun t=>fitT db t
 |[]=>by rfl
 |t::l=>by simp only[z11u,y1i,zvd db l]
theorem z16m(db:List Data):∀l:List Rel,z1ke db l=l.all fun t=>fitR db t
 |[]=>by rfl
 |t::l=>by simp only[z1ke,y1i,z16m db l]
theorem z2hq(db:List Data)(a:Agg):fitA db a=z11u db a.t:=by cases a;rfl
theorem z1td(db:List Data):∀l:List Agg,z1xa db l=l.all fun a=>a.t.all fun t=>fitT db t
 |[]=>by rfl
 |t::l=>by simp only[z1xa,y1i,z1td db l,z2hq,zvd]
theorem z1pr(db:List Data)(t:Term):fitT db t=(t.kids.all (fun t=>fitT db t)&&t.sub.all fun t=>fitR db t):=by cases t;simp only[fitT,zvd,z16m,Term.kids_mk,Term.sub_mk]
theorem z1a5(db:List Data)(r:Rel):fitR db r=if r.op=1 then zmv r db else r.kids.all (fun t=>fitR db t)&&(r.terms.all (fun t=>fitT db t)&&r.aggs.all fun a=>a.t.all fun t=>fitT db t):=by
 cases r;simp only[fitR,zvd,z16m,z1td,Rel.op_mk,Rel.kids_mk,Rel.terms_mk,Rel.aggs_mk];rfl
def zd9(t:Term)(db:List Data):Bool:=fitT db t
def zbr(r:Rel)(db:List Data):Bool:=fitR db r
def zo2(m:Nat):FnC Un:=fnF2 (dS .term) (dL .data) fun t db=>z2m (2*t.ht) m ([t.sz≤2000000],z8z (zd9 t db))
def zo3(m:Nat):FnC Un:=fnF2 (dS .rel) (dL .data) fun r db=>z2m (2*r.ht+1) m ([r.sz≤2000000],z8z (zbr r db))
def zge(m:Nat):Mc Un:=mcF_ [(20,zo2 m),(41,zo3 m)] [] [] [] []
def zkw:Nat→NS:=nsF_ [(2,{ts:=bl 37 54,bs:=bl 37 4,nm:=[],cs:=true}),(7,{ts:=bl 37 86,bs:=bl 37 4,nm:=[],cs:=true})] true
def z93(t:Term)(db:List Data)(v0:Int):S Un:=(st 37 37 148 0 [(1,al .data db),(2,ax 2),(4,ab false),(5,ai v0)] [(2,bg .term t)] [])
def z94(t:Term)(db:List Data)(v1:Int):S Un:=(st 37 37 148 0 [(1,al .data db),(2,ax 2),(4,ab false),(6,ai v1)] [(2,bg .term t)] [])
def zo4(m:Nat):S Un→Option (EX Un):=lpF_ (zge m) zkw Tryz.f20 [1,0,1,2,2] 2
def zo5(m:Nat):S Un→Option (EX Un):=lpF_ (zge m) zkw Tryz.f20 [1,1,0,1,2,2] 7
def zo6(m:Nat):Exit→S Un→Option (RF Un):=cxF_ (zge m) zkw Tryz.f20 [1,0,1,2] [.d]
def zo7(m:Nat):Exit→S Un→Option (RF Un):=cxF_ (zge m) zkw Tryz.f20 [1,1,0,1,2] [.d]
def z1d0(m:Nat)(t:Term)(db:List Data):Option (RF Un):=fnF_ (zge m) zkw Tryz.f20 0 [.d] [.d (.agg (enc Ty.term t)),.d (.v (.dat (U:=Un) Ty.data db))]
theorem z243(m:Nat)(t:Term)(db:List Data):z1d0 m t db=(zo4 m (z93 t db (0:Int))).bind (ze (zo6 m)):=by kernel_rfl
theorem z1d1(m:Nat)(t:Term)(db:List Data)(v0:Int):zo4 m (z93 t db v0)=cndO (decide (v0<(↑t.kids.length:Int))) (obO (0≤v0∧v0<(↑t.kids.length:Int)) (obO ((2:Nat)*(Term.ids (t.kids.getD v0.toNat zb)).ht<m) (obO ((Term.ids (t.kids.getD v0.toNat zb)).sz≤(2000000:Nat)) (cndO (!zd9 (Term.ids (t.kids.getD v0.toNat zb)) db) (some (.ret,(z93 t db v0))) (zo4 m (z93 t db (IntKind.i64.wrap (v0+1)))))))) (some (.exit 0,(z93 t db v0))):=lpQ_ (by kernel_rfl)
theorem z1kf(m:Nat)(t:Term)(db:List Data)(v0:Int):zo6 m .ret (z93 t db v0)=some (z8z (false)):=by kernel_rfl
theorem z1ps(m:Nat)(t:Term)(db:List Data)(v0:Int):zo6 m (.exit 0) (z93 t db v0)=(zo5 m (z94 t db (0:Int))).bind (ze (zo7 m)):=by kernel_rfl
theorem z1d2(m:Nat)(t:Term)(db:List Data)(v1:Int):zo5 m (z94 t db v1)=cndO (decide (v1<(↑t.sub.length:Int))) (obO (0≤v1∧v1<(↑t.sub.length:Int)) (obO ((2:Nat)*(Rel.ids (t.sub.getD v1.toNat za)).ht+(1:Nat)<m) (obO ((Rel.ids (t.sub.getD v1.toNat za)).sz≤(2000000:Nat)) (cndO (!zbr (Rel.ids (t.sub.getD v1.toNat za)) db) (some (.ret,(z94 t db v1))) (zo5 m (z94 t db (IntKind.i64.wrap (v1+1)))))))) (some (.exit 2,(z94 t db v1))):=lpQ_ (by kernel_rfl)
theorem z1kg(m:Nat)(t:Term)(db:List Data)(v1:Int):zo7 m .ret (z94 t db v1)=some (z8z (false)):=by kernel_rfl
theorem z1pt(m:Nat)(t:Term)(db:List Data)(v1:Int):zo7 m (.exit 2) (z94 t db v1)=some (z8z (true)):=by kernel_rfl
theorem z1vl(m:Nat)(t:Term)(db:List Data)(ht:WS .term t)(_hd:WL .data db)(hm:2*t.ht<m+1)(h:t.sz≤2000000):z1d0 m t db=some (z8z (zd9 t db)):=by
 have lq:=z2w (L:=zo5 m) (st:=fun i=>z94 t db i) (C:=zo7 m) (e:=.exit 2) (fun b=>some (z8z b)) (l:=t.sub) (d:=za) (fun t=>fitR db t) (ht.term_sub).len
  (fun i k hi hk hmem=>by
   have h1:=Term.ht_sub hmem;have h2:=zkk hmem;rw[z1d2];simp only[z8,hi,decide_true,if_true,and_true,y5,hk,Rel.ids_eq]
   grind[z6,zbr,fitR])
  (by rw[z1d2];simp[z8]) (fun i=>z1kg _ _ _ _) (fun i=>z1pt _ _ _ _)
 rw[z243]
 refine(z2w (L:=zo4 m) (st:=fun i=>z93 t db i) (C:=zo6 m) (e:=.exit 0) (fun b=>some (z8z (b&&t.sub.all fun t=>fitR db t))) (l:=t.kids) (d:=zb) (fun t=>fitT db t) (ht.term_kids).len
  (fun i k hi hk hmem=>by
   have h1:=Term.ht_kid hmem;have h2:=zkj hmem;rw[z1d1];simp only[z8,hi,decide_true,if_true,and_true,y5,hk,Term.ids_eq]
   grind[z6,zd9,fitT])
  (by rw[z1d1];simp[z8]) (fun i=>by simp[y1v,z1kf]) (fun i=>by simp_all[y1c,z1ps,trans])).trans ?_
 rw[zd9,z1pr]
abbrev z1pu(m:Nat):Prop:=FnOK 20 (zo2 m)∧FnOK 41 (zo3 m)
theorem z1zd(m:Nat)(hG:z1pu m):FnOK 20 (zo2 (m+1)):=fnK2 zr z11 (M:=(zge m)) rfl ⟨hG.1,hG.2,trivial⟩ trivial trivial trivial trivial Tryz.func20 fun t db=>GiF.r fun w o=>z1vl m t db (wfA_ w 0) (wfA_ w 1) (obA_ o 0) (obA_ o 1)
def z7l(m:Nat):Mc Un:=mcF_ [(78,z1kd),(41,zo3 m),(20,zo2 m)] [] [] [] []
def z5j:Nat→NS:=nsF_ [(4,{ts:=bl 75 54,bs:=bl 75 4,nm:=[],cs:=true}),(9,{ts:=bl 75 86,bs:=bl 75 4,nm:=[],cs:=true}),(14,{ts:=bl 75 150,bs:=bl 75 4,nm:=[],cs:=true}),(17,{ts:=bl 75 406,bs:=bl 75 4,nm:=[],cs:=true})] true
def z95(r:Rel)(db:List Data)(v0:Int):S Un:=(st 75 75 300 0 [(1,al .data db),(2,ax 2),(4,ab false),(5,ai v0)] [(2,bg .rel r)] [])
def z96(r:Rel)(db:List Data)(v1:Int):S Un:=(st 75 75 300 0 [(1,al .data db),(2,ax 2),(4,ab false),(6,ai v1)] [(2,bg .rel r)] [])
def z5e(r:Rel)(db:List Data)(v2:Int):S Un:=(st 75 75 300 0 [(1,al .data db),(2,ax 2),(4,ab false),(7,ai v2)] [(2,bg .rel r)] [])
def z7s(r:Rel)(db:List Data)(v2:Int)(v3:Int):S Un:=(st 75 75 300 0 [(1,al .data db),(2,ax 2),(4,ab false),(7,ai v2),(8,ai v3)] [(2,bg .rel r)] [])
def zo8(m:Nat):S Un→Option (EX Un):=lpF_ (z7l m) z5j Tryz.f41 [1,1,0,1,2,2] 4
def zo9(m:Nat):S Un→Option (EX Un):=lpF_ (z7l m) z5j Tryz.f41 [1,1,1,0,1,2,2] 9
def zch(m:Nat):S Un→Option (EX Un):=lpF_ (z7l m) z5j Tryz.f41 [1,1,1,1,0,1,2,2] 14
noncomputable def z16n:Code:=sub (sub (zk Tryz.f41) [1,1,1,1,0,1,2,2]) [1,0,2,1,2,2]
def zkx(m:Nat):S Un→Option (EX Un):=z1k (z5j 17) (fun s Q=>awf (z7l m) z5j z16n s Q)
def zoa(m:Nat):Exit→S Un→Option (RF Un):=cxF_ (z7l m) z5j Tryz.f41 [1,1,0,1,2] [.d]
def zob(m:Nat):Exit→S Un→Option (RF Un):=cxF_ (z7l m) z5j Tryz.f41 [1,1,1,0,1,2] [.d]
def zky(m:Nat):Exit→S Un→Option (RF Un):=cxF_ (z7l m) z5j Tryz.f41 [1,1,1,1,0,1,2] [.d]
def zkz(m:Nat):Exit→S Un→Option (EX Un):=ctxF (z7l m) z5j (sub (zk Tryz.f41) [1,1,1,1,0,1,2,2]) [1,0,2,1,2] (zc3 (z5j 14) (zch m))
def z1d3(m:Nat)(r:Rel)(db:List Data):Option (RF Un):=fnF_ (z7l m) z5j Tryz.f41 0 [.d] [.d (.agg (enc Ty.rel r)),.d (.v (.dat (U:=Un) Ty.data db))]
theorem z244(m:Nat)(r:Rel)(db:List Data):z1d3 m r db=cndO (r.op==1) (some (z8z (zmv (Rel.ids r) db))) ((zo8 m (z95 r db (0:Int))).bind (ze (zoa m))):=by kernel_rfl
theorem z1d4(m:Nat)(r:Rel)(db:List Data)(v0:Int):zo8 m (z95 r db v0)=cndO (decide (v0<(↑r.kids.length:Int))) (obO (0≤v0∧v0<(↑r.kids.length:Int)) (obO ((2:Nat)*(Rel.ids (r.kids.getD v0.toNat za)).ht+(1:Nat)<m) (obO ((Rel.ids (r.kids.getD v0.toNat za)).sz≤(2000000:Nat)) (cndO (!zbr (Rel.ids (r.kids.getD v0.toNat za)) db) (some (.ret,(z95 r db v0))) (zo8 m (z95 r db (IntKind.i64.wrap (v0+1)))))))) (some (.exit 0,(z95 r db v0))):=lpQ_ (by kernel_rfl)
theorem z1kh(m:Nat)(r:Rel)(db:List Data)(v0:Int):zoa m .ret (z95 r db v0)=some (z8z (false)):=by kernel_rfl
theorem z1pv(m:Nat)(r:Rel)(db:List Data)(v0:Int):zoa m (.exit 0) (z95 r db v0)=(zo9 m (z96 r db (0:Int))).bind (ze (zob m)):=by kernel_rfl
theorem z1d5(m:Nat)(r:Rel)(db:List Data)(v1:Int):zo9 m (z96 r db v1)=cndO (decide (v1<(↑r.terms.length:Int))) (obO (0≤v1∧v1<(↑r.terms.length:Int)) (obO ((2:Nat)*(Term.ids (r.terms.getD v1.toNat zb)).ht<m) (obO ((Term.ids (r.terms.getD v1.toNat zb)).sz≤(2000000:Nat)) (cndO (!zd9 (Term.ids (r.terms.getD v1.toNat zb)) db) (some (.ret,(z96 r db v1))) (zo9 m (z96 r db (IntKind.i64.wrap (v1+1)))))))) (some (.exit 2,(z96 r db v1))):=lpQ_ (by kernel_rfl)
theorem z1ki(m:Nat)(r:Rel)(db:List Data)(v1:Int):zob m .ret (z96 r db v1)=some (z8z (false)):=by kernel_rfl
theorem z1pw(m:Nat)(r:Rel)(db:List Data)(v1:Int):zob m (.exit 2) (z96 r db v1)=(zch m (z5e r db (0:Int))).bind (ze (zky m)):=by kernel_rfl
theorem z16o(m:Nat)(r:Rel)(db:List Data)(v2:Int):zch m (z5e r db v2)=cndO (decide (v2<(↑r.aggs.length:Int))) ((zkx m (z7s r db v2 (0:Int))).bind (ze (zkz m))) (some (.exit 4,(z5e r db v2))):=lpQ_ (by kernel_rfl)
theorem z1kj(m:Nat)(r:Rel)(db:List Data)(v2:Int):zky m (.exit 4) (z5e r db v2)=some (z8z (true)):=by kernel_rfl
theorem z16p(m:Nat)(r:Rel)(db:List Data)(v2:Int)(v3:Int):zkx m (z7s r db v2 v3)=obO (0≤v2∧v2<(↑r.aggs.length:Int)) (cndO (decide (v3<(↑(Agg.t (r.aggs.getD v2.toNat zo)).length:Int))) (obO (0≤v2∧v2<(↑r.aggs.length:Int)) (obO (0≤v3∧v3<(↑(Agg.t (r.aggs.getD v2.toNat zo)).length:Int)) (obO ((2:Nat)*(Term.ids ((Agg.t (r.aggs.getD v2.toNat zo)).getD v3.toNat zb)).ht<m) (obO ((Term.ids ((Agg.t (r.aggs.getD v2.toNat zo)).getD v3.toNat zb)).sz≤(2000000:Nat)) (cndO (!zd9 (Term.ids ((Agg.t (r.aggs.getD v2.toNat zo)).getD v3.toNat zb)) db) (some (.ret,(z7s r db v2 v3))) (zkx m (z7s r db v2 (IntKind.i64.wrap (v3+1))))))))) (some (.exit 6,(z7s r db v2 v3)))):=(zbh (z5j 17) z16n _).trans (by kernel_rfl)
theorem z1g3(m:Nat)(r:Rel)(db:List Data)(v2:Int)(v3:Int):zkz m .ret (z7s r db v2 v3)=some (.ret,(z5e r db v2)):=by kernel_rfl
theorem z1g4(m:Nat)(r:Rel)(db:List Data)(v2:Int):zky m .ret (z5e r db v2)=some (z8z (false)):=by kernel_rfl
theorem z1kk(m:Nat)(r:Rel)(db:List Data)(v2:Int)(v3:Int):zkz m (.exit 6) (z7s r db v2 v3)=zch m (z5e r db (IntKind.i64.wrap (v2+1))):=by kernel_rfl
theorem z1vm(m:Nat)(r:Rel)(db:List Data)(hr:WS .rel r)(_hd:WL .data db)(hm:2*r.ht+1<m+1)(h:r.sz≤2000000):z1d3 m r db=some (z8z (zbr r db)):=by
 obtain⟨p1,p2⟩:=ztl r;have h3:=r.sz_eq
 have l3:=z2w (L:=zch m) (st:=fun i=>z5e r db i) (C:=zky m) (e:=.exit 4) (fun b=>some (z8z b)) (l:=r.aggs) (d:=zo) (fun a=>a.t.all fun t=>fitT db t) (hr.rel_aggs).len
  (fun i k hi hk hmem=>by
   have li:=z2w (L:=zkx m) (st:=fun j=>z7s r db i j) (C:=zkz m) (e:=.exit 6) (fun b=>if b=true then zch m (z5e r db (IntKind.i64.wrap ((i:Int)+1)))else some (.ret,z5e r db i)) (l:=k.t) (d:=zb) (fun t=>fitT db t) (by have:=z5t k.t;have:=zms hmem;have:=k.sz_eq;omega)
    (fun j t hj ht htm=>by
     rw[z16p];simp only[hk,z8,hi,hj,decide_true,if_true,and_true,y5,ht,Term.ids_eq]
     grind[z6,zd9,fitT])
    (by rw[z16p];simp_all[z8,y5,decide_eq_true_eq,z6,if_neg]) (fun j=>z1g3 _ _ _ _ _) (fun j=>z1kk _ _ _ _ _)
   simp_all[z16o,z8,decide_true,if_true])
  (by rw[z16o];simp[z8]) (fun i=>z1g4 _ _ _ _) (fun i=>z1kj _ _ _ _)
 have l2:=z2w (L:=zo9 m) (st:=fun i=>z96 r db i) (C:=zob m) (e:=.exit 2) (fun b=>some (z8z (b&&r.aggs.all fun a=>a.t.all fun t=>fitT db t))) (l:=r.terms) (d:=zb) (fun t=>fitT db t) (hr.rel_terms).len
  (fun i k hi hk hmem=>by
   rw[z1d5];simp only[z8,hi,decide_true,if_true,and_true,y5,hk,Term.ids_eq]
   grind[z6,zd9,fitT])
  (by rw[z1d5];simp[z8]) (fun i=>by simp[y1v,z1ki]) (fun i=>by simp_all[y1c,z1pw,trans])
 rw[z244,z8,zbr,z1a5];by_cases c:r.op=1
 ·simp_all[if_pos,Rel.ids_eq]
 ·rw[if_neg (by grind),if_neg c]
  exact z2w (L:=zo8 m) (st:=fun i=>z95 r db i) (C:=zoa m) (e:=.exit 0) (fun b=>some (z8z (b&&(r.terms.all (fun t=>fitT db t)&&r.aggs.all fun a=>a.t.all fun t=>fitT db t)))) (l:=r.kids) (d:=za) (fun t=>fitR db t) (hr.rel_kids).len
   (fun i k hi hk hmem=>by
    have h1:=Rel.ht_kid hmem;have h2:=z9j hmem;rw[z1d4];simp only[z8,hi,decide_true,if_true,and_true,y5,hk,Rel.ids_eq]
    grind[z6,zbr,fitR])
   (by rw[z1d4];simp[z8]) (fun i=>by simp[y1v,z1kh]) (fun i=>by simp_all[y1c,z1pv,trans])
theorem z1ze(m:Nat)(hG:z1pu m):FnOK 41 (zo3 (m+1)):=fnK2 zr z11 (M:=(z7l m)) rfl ⟨z242,hG.2,hG.1,trivial⟩ trivial trivial trivial trivial Tryz.func41 fun r db=>GiF.r fun w o=>z1vm m r db (wfA_ w 0) (wfA_ w 1) (obA_ o 0) (obA_ o 1)
theorem zxg:∀m,z1pu m
 |0=>⟨fnZ2,fnZ2⟩
 |m+1=>⟨z1zd m (zxg m),z1ze m (zxg m)⟩
def z1kl:FnC Un:=fnF2 (dS .rel) (dL .data) fun r db=>([r.sz≤2000000],z8z (zbr r db))
theorem z245:FnOK 41 z1kl:=fnA2 fun m=>(zxg m).2
end
end B
namespace B
open Go Go.RowKit
set_option maxRecDepth 100000
noncomputable section
attribute [local irreducible] awp ctxK zx z1f retQ z1l awf ctxF z1k
def z1d6(k:Int):Option (RF Un):=fnF_ z1bz z23g Tryz.f110 0 [.d] [.d (.v (.s (.int .i64 k)))]
theorem z246(k:Int):z1d6 k=cndO (k==0) (some (z8z (true))) (cndO (k==1) (some (z8z (true))) (cndO (k==2) (some (z8z (true))) (some (z8z (k==3))))):=by kernel_rfl
def z1a6{σ α:Type}(f:σ→α→Option σ):σ→List α→Option σ
 |a,[]=>some a
 |a,x::l=>match f a x with|some b=>z1a6 f b l|none=>none
theorem z1zf{σ α β:Type}{L:S Un→Option (EX Un)}{st rt:σ→Int→S Un}{C:Exit→S Un→Option β}(R:Option σ→Option β){l:List α}{d:α}{e:Exit}(f:σ→α→Option σ)(Inv:Nat→σ→Prop)(hl:l.length≤9223372036854775807)
  (step:∀(a:σ)(i:Nat)(x:α),(i:Int)<(l.length:Int)→l.getD i d=x→x∈l→Inv i a→(∀b,f a x=some b→Inv (i+1) b)∧L (st a i)=match f a x with|some b=>L (st b (IntKind.i64.wrap ((i:Int)+1)))|none=>some (.ret,rt a i))
  (stop:∀a,L (st a (l.length:Int))=some (e,st a (l.length:Int)))(r1:∀(a:σ)(i:Int),C .ret (rt a i)=R none)(r2:∀a,C e (st a (l.length:Int))=R (some a))(a:σ)(h0:Inv 0 a):(L (st a 0)).bind (ze C)=R (z1a6 f a l):=by
 have key:∀(r:List α)(i:Nat)(a:σ),l.drop i=r→i≤l.length→Inv i a→(L (st a i)).bind (ze C)=R (z1a6 f a r):=by
  intro r
  induction r with
  |nil=>
   intro i a hr hi _;have:l.length≤i:=y1n.1 hr;have e:i=l.length:=by omega
   rw[e,stop];exact r2 _
  |cons x r ih=>
   intro i a hr hi hI;have hlt:i<l.length:=by
    grind
   have hx:l.getD i d=x:=by
    have:=y24 (xs:=l) (i:=i) (j:=0);grind
   have hm:x∈l:=by grind
   have hr2:l.drop (i+1)=r:=by grind[List.tail_drop]
   obtain⟨hs1,hs2⟩:=step a i x (by omega) hx hm hI;rw[hs2];simp only[z1a6];cases hq:f a x with
   |none=>exact r1 _ _
   |some b=>
    grind[z3s]
 grind
def z4p(k:Int):Bool:=decide (k=0∨k=1∨k=2∨k=3)
theorem z1vn(k:Int)(_h:WI k):z1d6 k=some (z8z (z4p k)):=by
 rw[z246];unfold z4p;simp only[z8,beq_iff_eq];grind
def zrz:FnC Un:=fnF1 (dI .i64) fun k=>([],z8z (z4p k))
theorem zxh:FnOK 110 zrz:=fnK1 z1a (M:=z1bz) rfl trivial trivial trivial trivial trivial Tryz.func110 fun k=>GiF.r fun w _=>z1vn k (wfA_ w 0)
def z1kn:Mc Un:=mcF_ [(110,zrz)] [] [] [] []
def z1d7(a:Int)(b:Int):Option (RF Un):=fnF_ z1kn z23g Tryz.f108 0 [.d] [.d (.v (.s (.int .i64 a))),.d (.v (.s (.int .i64 b)))]
theorem z247(a:Int)(b:Int):z1d7 a b=cndO (z4p a) (cndO (z4p b) (cndO (a==b) (some (z8z (true))) (cndO (a==0) (some (z8z (true))) (some (z8z (b==0))))) (some (z8z (false)))) (some (z8z (false))):=by kernel_rfl
def z6j(a b:Int):Bool:=z4p a&&z4p b&&decide (a=b∨a=0∨b=0)
theorem z1vo(a b:Int)(_ha:WI a)(_hb:WI b):z1d7 a b=some (z8z (z6j a b)):=by
 rw[z247];unfold z6j;cases z4p a
 ·rfl
 cases z4p b
 ·rfl
 simp only[z8,if_true,beq_iff_eq];grind
def zl0:FnC Un:=fnF2 (dI .i64) (dI .i64) fun a b=>([],z8z (z6j a b))
theorem zoc:FnOK 108 zl0:=fnK2 z1a z1a (M:=z1kn) rfl ⟨zxh,trivial⟩ trivial trivial trivial trivial Tryz.func108 fun a b=>GiF.r fun w _=>z1vo a b (wfA_ w 0) (wfA_ w 1)
def z1ko:Mc Un:=mcF_ [(108,zl0)] [] [] [] []
def zl1(r:Int×Bool):RF Un:=([.c (.s (.int .i64 r.1)),.c (.s (.bool r.2))],[])
def z1d8(a:Int)(b:Int):Option (RF Un):=fnF_ z1ko z23g Tryz.f61 0 [.d,.d] [.d (.v (.s (.int .i64 a))),.d (.v (.s (.int .i64 b)))]
theorem z248(a:Int)(b:Int):z1d8 a b=cndO (!z6j a b) (some (zl1 ((0:Int),false))) (cndO (a==0) (some (zl1 (b,true))) (some (zl1 (a,true)))):=by kernel_rfl
def z5u(a b:Int):Int×Bool:=if z6j a b=true then(if a=0 then(b,true)else(a,true))else(0,false)
theorem z1vp(a b:Int)(_ha:WI a)(_hb:WI b):z1d8 a b=some (zl1 (z5u a b)):=by
 rw[z248];unfold z5u;cases z6j a b
 ·rfl
 ·rw[y48,z8,if_neg (by simp),z8,if_pos rfl];grind
def zs0:FnC Un:=fnF2 (dI .i64) (dI .i64) fun a b=>([],zl1 (z5u a b))
theorem zxi:FnOK 61 zs0:=fnK2 z1a z1a (M:=z1ko) rfl ⟨zoc,trivial⟩ trivial trivial trivial trivial Tryz.func61 fun a b=>GiF.r fun w _=>z1vp a b (wfA_ w 0) (wfA_ w 1)
def z97(l:List Int)(k:Int)(v0:Int):S Un:=(st 19 19 76 0 [(0,al .int l),(1,ai k),(4,ab false),(5,ai v0)] [] [])
def zod:S Un→Option (EX Un):=lpF_ z1ko z162 Tryz.f106 [1,0,1,2,2] 2
def zoe:Exit→S Un→Option (RF Un):=cxF_ z1ko z162 Tryz.f106 [1,0,1,2] [.d]
def z1d9(l:List Int)(k:Int):Option (RF Un):=fnF_ z1ko z162 Tryz.f106 0 [.d] [.d (.v (.dat (U:=Un) Ty.int l)),.d (.v (.s (.int .i64 k)))]
theorem z249(l:List Int)(k:Int):z1d9 l k=(zod (z97 l k (0:Int))).bind (ze zoe):=by kernel_rfl
theorem z1da(l:List Int)(k:Int)(v0:Int):zod (z97 l k v0)=cndO (decide (v0<(↑l.length:Int))) (obO (0≤v0∧v0<(↑l.length:Int)) (cndO (!z6j (l.getD v0.toNat (0:Int)) k) (some (.ret,(z97 l k v0))) (zod (z97 l k (IntKind.i64.wrap (v0+1)))))) (some (.exit 0,(z97 l k v0))):=lpQ_ (by kernel_rfl)
theorem z1kp(l:List Int)(k:Int)(v0:Int):zoe .ret (z97 l k v0)=some (z8z (false)):=by kernel_rfl
theorem z1px(l:List Int)(k:Int)(v0:Int):zoe (.exit 0) (z97 l k v0)=some (z8z (true)):=by kernel_rfl
def z1s(l:List Int)(k:Int):Bool:=l.all fun a=>z6j a k
theorem z1vq(l:List Int)(k:Int)(hl:WL .int l)(_hk:WI k):z1d9 l k=some (z8z (z1s l k)):=by
 rw[z249]
 exact z2w (L:=zod) (st:=fun i=>z97 l k i) (C:=zoe) (e:=.exit 0) (fun b=>some (z8z b)) (l:=l) (d:=0) (fun a=>z6j a k) hl.len
  (fun i x hi hx _=>by
   rw[z1da];simp only[z8,hi,decide_true,if_true,and_true,y5,hx]
   grind[z6,z6j])
  (by rw[z1da];simp[z8]) (fun i=>z1kp _ _ _) (fun i=>z1px _ _ _)
def z11w:FnC Un:=fnF2 (dL .int) (dI .i64) fun l k=>([],z8z (z1s l k))
theorem z1db:FnOK 106 z11w:=fnK2 z11 z1a (M:=z1ko) rfl ⟨zoc,trivial⟩ trivial trivial trivial trivial Tryz.func106 fun l k=>GiF.r fun w _=>z1vq l k (wfA_ w 0) (wfA_ w 1)
def zl3:Mc Un:=mcF_ [(61,zs0)] [] [] [] []
def zto:Nat→NS:=nsF_ [(3,{ts:=bl 27 61,bs:=bl 27 0,nm:=[],cs:=true})] true
def z5k(l:List Int)(v0:Int)(v1:Int):S Un:=(st 27 27 108 0 [(0,al .int l),(2,ai (0:Int)),(3,ab false),(4,ai v0),(5,ai v1)] [] [])
def zid:S Un→Option (EX Un):=lpF_ zl3 zto Tryz.f107 [1,1,0,1,2,2] 3
def zie:Exit→S Un→Option (RF Un):=cxF_ zl3 zto Tryz.f107 [1,1,0,1,2] [.d,.d]
def z13i(l:List Int):Option (RF Un):=fnF_ zl3 zto Tryz.f107 0 [.d,.d] [.d (.v (.dat (U:=Un) Ty.int l))]
theorem z1vr(l:List Int):z13i l=(zid (z5k l (0:Int) (0:Int))).bind (ze zie):=by kernel_rfl
theorem z13j(l:List Int)(v0:Int)(v1:Int):zid (z5k l v0 v1)=cndO (decide (v1<(↑l.length:Int))) (obO (0≤v1∧v1<(↑l.length:Int)) (cndO (!(z5u v0 (l.getD v1.toNat (0:Int))).snd) (some (.ret,(z5k l v0 v1))) (zid (z5k l ((z5u v0 (l.getD v1.toNat (0:Int))).fst) (IntKind.i64.wrap (v1+1)))))) (some (.exit 0,(z5k l v0 v1))):=lpQ_ (by kernel_rfl)
theorem z1az(l:List Int)(v0:Int)(v1:Int):zie .ret (z5k l v0 v1)=some (zl1 ((0:Int),false)):=by kernel_rfl
theorem z1g5(l:List Int)(v0:Int)(v1:Int):zie (.exit 0) (z5k l v0 v1)=some (zl1 (v0,true)):=by kernel_rfl
def z288(k x:Int):Option Int:=if(z5u k x).2=true then some (z5u k x).1 else none
def z3f(l:List Int):Int×Bool:=match z1a6 z288 0 l with|some k=>(k,true)|none=>(0,false)
theorem z1kq(l:List Int)(hl:WL .int l):z13i l=some (zl1 (z3f l)):=by
 rw[z1vr]
 exact z1zf (L:=zid) (st:=fun(k:Int) i=>z5k l k i) (C:=zie) (e:=.exit 0) (rt:=fun(k:Int) i=>z5k l k i) (fun o=>some (zl1 (match o with|some k=>(k,true)|none=>(0,false)))) (l:=l) (d:=0) z288 (fun _ _=>True) hl.len
  (fun a i x hi hx _ _=>by
   rw[z13j];simp only[z8,hi,decide_true,if_true,and_true,y5,hx]
   grind[z6,z288,z5u])
  (fun a=>by rw[z13j];simp[z8]) (fun a i=>z1az _ _ _) (fun a=>z1g5 _ _ _) 0 trivial
def zl4:FnC Un:=fnF1 (dL .int) fun l=>([],zl1 (z3f l))
theorem zqo:FnOK 107 zl4:=fnK1 z11 (M:=zl3) rfl ⟨zxi,trivial⟩ trivial trivial trivial trivial Tryz.func107 fun l=>GiF.r fun w _=>z1kq l (wfA_ w 0)
def z16q(k:Int)(ok:Bool):Option (RF Un):=fnF_ z1bz z23g Tryz.f105 0 [.d,.d] [.d (.v (.s (.int .i64 k))),.d (.v (cb ok))]
theorem z1zg(k:Int)(ok:Bool):z16q k ok=cndO (!ok) (some (z7r ((0:Int),(9:Int)))) (some (z7r (k,(0:Int)))):=by kernel_rfl
def zm(k:Int)(ok:Bool):Int×Int:=if ok=true then(k,0)else(0,9)
theorem z1py(k:Int)(ok:Bool)(_hk:WI k):z16q k ok=some (z7r (zm k ok)):=by
 rw[z1zg];cases ok<;>rfl
def zhj:FnC Un:=fnF2 (dI .i64) dB fun k ok=>([],z7r (zm k ok))
theorem zl5:FnOK 105 zhj:=fnK2 z1a z1iu (M:=z1bz) rfl trivial trivial trivial trivial trivial Tryz.func105 fun k ok=>GiF.r fun w _=>z1py k ok (wfA_ w 0)
def z1dd(op:Int):Option (RF Un):=fnF_ z1bz z23g Tryz.f109 0 [.d,.d] [.d (.v (.s (.int .i64 op)))]
theorem z24b(op:Int):z1dd op=cndO (op==3) (some (z7r ((1:Int),(1:Int)))) (cndO (op==4) (some (z7r ((1:Int),(1:Int)))) (cndO (op==19) (some (z7r ((1:Int),(1:Int)))) (cndO (op==21) (some (z7r ((2:Int),(1152921504606846976:Int)))) (cndO (op==23) (some (z7r ((2:Int),(1152921504606846976:Int)))) (cndO (op==22) (some (z7r ((3:Int),(3:Int)))) (cndO (decide (op≥5)) (cndO (decide (op≤18)) (some (z7r ((2:Int),(2:Int)))) (cndO (op==20) (some (z7r ((2:Int),(2:Int)))) (some (z7r ((0:Int),(0:Int)))))) (cndO (op==20) (some (z7r ((2:Int),(2:Int)))) (some (z7r ((0:Int),(0:Int))))))))))):=by kernel_rfl
def zj8(op:Int):Int×Int:=
 if op=3∨op=4∨op=19 then(1,1)else if op=21∨op=23 then(2,1152921504606846976)else if op=22 then(3,3)else if(5≤op∧op≤18)∨op=20 then(2,2)else(0,0)
theorem z1vs(op:Int)(_h:WI op):z1dd op=some (z7r (zj8 op)):=by
 rw[z24b];unfold zj8;simp only[z8,beq_iff_eq,decide_eq_true_eq,ge_iff_le];grind
def z1ks:FnC Un:=fnF1 (dI .i64) fun op=>([],z7r (zj8 op))
theorem z24c:FnOK 109 z1ks:=fnK1 z1a (M:=z1bz) rfl trivial trivial trivial trivial trivial Tryz.func109 fun op=>GiF.r fun w _=>z1vs op (wfA_ w 0)
end
end B
namespace B
open Go Go.RowKit
set_option maxRecDepth 100000
noncomputable section
attribute [local irreducible] awp ctxK zx z1f retQ z1l awf ctxF z1k
def zog:Mc Un:=mcF_ [(108,zl0),(107,zl4),(105,zhj)] [] [] [] []
def zxj:Nat→NS:=nsF_ [(3,{ts:=bl 42 61,bs:=bl 42 0,nm:=[(.sl 4,168)],cs:=true})] true
def z7t(l:List Int)(v0:Int)(v1:List Int):S Un:=(st 42 42 169 0 [(0,al .int l),(2,ai (0:Int)),(3,ai (0:Int)),(4,ao 168),(5,ai v0)] [] [(168,some ⟨(0:Nat),Ty.int,v1,some (0:Nat),true⟩)])
def zj9(l:List Int)(v0:Int)(v1:List Int)(v2:Int):S Un:=(st 42 42 169 0 [(0,al .int l),(2,ai (0:Int)),(3,ai v2),(4,ao 168),(5,ai v0)] [] [(168,some ⟨(0:Nat),Ty.int,v1,some (0:Nat),true⟩)])
def zci:S Un→Option (EX Un):=lpF_ zog zxj Tryz.f111 [1,1,0,1,2,2] 3
def zl6:Exit→S Un→Option (RF Un):=cxF_ zog zxj Tryz.f111 [1,1,0,1,2] [.d,.d]
def z16r(l:List Int):Option (RF Un):=fnF_ zog zxj Tryz.f111 1 [.d,.d] [.d (.v (.dat (U:=Un) Ty.int l))]
theorem z1zh(l:List Int):z16r l=(zci (z7t l (0:Int) ([]))).bind (ze zl6):=by kernel_rfl
def zl7(l:List Int)(v0:Int)(v1:List Int):Option (EX Un):=obO (0≤v0∧v0<(↑l.length:Int)) (obO ((v1.length+[l.getD v0.toNat (0:Int)].length)*(8:Nat)≤zi) (zci (z7t l (IntKind.i64.wrap (v0+1)) (v1++[l.getD v0.toNat (0:Int)]))))
theorem z16s(l:List Int)(v0:Int)(v1:List Int):zci (z7t l v0 v1)=cndO (decide (v0<(↑l.length:Int))) (obO (¬(2:Int)=(0:Int)) (cndO (v0.tmod (2:Int)==(0:Int)) (cndO (decide (IntKind.i64.wrap (v0+1)<(↑l.length:Int))) (obO (0≤v0∧v0<(↑l.length:Int)) (cndO (!z6j (l.getD v0.toNat (0:Int)) (1:Int)) (some (.ret,(zj9 l v0 v1 (9:Int)))) (zci (z7t l (IntKind.i64.wrap (v0+1)) v1)))) (zl7 l v0 v1)) (zl7 l v0 v1))) (some (.exit 0,(z7t l v0 v1))):=lpQ_ (by kernel_rfl)
theorem z1g6(l:List Int)(v0:Int)(v1:List Int)(v2:Int):zl6 .ret (zj9 l v0 v1 v2)=some (z7r ((0:Int),v2)):=by kernel_rfl
theorem z1kt(l:List Int)(v0:Int)(v1:List Int):zl6 (.exit 0) (z7t l v0 v1)=some (z7r ((zm (z3f v1).fst (z3f v1).snd).fst,(zm (z3f v1).fst (z3f v1).snd).snd)):=by kernel_rfl
def z1xb(l:List Int)(vs:List Int)(i:Nat):Option (List Int):=if i % 2=0∧i+1<l.length then(if z6j (l.getD i 0) 1=true then some vs else none)else some (vs++[l.getD i 0])
def zve(l:List Int):Int×Int:=match z1a6 (z1xb l) [] (List.range l.length)with|some vs=>zm (z3f vs).1 (z3f vs).2|none=>(0,9)
theorem z1pz(l:List Int)(_hl:WL .int l)(h:l.length≤2000000):z16r l=some (z7r (zve l)):=by
 rw[z1zh]
 exact z1zf (L:=zci) (st:=fun(vs:List Int) i=>z7t l i vs) (rt:=fun(vs:List Int) i=>zj9 l i vs 9) (C:=zl6) (e:=.exit 0) (fun o=>some (z7r (match o with|some vs=>zm (z3f vs).1 (z3f vs).2|none=>(0,9)))) (l:=List.range l.length) (d:=0) (z1xb l) (fun i vs=>vs.length≤i) (by grind)
  (fun vs i k hi hk _ hI=>by
   rw[y2s]at hi;have hk':k=i:=by grind
   subst hk';refine⟨fun b hb=>?_,?_⟩
   ·unfold z1xb at hb;grind
   ·have et:zl7 l (k:Int) vs=zci (z7t l (IntKind.i64.wrap ((k:Int)+1)) (vs++[l.getD k 0])):=by
     grind[zl7,Int.toNat_natCast,z6,zi,List.length_singleton]
    rw[z16s,et];unfold z1xb;simp only[z8,hi,decide_true,if_true,and_true,y5,beq_iff_eq,decide_eq_true_eq];rw[z1u (by omega),z6 (by simp)];by_cases c1:k % 2=0
    ·by_cases c2:k+1<l.length
     ·rw[if_pos (show(k:Int)+1<(l.length:Int) by omega),z6 (by omega),if_pos (show k % 2=0∧k+1<l.length from⟨c1,c2⟩)];grind
     grind
    grind)
  (fun vs=>by rw[y2s,z16s];simp[z8]) (fun a i=>z1g6 _ _ _ _) (fun a=>z1kt _ _ _) [] (y6 _)
def z1de:FnC Un:=fnF1 (dL .int) fun l=>([l.length≤2000000],z7r (zve l))
theorem z1zi:FnOK 111 z1de:=fnK1 z11 (M:=zog) rfl ⟨zoc,zqo,zl5,trivial⟩ trivial trivial trivial trivial Tryz.func111 fun l=>GiF.r fun w o=>z1pz l (wfA_ w 0) (obA_ o 0)
def z1te:Mc Un:=mcF_ [(110,zrz),(105,zhj),(108,zl0)] [] [] [] []
def z11x(name:ByteArray)(k:Int):Option (RF Un):=fnF_ z1te z23g Tryz.f134 0 [.d,.d] [.d (.v (cs name)),.d (.v (.s (.int .i64 k)))]
theorem z28a(name:ByteArray)(k:Int):z11x name k=cndO (name.toList==(ByteArray.mk #[99,111,117,110,116]).toList) (some (z7r ((zm (2:Int) (z4p k)).fst,(zm (2:Int) (z4p k)).snd))) (cndO (name.toList==(ByteArray.mk #[115,117,109]).toList) (some (z7r ((zm (2:Int) (z6j k (2:Int))).fst,(zm (2:Int) (z6j k (2:Int))).snd))) (cndO (name.toList==(ByteArray.mk #[109,105,110]).toList) (some (z7r ((zm k (z4p k)).fst,(zm k (z4p k)).snd))) (cndO (name.toList==(ByteArray.mk #[109,97,120]).toList) (some (z7r ((zm k (z4p k)).fst,(zm k (z4p k)).snd))) (some (z7r ((0:Int),(6:Int))))))):=by kernel_rfl
theorem ex_c{R:Int×Int→RF Un}{c:Bool}{x y:Option (RF Un)}(hx:c=true→∃p,x=some (R p))(hy:c=false→∃p,y=some (R p)):∃p,cndO c x y=some (R p):=by
 cases c
 ·exact hy rfl
 ·exact hx rfl
noncomputable def z1xc(R:Int×Int→RF Un)(o:Option (RF Un)):Int×Int:=@Classical.epsilon (Int×Int) ⟨(0,0)⟩ fun p=>o=some (R p)
theorem z1g7{R:Int×Int→RF Un}{o:Option (RF Un)}(h:∃p,o=some (R p)):o=some (R (z1xc R o)):=@Classical.epsilon_spec (Int×Int) (fun p=>o=some (R p)) h
noncomputable def z1a7(name:ByteArray)(k:Int):Int×Int:=z1xc z7r (z11x name k)
theorem z1zj(name:ByteArray)(k:Int)(_hn:WStr name)(_hk:WI k):z11x name k=some (z7r (z1a7 name k)):=by
 refine z1g7 ?_;rw[z28a]
 repeat' first|exact⟨_,rfl⟩|refine ex_c (fun _=>?_) (fun _=>?_)
def z1tf:FnC Un:=fnF2 dStr (dI .i64) fun name k=>([],z7r (z1a7 name k))
theorem z28b:FnOK 134 z1tf:=fnK2 z4l z1a (M:=z1te) rfl ⟨zxh,zl5,zoc,trivial⟩ trivial trivial trivial trivial Tryz.func134 fun name k=>GiF.r fun w _=>z1zj name k (wfA_ w 0) (wfA_ w 1)
def z1ku:Mc Un:=mcF_ [(106,z11w),(105,zhj),(107,zl4)] [] [] [] []
def zxk(name:ByteArray)(l:List Int):Option (RF Un):=fnF_ z1ku z23g Tryz.f60 0 [.d,.d] [.d (.v (cs name)),.d (.v (.dat (U:=Un) Ty.int l))]
def zxl(name:ByteArray)(l:List Int):Option (RF Un):=cndO (name.toList==(ByteArray.mk #[108,101,110,103,116,104]).toList) (some (z7r ((zm (2:Int) (z1s l (3:Int))).fst,(zm (2:Int) (z1s l (3:Int))).snd))) (cndO (name.toList==(ByteArray.mk #[108,111,119,101,114]).toList) (some (z7r ((zm (3:Int) (z1s l (3:Int))).fst,(zm (3:Int) (z1s l (3:Int))).snd))) (cndO (name.toList==(ByteArray.mk #[117,112,112,101,114]).toList) (some (z7r ((zm (3:Int) (z1s l (3:Int))).fst,(zm (3:Int) (z1s l (3:Int))).snd))) (cndO (name.toList==(ByteArray.mk #[97,98,115]).toList) (some (z7r ((zm (2:Int) (z1s l (2:Int))).fst,(zm (2:Int) (z1s l (2:Int))).snd))) (some (z7r ((zm (z3f l).fst (z3f l).snd).fst,(zm (z3f l).fst (z3f l).snd).snd))))))
def z1df(name:ByteArray)(l:List Int):Option (RF Un):=cndO (!name.toList==(ByteArray.mk #[99,111,97,108,101,115,99,101]).toList) (some (z7r ((0:Int),(11:Int)))) (zxl name l)
def zhl(name:ByteArray)(l:List Int):Option (RF Un):=cndO (decide ((↑l.length:Int)<(1:Int))) (some (z7r ((0:Int),(11:Int)))) (cndO (decide ((↑l.length:Int)>(1:Int))) (z1df name l) (zxl name l))
theorem z24d(name:ByteArray)(l:List Int):zxk name l=cndO (name.toList==(ByteArray.mk #[108,101,110,103,116,104]).toList) (zhl name l) (cndO (name.toList==(ByteArray.mk #[108,111,119,101,114]).toList) (zhl name l) (cndO (name.toList==(ByteArray.mk #[117,112,112,101,114]).toList) (zhl name l) (cndO (name.toList==(ByteArray.mk #[97,98,115]).toList) (zhl name l) (cndO (name.toList==(ByteArray.mk #[99,111,97,108,101,115,99,101]).toList) (zhl name l) (cndO (name.toList==(ByteArray.mk #[110,117,108,108,105,102]).toList) (cndO (decide ((↑l.length:Int)<(2:Int))) (some (z7r ((0:Int),(11:Int)))) (cndO (decide ((↑l.length:Int)>(2:Int))) (z1df name l) (zxl name l))) (some (z7r ((0:Int),(6:Int))))))))):=by kernel_rfl
noncomputable def zmw(name:ByteArray)(l:List Int):Int×Int:=z1xc z7r (zxk name l)
theorem z1vt(name:ByteArray)(l:List Int)(_hn:WStr name)(_hl:WL .int l):zxk name l=some (z7r (zmw name l)):=by
 refine z1g7 ?_;rw[z24d]
 repeat' first|exact⟨_,rfl⟩|refine ex_c (fun _=>?_) (fun _=>?_)
def z1kv:FnC Un:=fnF2 dStr (dL .int) fun name l=>([],z7r (zmw name l))
theorem z24e:FnOK 60 z1kv:=fnK2 z4l z11 (M:=z1ku) rfl ⟨z1db,zl5,zqo,trivial⟩ trivial trivial trivial trivial Tryz.func60 fun name l=>GiF.r fun w _=>z1vt name l (wfA_ w 0) (wfA_ w 1)
def z1zk:Mc Un:=mcF_ [(109,z1ks),(107,zl4),(106,z11w),(105,zhj),(110,zrz),(111,z1de)] [] [] [] []
def z16t(op:Int)(l:List Int):Option (RF Un):=fnF_ z1zk z23g Tryz.f62 0 [.d,.d] [.d (.v (.s (.int .i64 op))),.d (.v (.dat (U:=Un) Ty.int l))]
theorem z2br(op:Int)(l:List Int):z16t op l=cndO ((zj8 op).snd ==0) (some (z7r ((0:Int),(1:Int)))) (cndO (decide ((↑l.length:Int)<(zj8 op).fst)) (some (z7r ((0:Int),(11:Int)))) (cndO (decide ((↑l.length:Int)>(zj8 op).snd)) (some (z7r ((0:Int),(11:Int)))) (cndO (op==3) (some (z7r ((zm (2:Int) (z1s l (2:Int))).fst,(zm (2:Int) (z1s l (2:Int))).snd))) (cndO (op==5) (some (z7r ((zm (2:Int) (z1s l (2:Int))).fst,(zm (2:Int) (z1s l (2:Int))).snd))) (cndO (op==6) (some (z7r ((zm (2:Int) (z1s l (2:Int))).fst,(zm (2:Int) (z1s l (2:Int))).snd))) (cndO (op==7) (some (z7r ((zm (2:Int) (z1s l (2:Int))).fst,(zm (2:Int) (z1s l (2:Int))).snd))) (cndO (op==8) (some (z7r ((zm (2:Int) (z1s l (2:Int))).fst,(zm (2:Int) (z1s l (2:Int))).snd))) (cndO (op==9) (some (z7r ((zm (2:Int) (z1s l (2:Int))).fst,(zm (2:Int) (z1s l (2:Int))).snd))) (cndO (op==4) (some (z7r ((zm (1:Int) (z1s l (1:Int))).fst,(zm (1:Int) (z1s l (1:Int))).snd))) (cndO (op==17) (some (z7r ((zm (1:Int) (z1s l (1:Int))).fst,(zm (1:Int) (z1s l (1:Int))).snd))) (cndO (op==18) (some (z7r ((zm (1:Int) (z1s l (1:Int))).fst,(zm (1:Int) (z1s l (1:Int))).snd))) (cndO (op==10) (some (z7r ((zm (3:Int) (z1s l (3:Int))).fst,(zm (3:Int) (z1s l (3:Int))).snd))) (cndO (op==20) (some (z7r ((zm (1:Int) (z1s l (3:Int))).fst,(zm (1:Int) (z1s l (3:Int))).snd))) (cndO (op==19) (obO ((0:Int)≤(0:Int)∧(0:Int)<(↑l.length:Int)) (some (z7r ((zm (1:Int) (z4p (l.getD 0 (0:Int)))).fst,(zm (1:Int) (z4p (l.getD 0 (0:Int)))).snd)))) (cndO (op==23) (obO (l.length≤(2000000:Nat)) (some (z7r ((zve l).fst,(zve l).snd)))) (some (z7r ((zm (1:Int) (z3f l).snd).fst,(zm (1:Int) (z3f l).snd).snd)))))))))))))))))):=by kernel_rfl
noncomputable def zzc(op:Int)(l:List Int):Int×Int:=z1xc z7r (z16t op l)
theorem z24f(op:Int)(l:List Int)(_ho:WI op)(_hl:WL .int l)(h:l.length≤2000000):z16t op l=some (z7r (zzc op l)):=by
 refine z1g7 ?_;rw[z2br];refine ex_c (fun _=>⟨_,rfl⟩) (fun _=>?_);refine ex_c (fun _=>⟨_,rfl⟩) (fun h1=>?_);have h2:op=19→0<l.length:=fun e=>by
  have e2:(zj8 19).1=1:=rfl;grind
 repeat' first|exact⟨_,rfl⟩|(rw[z6 h])|(refine ex_c (fun c=>?_) (fun _=>?_))|(rw[z6 ⟨y29 _,by grind⟩])
def z1zl:FnC Un:=fnF2 (dI .i64) (dL .int) fun op l=>([l.length≤2000000],z7r (zzc op l))
theorem z2bs:FnOK 62 z1zl:=fnK2 z1a z11 (M:=z1zk) rfl ⟨z24c,zqo,z1db,zl5,zxh,z1zi,trivial⟩ trivial trivial trivial trivial Tryz.func62 fun op l=>GiF.r fun w o=>z24f op l (wfA_ w 0) (wfA_ w 1) (obA_ o 0)
end
end B
namespace B
open Go Go.RowKit
set_option maxRecDepth 100000
noncomputable section
attribute [local irreducible] awp ctxK zx z1f retQ z1l awf ctxF z1k
def zxn:Nat→NS:=nsF_ [(3,{ts:=bl 21 25,bs:=bl 21 0,nm:=[(.sl 3,84)],cs:=true})] true
def zcj(l:List Col)(v0:Int)(v1:List Int):S Un:=(st 21 21 85 0 [(0,al .col l),(3,ao 84),(4,ai v0)] [] [(84,some ⟨(0:Nat),Ty.int,v1,some (0:Nat),true⟩)])
def zl8:S Un→Option (EX Un):=lpF_ z1bz zxn Tryz.f25 [1,1,0,1,2,2] 3
def z16u:Exit→S Un→Option (RF Un):=cxF_ z1bz zxn Tryz.f25 [1,1,0,1,2] [.d]
def z16v(l:List Col):Option (RF Un):=fnF_ z1bz zxn Tryz.f25 1 [.d] [.d (.v (.dat (U:=Un) Ty.col l))]
theorem z1zm(l:List Col):z16v l=(zl8 (zcj l (0:Int) ([]))).bind (ze z16u):=by kernel_rfl
theorem z16w(l:List Col)(v0:Int)(v1:List Int):zl8 (zcj l v0 v1)=cndO (decide (v0<(↑l.length:Int))) (obO (0≤v0∧v0<(↑l.length:Int)) (obO ((v1.length+[(l.getD v0.toNat z43).type].length)*(8:Nat)≤zi) (zl8 (zcj l (IntKind.i64.wrap (v0+1)) (v1++[(l.getD v0.toNat z43).type]))))) (some (.exit 0,(zcj l v0 v1))):=lpQ_ (by kernel_rfl)
theorem z1kw(l:List Col)(v0:Int)(v1:List Int):z16u (.exit 0) (zcj l v0 v1)=some (zmt (v1)):=by kernel_rfl
def z1i(l:List Col):List Int:=l.map fun c=>c.type
theorem z1kx:∀(l:List Col)(n:List Int),l.foldl (fun n c=>n++[c.type]) n=n++z1i l
 |[],n=>by simp[z1i]
 |c::l,n=>by rw[yu,z1kx l];simp[z1i]
theorem z1q0(l:List Col)(hl:WL .col l)(h:l.length≤2000000000):z16v l=some (zmt (z1i l)):=by
 obtain⟨lp,_⟩:=z1p (e:=.exit 0) (L:=zl8) (st:=fun(n:List Int) i=>zcj l i n) (l:=l) (d:=z43) (g:=fun n c=>n++[c.type]) (fun i n=>n.length=i) hl.len
  (fun n i c hi hc hI=>by
   rw[z16w];simp only[z8,hi,decide_true,if_true,and_true,y5,hc]
   grind[z6,zi,List.length_singleton])
  (fun n _=>by rw[z16w];simp[z8]) [] rfl
 rw[z1kx,yz]at lp;rw[z1zm];refine(zg lp).trans ?_;rw[z1kw]
def zoi:FnC Un:=fnF1 (dL .col) fun l=>([l.length≤2000000000],zmt (z1i l))
theorem ztp:FnOK 25 zoi:=fnK1 z11 (M:=z1bz) rfl trivial trivial trivial trivial trivial Tryz.func25 fun l=>GiF.r fun w o=>z1q0 l (wfA_ w 0) (obA_ o 0)
def zxo:Nat→NS:=nsF_ [(2,{ts:=bl 32 51,bs:=bl 32 0,nm:=[],cs:=true})] true
def z6k(a:List Int)(b:List Int)(v0:Int):S Un:=(st 32 32 128 0 [(0,al .int a),(1,al .int b),(4,ab false),(5,ai v0)] [] [])
def zl9:S Un→Option (EX Un):=lpF_ z1bz zxo Tryz.f31 [1,0,1,2,2] 2
def zla:Exit→S Un→Option (RF Un):=cxF_ z1bz zxo Tryz.f31 [1,0,1,2] [.d]
def z16x(a:List Int)(b:List Int):Option (RF Un):=fnF_ z1bz zxo Tryz.f31 0 [.d] [.d (.v (.dat (U:=Un) Ty.int a)),.d (.v (.dat (U:=Un) Ty.int b))]
theorem z1zn(a:List Int)(b:List Int):z16x a b=(zl9 (z6k a b (0:Int))).bind (ze zla):=by kernel_rfl
theorem z16y(a:List Int)(b:List Int)(v0:Int):zl9 (z6k a b v0)=cndO (decide (v0<(↑a.length:Int))) (cndO (decide (v0<(↑b.length:Int))) (obO (0≤v0∧v0<(↑a.length:Int)) (obO (0≤v0∧v0<(↑b.length:Int)) (cndO (a.getD v0.toNat (0:Int) !=b.getD v0.toNat (0:Int)) (some (.ret,(z6k a b v0))) (zl9 (z6k a b (IntKind.i64.wrap (v0+1))))))) (some (.exit 0,(z6k a b v0)))) (some (.exit 0,(z6k a b v0))):=lpQ_ (by kernel_rfl)
theorem z1g8(a:List Int)(b:List Int)(v0:Int):zla .ret (z6k a b v0)=some (z8z (false)):=by kernel_rfl
theorem z1ky(a:List Int)(b:List Int)(v0:Int):zla (.exit 0) (z6k a b v0)=some (z8z ((↑a.length:Int)==(↑b.length:Int))):=by kernel_rfl
def zvf(a b:List Int):Bool:=(List.range (min a.length b.length)).all (fun i=>a.getD i 0==b.getD i 0)&&((a.length:Int)==(b.length:Int))
theorem z1q1(a b:List Int)(ha:WL .int a)(_hb:WL .int b):z16x a b=some (z8z (zvf a b)):=by
 have hlen:=ha.len;rw[z1zn]
 exact z2w (L:=zl9) (st:=fun i=>z6k a b i) (C:=zla) (e:=.exit 0) (fun x=>some (z8z (x&&((a.length:Int)==(b.length:Int))))) (l:=List.range (min a.length b.length)) (d:=0) (fun i=>a.getD i 0==b.getD i 0) (by grind)
  (fun i k hi hk _=>by
   rw[y2s]at hi;have hk':k=i:=by grind
   subst hk';rw[z16y];simp only[z8,y5,decide_eq_true_eq];rw[if_pos (show(k:Int)<(a.length:Int) by omega),if_pos (show(k:Int)<(b.length:Int) by omega),z6 (by omega),z6 (by omega)]
   simp)
  (by
   rw[y2s,z16y];simp only[z8,decide_eq_true_eq]
   grind)
  (fun i=>by simp[y1v,z1g8]) (fun i=>by simp[y1c,z1ky])
def z1dg:FnC Un:=fnF2 (dL .int) (dL .int) fun a b=>([],z8z (zvf a b))
theorem z1zo:FnOK 31 z1dg:=fnK2 z11 z11 (M:=z1bz) rfl trivial trivial trivial trivial trivial Tryz.func31 fun a b=>GiF.r fun w _=>z1q1 a b (wfA_ w 0) (wfA_ w 1)
def zok:Mc Un:=mcF_ [(25,zoi)] [] [] [] []
def zxq:Nat→NS:=nsF_ [(3,{ts:=bl 23 26,bs:=bl 23 2,nm:=[(.sl 3,92)],cs:=true})] true
def zck(r:Rel)(v0:Int)(v1:List Int):S Un:=(st 23 23 93 0 [(1,ax 1),(3,ao 92),(4,ai v0)] [(1,bg .rel r)] [(92,some ⟨(0:Nat),Ty.int,v1,some (0:Nat),true⟩)])
def zlb:S Un→Option (EX Un):=lpF_ zok zxq Tryz.f80 [1,1,0,1,2,2] 3
def z16z:Exit→S Un→Option (RF Un):=cxF_ zok zxq Tryz.f80 [1,1,0,1,2] [.d]
def z170(r:Rel):Option (RF Un):=fnF_ zok zxq Tryz.f80 1 [.d] [.d (.agg (enc Ty.rel r))]
theorem z1zp(r:Rel):z170 r=(zlb (zck r (0:Int) ([]))).bind (ze z16z):=by kernel_rfl
theorem z171(r:Rel)(v0:Int)(v1:List Int):zlb (zck r v0 v1)=cndO (decide (v0<(↑r.kids.length:Int))) (obO (0≤v0∧v0<(↑r.kids.length:Int)) (obO ((Rel.cols (r.kids.getD v0.toNat za)).length≤(2000000000:Nat)) (obO ((v1.length+(z1i (Rel.cols (r.kids.getD v0.toNat za))).length)*(8:Nat)≤zi) (zlb (zck r (IntKind.i64.wrap (v0+1)) (v1++z1i (Rel.cols (r.kids.getD v0.toNat za)))))))) (some (.exit 0,(zck r v0 v1))):=lpQ_ (by kernel_rfl)
theorem z1kz(r:Rel)(v0:Int)(v1:List Int):z16z (.exit 0) (zck r v0 v1)=some (zmt (v1)):=by kernel_rfl
mutual
def clT:Term→Nat
 | .mk _ _ _ _ _ kids sub _=>clTs kids+clRs sub
def clTs:List Term→Nat
 |[]=>0
 |t::l=>clT t+clTs l
def clA:Agg→Nat
 | .mk _ _ t=>clTs t
def clAs:List Agg→Nat
 |[]=>0
 |a::l=>clA a+clAs l
def clR:Rel→Nat
 | .mk _ _ cols kids terms aggs _ _ _ _ _=>cols.length+clRs kids+clTs terms+clAs aggs
def clRs:List Rel→Nat
 |[]=>0
 |r::l=>clR r+clRs l
end
theorem z1zq(t:Term):clT t=clTs t.kids+clRs t.sub:=by cases t;rfl
theorem z2bt(a:Agg):clA a=clTs a.t:=by cases a;rfl
theorem zfc(r:Rel):clR r=r.cols.length+clRs r.kids+clTs r.terms+clAs r.aggs:=by cases r;rfl
theorem zja{t:Term}:∀{l:List Term},t∈l→clT t≤clTs l
 |x::l,h=>by
  simp only[clTs];rcases yf.1 h with rfl|h
  ·omega
  ·have:=zja h;omega
theorem zfd{t:Rel}:∀{l:List Rel},t∈l→clR t≤clRs l
 |x::l,h=>by
  simp only[clRs];rcases yf.1 h with rfl|h
  ·omega
  ·have:=zfd h;omega
theorem z1g9{t:Agg}:∀{l:List Agg},t∈l→clA t≤clAs l
 |x::l,h=>by
  simp only[clAs];rcases yf.1 h with rfl|h
  ·omega
  ·have:=z1g9 h;omega
def z2b(r:Rel):List Int:=r.kids.foldl (fun n k=>n++z1i k.cols) []
theorem z1q2(r:Rel)(hr:WS .rel r)(h:clR r≤2000000000):z170 r=some (zmt (z2b r)):=by
 have h0:=zfc r
 obtain⟨lp,_⟩:=z1p (e:=.exit 0) (L:=zlb) (st:=fun(n:List Int) i=>zck r i n) (l:=r.kids) (d:=za) (g:=fun n k=>n++z1i k.cols) (fun i n=>n.length+clRs (r.kids.drop i)≤2000000000) (hr.rel_kids).len
  (fun n i k hi hk hI=>by
   have hd:=zjl (d:=za) (show i<r.kids.length by omega);rw[hd,hk]at hI;simp only[clRs]at hI;have h1:=zfc k;have h2:(z1i k.cols).length=k.cols.length:=by unfold z1i;simp
   rw[z171];simp only[z8,hi,decide_true,if_true,and_true,y5,hk]
   grind[z6,zi])
  (fun n _=>by rw[z171];simp[z8]) [] (by grind)
 rw[z1zp];refine(zg lp).trans ?_;rw[z1kz];rfl
def zxr:FnC Un:=fnF1 (dS .rel) fun r=>([clR r≤2000000000],zmt (z2b r))
theorem z172:FnOK 80 zxr:=fnK1 zr (M:=zok) rfl ⟨ztp,trivial⟩ trivial trivial trivial trivial Tryz.func80 fun r=>GiF.r fun w o=>z1q2 r (wfA_ w 0) (obA_ o 0)
def z7m:Mc Un:=mcF_ [(25,zoi),(134,z1tf),(61,zs0),(80,zxr)] [] [] [] []
def z4g(r:List Int×Bool):RF Un:=([.c (.sl (U:=Un) Ty.int r.1 false),.c (.s (.bool r.2))],[])
def z8u:Nat→NS:=nsF_ [(8,{ts:=bl 162 50,bs:=bl 162 2,nm:=[(.sl 4,648)],cs:=true}),(15,{ts:=bl 162 194,bs:=bl 162 2,nm:=[(.sl 6,649)],cs:=true}),(19,{ts:=bl 162 334,bs:=bl 162 2,nm:=[(.sl 6,650)],cs:=true}),(35,{ts:=bl 162 61452,bs:=bl 162 0,nm:=[(.sl 14,651)],cs:=true})] true
def zxs(r:Rel)(v4:Int):=z1a7 (Agg.name (r.aggs.getD v4.toNat zo)) (Term.type ((Agg.t (r.aggs.getD v4.toNat zo)).getD 0 zb))
def zxt(r:Rel)(v4:Int):=z1a7 (Agg.name (r.aggs.getD v4.toNat zo)) (2:Int)
def ze8(r:Rel)(v0:Int)(v1:List Int):S Un:=(st 162 162 652 0 [(1,ax 1),(4,ao 648),(5,ai v0)] [(1,bg .rel r)] [(648,some ⟨(0:Nat),Ty.int,v1,some (0:Nat),true⟩)])
def z7u(r:Rel)(v2:Int)(v3:List Int):S Un:=(st 162 162 652 0 [(1,ax 1),(6,ao 649),(7,ai v2)] [(1,bg .rel r)] [(649,some ⟨(0:Nat),Ty.int,v3,some (0:Nat),true⟩)])
def z5f(r:Rel)(v3:List Int)(v4:Int):S Un:=(st 162 162 652 0 [(1,ax 1),(6,ao 650),(8,ai v4)] [(1,bg .rel r)] [(650,some ⟨(0:Nat),Ty.int,v3,some (0:Nat),true⟩)])
def za1(r:Rel)(v3:List Int)(v4:Int):S Un:=(st 162 162 652 0 [(1,ax 1),(2,AV.one (A.c (C.sl Ty.int [] true))),(3,ab false),(6,ao 650),(8,ai v4)] [(1,bg .rel r)] [(650,some ⟨(0:Nat),Ty.int,v3,some (0:Nat),true⟩)])
def z4q(r:Rel)(v5:Int)(v6:List Int):S Un:=(st 162 162 652 0 [(2,AV.one (A.c (C.sl Ty.int [] true))),(3,ab false),(12,al .int (z1i (Rel.cols (r.kids.getD 0 za)))),(13,al .int (z1i (Rel.cols (r.kids.getD 1 za)))),(14,ao 651),(15,ai v5)] [] [(651,some ⟨(0:Nat),Ty.int,v6,some (0:Nat),true⟩)])
def zol:S Un→Option (EX Un):=lpF_ z7m z8u Tryz.f81 [1,0,1,2,1,4,1,3,1,0,1,2,2] 8
def zfe:S Un→Option (EX Un):=lpF_ z7m z8u Tryz.f81 [1,0,1,2,1,4,1,4,1,3,1,0,1,2,2] 15
def z7v:S Un→Option (EX Un):=lpF_ z7m z8u Tryz.f81 [1,0,1,2,1,4,1,4,1,3,1,1,0,1,2,2] 19
def zff:S Un→Option (EX Un):=lpF_ z7m z8u Tryz.f81 [1,0,1,2,1,4,1,4,1,4,1,3,1,1,0,1,2,2] 35
def zxu:Exit→S Un→Option (RF Un):=cxF_ z7m z8u Tryz.f81 [1,0,1,2,1,4,1,3,1,0,1,2] [.d,.d]
def ztq:Exit→S Un→Option (RF Un):=cxF_ z7m z8u Tryz.f81 [1,0,1,2,1,4,1,4,1,3,1,0,1,2] [.d,.d]
def zfg:Exit→S Un→Option (RF Un):=cxF_ z7m z8u Tryz.f81 [1,0,1,2,1,4,1,4,1,3,1,1,0,1,2] [.d,.d]
def zlc:Exit→S Un→Option (RF Un):=cxF_ z7m z8u Tryz.f81 [1,0,1,2,1,4,1,4,1,4,1,3,1,1,0,1,2] [.d,.d]
def zom(r:Rel):Option (RF Un):=fnF_ z7m z8u Tryz.f81 4 [.d,.d] [.d (.agg (enc Ty.rel r))]
def zhn(r:Rel):Option (RF Un):=obO ((0:Int)≤(0:Int)∧(0:Int)<(↑r.kids.length:Int)) (obO ((Rel.cols (r.kids.getD 0 za)).length≤(2000000000:Nat)) (obO ((0:Int)≤(1:Int)∧(1:Int)<(↑r.kids.length:Int)) (obO ((Rel.cols (r.kids.getD 1 za)).length≤(2000000000:Nat)) ((zff (z4q r (0:Int) ([]))).bind (ze zlc)))))
theorem z24g(r:Rel):zom r=cndO (r.op==1) (obO (r.cols.length≤(2000000000:Nat)) (some (z4g (z1i r.cols,true)))) (cndO (r.op==2) (obO (r.cols.length≤(2000000000:Nat)) (some (z4g (z1i r.cols,true)))) (cndO (r.op==4) ((zol (ze8 r (0:Int) ([]))).bind (ze zxu)) (cndO (r.op==7) ((zfe (z7u r (0:Int) ([]))).bind (ze ztq)) (cndO (r.op==9) (zhn r) (cndO (r.op==10) (zhn r) (cndO (r.op==11) (zhn r) (obO (clR (Rel.ids r)≤(2000000000:Nat)) (some (z4g (z2b (Rel.ids r),true)))))))))):=by kernel_rfl
theorem z1dh(r:Rel)(v0:Int)(v1:List Int):zol (ze8 r v0 v1)=cndO (decide (v0<(↑r.terms.length:Int))) (obO (0≤v0∧v0<(↑r.terms.length:Int)) (obO ((v1.length+[Term.type (r.terms.getD v0.toNat zb)].length)*(8:Nat)≤zi) (zol (ze8 r (IntKind.i64.wrap (v0+1)) (v1++[Term.type (r.terms.getD v0.toNat zb)]))))) (some (.exit 1,(ze8 r v0 v1))):=lpQ_ (by kernel_rfl)
theorem z1q3(r:Rel)(v0:Int)(v1:List Int):zxu (.exit 1) (ze8 r v0 v1)=some (z4g (v1,true)):=by kernel_rfl
theorem z173(r:Rel)(v2:Int)(v3:List Int):zfe (z7u r v2 v3)=cndO (decide (v2<(↑r.terms.length:Int))) (obO (0≤v2∧v2<(↑r.terms.length:Int)) (obO ((v3.length+[Term.type (r.terms.getD v2.toNat zb)].length)*(8:Nat)≤zi) (zfe (z7u r (IntKind.i64.wrap (v2+1)) (v3++[Term.type (r.terms.getD v2.toNat zb)]))))) (some (.exit 3,(z7u r v2 v3))):=lpQ_ (by kernel_rfl)
theorem z1l0(r:Rel)(v2:Int)(v3:List Int):ztq (.exit 3) (z7u r v2 v3)=(z7v (z5f r v3 (0:Int))).bind (ze zfg):=by kernel_rfl
theorem z174(r:Rel)(v3:List Int)(v4:Int):z7v (z5f r v3 v4)=cndO (decide (v4<(↑r.aggs.length:Int))) (obO (0≤v4∧v4<(↑r.aggs.length:Int)) (cndO (decide ((↑(Agg.t (r.aggs.getD v4.toNat zo)).length:Int)>(0:Int))) (obO (0≤v4∧v4<(↑r.aggs.length:Int)) (obO ((0:Int)≤(0:Int)∧(0:Int)<(↑(Agg.t (r.aggs.getD v4.toNat zo)).length:Int)) (obO (0≤v4∧v4<(↑r.aggs.length:Int)) (cndO ((zxs r v4).snd !=0) (some (.ret,(za1 r v3 v4))) (obO ((v3.length+[(zxs r v4).fst].length)*(8:Nat)≤zi) (z7v (z5f r (v3++[(zxs r v4).fst]) (IntKind.i64.wrap (v4+1))))))))) (obO (0≤v4∧v4<(↑r.aggs.length:Int)) (cndO ((zxt r v4).snd !=0) (some (.ret,(za1 r v3 v4))) (obO ((v3.length+[(zxt r v4).fst].length)*(8:Nat)≤zi) (z7v (z5f r (v3++[(zxt r v4).fst]) (IntKind.i64.wrap (v4+1))))))))) (some (.exit 5,(z5f r v3 v4))):=lpQ_ (by kernel_rfl)
theorem z1ga(r:Rel)(v3:List Int)(v4:Int):zfg .ret (za1 r v3 v4)=some (z4g ([],false)):=by kernel_rfl
theorem z1l1(r:Rel)(v3:List Int)(v4:Int):zfg (.exit 5) (z5f r v3 v4)=some (z4g (v3,true)):=by kernel_rfl
theorem z175(r:Rel)(v5:Int)(v6:List Int):zff (z4q r v5 v6)=cndO (decide (v5<(↑(z1i (Rel.cols (r.kids.getD 0 za))).length:Int))) (cndO (decide (v5<(↑(z1i (Rel.cols (r.kids.getD 1 za))).length:Int))) (obO (0≤v5∧v5<(↑(z1i (Rel.cols (r.kids.getD 0 za))).length:Int)) (obO (0≤v5∧v5<(↑(z1i (Rel.cols (r.kids.getD 1 za))).length:Int)) (cndO (!(z5u ((z1i (Rel.cols (r.kids.getD 0 za))).getD v5.toNat (0:Int)) ((z1i (Rel.cols (r.kids.getD 1 za))).getD v5.toNat (0:Int))).snd) (some (.ret,(z4q r v5 v6))) (obO ((v6.length+[(z5u ((z1i (Rel.cols (r.kids.getD 0 za))).getD v5.toNat (0:Int)) ((z1i (Rel.cols (r.kids.getD 1 za))).getD v5.toNat (0:Int))).fst].length)*(8:Nat)≤zi) (zff (z4q r (IntKind.i64.wrap (v5+1)) (v6++[(z5u ((z1i (Rel.cols (r.kids.getD 0 za))).getD v5.toNat (0:Int)) ((z1i (Rel.cols (r.kids.getD 1 za))).getD v5.toNat (0:Int))).fst]))))))) (some (.exit 7,(z4q r v5 v6)))) (some (.exit 7,(z4q r v5 v6))):=lpQ_ (by kernel_rfl)
theorem z1gb(r:Rel)(v5:Int)(v6:List Int):zlc .ret (z4q r v5 v6)=some (z4g ([],false)):=by kernel_rfl
theorem z1l2(r:Rel)(v5:Int)(v6:List Int):zlc (.exit 7) (z4q r v5 v6)=some (z4g (v6,(↑(z1i (Rel.cols (r.kids.getD 0 za))).length:Int)==(↑(z1i (Rel.cols (r.kids.getD 1 za))).length:Int))):=by kernel_rfl
theorem zvg{σ ρ:Type}{R:ρ→RF Un}{L:S Un→Option (EX Un)}{C:Exit→S Un→Option (RF Un)}{st:σ→Int→S Un}{n:Nat}(hn:n≤9223372036854775807)(Inv:Nat→σ→Prop)
  (step:∀(a:σ)(i:Nat),i<n→Inv i a→(∃b,Inv (i+1) b∧L (st a (i:Int))=L (st b (IntKind.i64.wrap ((i:Int)+1))))∨∃p,(L (st a (i:Int))).bind (ze C)=some (R p))
  (stop:∀a,Inv n a→∃p,(L (st a (n:Int))).bind (ze C)=some (R p))(a:σ)(h0:Inv 0 a):∃p,(L (st a (0:Int))).bind (ze C)=some (R p):=by
 have key:∀(k i:Nat)(a:σ),i+k=n→Inv i a→∃p,(L (st a (i:Int))).bind (ze C)=some (R p):=by
  intro k
  induction k with
  |zero=>
   grind
  |succ k ih=>
   grind[step,z3s]
 exact key n 0 a (by omega) h0
theorem z11y{ρ:Type}{R:ρ→RF Un}{c:Bool}{x y:Option (RF Un)}(hx:c=true→∃p,x=some (R p))(hy:c=false→∃p,y=some (R p)):∃p,cndO c x y=some (R p):=by
 cases c
 ·exact hy rfl
 ·exact hx rfl
noncomputable def z2bu(R:List Int×Bool→RF Un)(o:Option (RF Un)):List Int×Bool:=@Classical.epsilon (List Int×Bool) ⟨([],false)⟩ fun p=>o=some (R p)
theorem z2bv{R:List Int×Bool→RF Un}{o:Option (RF Un)}(h:∃p,o=some (R p)):o=some (R (z2bu R o)):=@Classical.epsilon_spec (List Int×Bool) (fun p=>o=some (R p)) h
noncomputable def zfh(r:Rel):List Int×Bool:=z2bu z4g (zom r)
def z176(r:Rel):Prop:=((r.op=9∨r.op=10∨r.op=11)→2≤r.kids.length)∧r.sz≤2000000∧clR r≤2000000000
theorem z177(r:Rel)(hk:2≤r.kids.length)(hc:clR r≤2000000000):∃p,zhn r=some (z4g p):=by
 have c0:∀i,i<r.kids.length→(Rel.cols (r.kids.getD i za)).length≤2000000000:=fun i hi=>by
  have h1:=zfd (z8f (l:=r.kids) (d:=za) hi);grind[zfc,za]
 unfold zhn;rw[z6 (by omega),z6 (c0 0 (by omega)),z6 (by omega),z6 (c0 1 (by omega))];generalize ha:z1i (Rel.cols (r.kids.getD 0 za))=a;generalize hb:z1i (Rel.cols (r.kids.getD 1 za))=b;have hal:a.length≤2000000000:=by grind[z1i,List.length_map]
 refine zvg (L:=zff) (C:=zlc) (st:=fun(v:List Int) i=>z4q r i v) (n:=min a.length b.length) (by omega) (fun i v=>v.length≤i)
  (fun v i hi hI=>?_) (fun v hI=>?_) [] (ya _)
 ·rw[z175];simp only[ha,hb,y5];cases hJ:(z5u (a.getD i 0) (b.getD i 0)).2 with
  |false=>exact .inr ⟨_,by rw[z8,if_pos (by grind),z8,if_pos (by grind),z6 (by omega),z6 (by omega)];exact z1gb _ _ _⟩
  |true=>
   exact .inl ⟨v++[(z5u (a.getD i 0) (b.getD i 0)).1],by grind,by
    rw[z8,if_pos (by grind),z8,if_pos (by grind),z6 (by omega),z6 (by omega),z8,if_neg (by simp),z6 (by grind[zi,List.length_singleton])]⟩
 ·have e:zff (z4q r ((min a.length b.length:Nat):Int) v)=some (.exit 7,z4q r ((min a.length b.length:Nat):Int) v):=by
   rw[z175];simp only[ha,hb,z8,decide_eq_true_eq];grind
  grind[zg,trans,z1l2]
theorem z2bw(r:Rel)(hr:WS .rel r)(h:z176 r):∃p,zom r=some (z4g p):=by
 obtain⟨hk,hs,hc⟩:=h;have h0:=zfc r;have h3:=r.sz_eq;have hl:=z5t r.terms;have hla:=z1fj r.aggs;rw[z24g];rw[z6 (show r.cols.length≤2000000000 by omega),Rel.ids_eq,z6 hc];refine z11y (fun _=>⟨_,rfl⟩) fun _=>z11y (fun _=>⟨_,rfl⟩) fun _=>z11y (fun _=>?_) fun _=>z11y (fun _=>?_) fun _=>z11y (fun c=>z177 r (hk (.inl (by grind))) hc) fun _=>z11y (fun c=>z177 r (hk (.inr (.inl (by grind)))) hc) fun _=>z11y (fun c=>z177 r (hk (.inr (.inr (by grind)))) hc) fun _=>⟨_,rfl⟩
 ·refine zvg (L:=zol) (C:=zxu) (st:=fun(v:List Int) i=>ze8 r i v) (n:=r.terms.length) (by omega) (fun i v=>v.length≤i) (fun v i hi hI=>.inl ?_) (fun v hI=>?_) [] (ya _)
  ·exact⟨v++[Term.type (r.terms.getD i zb)],by grind,by
    rw[z1dh,y5,z8,if_pos (by grind),z6 (by omega),z6 (by grind[zi,List.length_singleton])]⟩
  ·exact⟨_,(zg (by rw[z1dh,z8,if_neg (by simp)])).trans (z1q3 _ _ _)⟩
 ·refine zvg (L:=zfe) (C:=ztq) (st:=fun(v:List Int) i=>z7u r i v) (n:=r.terms.length) (by omega) (fun i v=>v.length≤i) (fun v i hi hI=>.inl ?_) (fun v hI=>?_) [] (ya _)
  ·exact⟨v++[Term.type (r.terms.getD i zb)],by grind,by
    rw[z173,y5,z8,if_pos (by grind),z6 (by omega),z6 (by grind[zi,List.length_singleton])]⟩
  ·rw[zg (show zfe (z7u r (r.terms.length:Int) v)=some (.exit 3,z7u r (r.terms.length:Int) v) by rw[z173,z8,if_neg (by simp)]),z1l0];refine zvg (L:=z7v) (C:=zfg) (st:=fun(v:List Int) i=>z5f r v i) (n:=r.aggs.length) (by omega) (fun i v=>v.length≤4000000+i) (fun v i hi hI=>?_) (fun v hI=>?_) v (by omega)
   ·rw[z174,y5,z8,if_pos (by grind),z6 (by omega)]
    have step:∀p:Int×Int,(∃b:List Int,b.length≤4000000+(i+1)∧cndO (p.2 !=0) (some (.ret,za1 r v i)) (obO ((v.length+[p.1].length)*(8:Nat)≤zi) (z7v (z5f r (v++[p.1]) (IntKind.i64.wrap ((i:Int)+1)))))=z7v (z5f r b (IntKind.i64.wrap ((i:Int)+1))))∨
      ∃q,(cndO (p.2 !=0) (some (.ret,za1 r v i)) (obO ((v.length+[p.1].length)*(8:Nat)≤zi) (z7v (z5f r (v++[p.1]) (IntKind.i64.wrap ((i:Int)+1)))))).bind (ze zfg)=some (z4g q):=fun p=>by
     cases hp:(p.2 !=0)with
     |true=>exact .inr ⟨_,z1ga _ _ _⟩
     |false=>exact .inl ⟨v++[p.1],by grind,by rw[z8,if_neg (by simp),z6 (by grind[zi,List.length_singleton])]⟩
    by_cases c:(↑(Agg.t (r.aggs.getD i zo)).length:Int)>(0:Int)
    all_goals simp_all[z8,if_pos,z6,step,if_neg]
   ·exact⟨_,(zg (by rw[z174,z8,if_neg (by simp)])).trans (z1l1 _ _ _)⟩
theorem z1vu(r:Rel)(hr:WS .rel r)(h:z176 r):zom r=some (z4g (zfh r)):=z2bv (z2bw r hr h)
def z1l3:FnC Un:=fnF1 (dS .rel) fun r=>([z176 r],z4g (zfh r))
theorem z24h:FnOK 81 z1l3:=fnK1 zr (M:=z7m) rfl ⟨ztp,z28b,zxi,z172,trivial⟩ trivial trivial trivial trivial Tryz.func81 fun r=>GiF.r fun w o=>z1vu r (wfA_ w 0) (obA_ o 0)
end
end B
end Go.Proofs.YtjfpbchdcbhfgaaGreat
