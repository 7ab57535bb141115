/- Part 9 of the proof: Slight3 Slight4 Slight5 Slight6. -/
import Derived.Test.YtjfpbchdcbhfgaaGreatNas8
set_option linter.unusedVariables false
set_option linter.unusedSimpArgs false
namespace Go.Proofs.YtjfpbchdcbhfgaaGreat
namespace B
open Go Go.RowKit
set_option maxRecDepth 100000
noncomputable section
attribute [local irreducible] awp ctxK zx z1d retQ z1o awf ctxF z1l
def z1g6 : Nat→NS:=nsF_ [(4,{ ts:=bl 41 51,bs:=bl 41 0,nm:=[],cs:=true })] true
def zb1 (x:List Val) (cols:List Col) (v0:Int) : S Un:=(st 41 41 164 0 [(0,al .val x),(1,al .col cols),(4,ab false),(5,ai v0)] [] [])
def zpo : S Un→Option (EX Un):=lpF_ zri z1g6 Tryz.f79 [1,1,0,1,2,2] 4
def zvf : Exit→S Un→Option (RF Un):=cxF_ zri z1g6 Tryz.f79 [1,1,0,1,2] [.d]
def z1ta (x:List Val) (cols:List Col) : Option (RF Un):=fnF_ zri z1g6 Tryz.f79 0 [.d] [.d (.v (.dat (U:=Un) Ty.val x)),.d (.v (.dat (U:=Un) Ty.col cols))]
theorem z2bh (x:List Val) (cols:List Col) : z1ta x cols=cndO ((↑x.length:Int) != (↑cols.length:Int)) (some (z8y (false))) (cndO (!zd1 x) (some (z8y (false))) ((zpo (zb1 x cols (0:Int))).bind (zb zvf))):=by kernel_rfl
theorem z1tb (x:List Val) (cols:List Col) (v0:Int) : zpo (zb1 x cols v0)=cndO (decide (v0<(↑x.length:Int))) (obO (0≤v0∧v0<(↑x.length:Int)) (cndO ((x.getD v0.toNat zeroVal).kind != 0) (obO (0≤v0∧v0<(↑x.length:Int)) (obO (0≤v0∧v0<(↑cols.length:Int)) (cndO ((x.getD v0.toNat zeroVal).kind != (cols.getD v0.toNat z41).type) (some (.ret,(zb1 x cols v0))) (zpo (zb1 x cols (IntKind.i64.wrap (v0+1))))))) (zpo (zb1 x cols (IntKind.i64.wrap (v0+1)))))) (some (.exit 0,(zb1 x cols v0))):=lpQ_ (by kernel_rfl)
theorem z1vj (x:List Val) (cols:List Col) (v0:Int) : zvf .ret (zb1 x cols v0)=some (z8y (false)):=by kernel_rfl
theorem z1zf (x:List Val) (cols:List Col) (v0:Int) : zvf (.exit 0) (zb1 x cols v0)=some (z8y (true)):=by kernel_rfl
def z27z (x:List Val) (cols:List Col) (i:Nat) : Bool:=(x.getD i zeroVal).kind == 0 || (x.getD i zeroVal).kind == (cols.getD i z41).type
def z8m (x:List Val) (cols:List Col) : Bool:=decide (x.length=cols.length) && x.all z7q && (List.range x.length).all (z27z x cols)
theorem z23y (x:List Val) (cols:List Col) (hx:WL .val x) (_hc:WL .col cols) : z1ta x cols=some (z8y (z8m x cols)):=by
 have hlen:=hx.len;rw[z2bh];unfold z8m;by_cases c : x.length=cols.length
 ·rw[z7,if_neg (by grind),decide_eq_true c,y1c];have e:zd1 x=x.all z7q:=rfl;rw[e];cases x.all z7q
  ·rfl
  ·refine Eq.trans ?_ (z2s (L:=zpo) (st:=fun i=>zb1 x cols i) (C:=zvf) (e:=.exit 0) (fun b=>some (z8y b)) (l:=List.range x.length) (d:=0) (z27z x cols) (by grind)
    (fun i k hi hk _=>by
     rw[y2r] at hi;rw[z1tb];simp only[z7,hi,decide_true,if_true,and_true,y5];rw[z6 (by omega),z6 (by omega),z6 (by omega)];unfold z27z
     grind)
    (by rw[y2r,z1tb];simp [z7]) (fun i=>z1vj _ _ _) (fun i=>z1zf _ _ _))
   rfl
 ·rw[z7,if_pos (by grind),decide_eq_false c];rfl
def z1g7 : FnC Un:=fnF2 (dL .val) (dL .col) fun x cols=>([],z8y (z8m x cols))
theorem z1tc : FnOK 79 z1g7:=fnK2 zw zw (M:=zri) rfl ⟨z131,trivial⟩ trivial trivial trivial trivial Tryz.func79 fun x cols=>GiF.r fun w _=>z23y x cols (wfA_ w 0) (wfA_ w 1)
def zge : Mc Un:=mcF_ [(79,z1g7)] [] [] [] []
def zb2 : Nat→NS:=nsF_ [(2,{ ts:=bl 43 54,bs:=bl 43 4,nm:=[],cs:=true }),(6,{ ts:=bl 43 118,bs:=bl 43 4,nm:=[],cs:=true })] true
def z5c (r:Rel) (db:List Data) (v0:Int) : S Un:=(st 43 43 172 0 [(1,al .data db),(2,ax 2),(4,ab false),(5,ai v0)] [(2,bg .rel r)] [])
def z91 (r:Rel) (db:List Data) (v0:Int) (v1:Int) : S Un:=(st 43 43 172 0 [(1,al .data db),(2,ax 2),(4,ab false),(5,ai v0),(6,ai v1)] [(2,bg .rel r)] [])
def zbn : S Un→Option (EX Un):=lpF_ zge zb2 Tryz.f78 [1,0,1,2,2] 2
noncomputable def z1d2 : Code:=sub (sub (zi Tryz.f78) [1,0,1,2,2]) [1,0,2,1,1,2,2]
def zo0 : S Un→Option (EX Un):=z1l (zb2 6) (fun s Q=>awf zge zb2 z1d2 s Q)
def zo1 : Exit→S Un→Option (RF Un):=cxF_ zge zb2 Tryz.f78 [1,0,1,2] [.d]
def zo2 : Exit→S Un→Option (EX Un):=ctxF zge zb2 (sub (zi Tryz.f78) [1,0,1,2,2]) [1,0,2,1,1,2] (zby (zb2 2) zbn)
def z1d3 (r:Rel) (db:List Data) : Option (RF Un):=fnF_ zge zb2 Tryz.f78 0 [.d] [.d (.agg (enc Ty.rel r)),.d (.v (.dat (U:=Un) Ty.data db))]
theorem z23z (r:Rel) (db:List Data) : z1d3 r db=(zbn (z5c r db (0:Int))).bind (zb zo1):=by kernel_rfl
theorem z1d4 (r:Rel) (db:List Data) (v0:Int) : zbn (z5c r db v0)=cndO (decide (v0<(↑db.length:Int))) (obO (0≤v0∧v0<(↑db.length:Int)) (cndO (!(db.getD v0.toNat z33).table.toList == r.table.toList) (zbn (z5c r db (IntKind.i64.wrap (v0+1)))) ((zo0 (z91 r db v0 (0:Int))).bind (zb zo2)))) (some (.exit 0,(z5c r db v0))):=lpQ_ (by kernel_rfl)
theorem z1pr (r:Rel) (db:List Data) (v0:Int) : zo1 (.exit 0) (z5c r db v0)=some (z8y (true)):=by kernel_rfl
theorem z1d5 (r:Rel) (db:List Data) (v0:Int) (v1:Int) : zo0 (z91 r db v0 v1)=obO (0≤v0∧v0<(↑db.length:Int)) (cndO (decide (v1<(↑(db.getD v0.toNat z33).rows.length:Int))) (obO (0≤v0∧v0<(↑db.length:Int)) (obO (0≤v1∧v1<(↑(db.getD v0.toNat z33).rows.length:Int)) (cndO (!z8m ((db.getD v0.toNat z33).rows.getD v1.toNat []) r.cols) (some (.ret,(z91 r db v0 v1))) (zo0 (z91 r db v0 (IntKind.i64.wrap (v1+1))))))) (some (.exit 2,(z91 r db v0 v1)))):=(zbe (zb2 6) z1d2 _).trans (by kernel_rfl)
theorem z1kf (r:Rel) (db:List Data) (v0:Int) (v1:Int) : zo2 .ret (z91 r db v0 v1)=some (.ret,(z5c r db v0)):=by kernel_rfl
theorem z1kg (r:Rel) (db:List Data) (v0:Int) : zo1 .ret (z5c r db v0)=some (z8y (false)):=by kernel_rfl
theorem z1ps (r:Rel) (db:List Data) (v0:Int) (v1:Int) : zo2 (.exit 2) (z91 r db v0 v1)=zbn (z5c r db (IntKind.i64.wrap (v0+1))):=by kernel_rfl
def zmv (r:Rel) (db:List Data) : Bool:=db.all fun d=>!(d.table.toList == r.table.toList) || d.rows.all fun x=>z8m x r.cols
theorem z1vk (r:Rel) (db:List Data) (_hr:WS .rel r) (hd:WL .data db) : z1d3 r db=some (z8y (zmv r db)):=by
 rw[z23z]
 exact z2s (L:=zbn) (st:=fun i=>z5c r db i) (C:=zo1) (e:=.exit 0) (fun b=>some (z8y b)) (l:=db) (d:=z33) (fun d=>!(d.table.toList == r.table.toList) || d.rows.all fun x=>z8m x r.cols) hd.len
  (fun i d hi hk hmem=>by
   have li:=z2s (L:=zo0) (st:=fun j=>z91 r db i j) (C:=zo2) (e:=.exit 2) (fun b=>if b=true then zbn (z5c r db (IntKind.i64.wrap ((i:Int)+1))) else some (.ret,z5c r db i)) (l:=d.rows) (d:=[]) (fun x=>z8m x r.cols) (WS.data_rows (WL.get hd hmem)).len
    (fun j x hj hx _=>by
     rw[z1d5];simp only[z7,hi,y5,hk,hj,hx,decide_true,if_true,and_true]
     grind [z6,z8m])
    (by rw[z1d5];simp_all [z7,y5,decide_eq_true_eq,z6,if_neg]) (fun j=>z1kf _ _ _ _) (fun j=>z1ps _ _ _ _)
   rw[z1d4];simp only[z7,hi,y5,hk,decide_true,if_true,and_true]
   grind [z6])
  (by rw[z1d4];simp [z7]) (fun i=>z1kg _ _ _) (fun i=>z1pr _ _ _)
def z1kh : FnC Un:=fnF2 (dS .rel) (dL .data) fun r db=>([],z8y (zmv r db))
theorem z240 : FnOK 78 z1kh:=fnK2 zo zw (M:=zge) rfl ⟨z1tc,trivial⟩ trivial trivial trivial trivial Tryz.func78 fun r db=>GiF.r fun w _=>z1vk r db (wfA_ w 0) (wfA_ w 1)
mutual
def fitT (db:List Data) : Term→Bool
 | .mk _ _ _ _ _ kids sub _=>z11y db kids && z1ki db sub
def z11y (db:List Data) : List Term→Bool
 | []=>true
 | t::l=>fitT db t && z11y db l
def fitA (db:List Data) : Agg→Bool
 | .mk _ _ t=>z11y db t
def z1xd (db:List Data) : List Agg→Bool
 | []=>true
 | a::l=>fitA db a && z1xd db l
def fitR (db:List Data) : Rel→Bool
 | .mk op table cols kids terms aggs keys limit skip all rows=>if op=1 then zmv (.mk op table cols kids terms aggs keys limit skip all rows) db else z1ki db kids && (z11y db terms && z1xd db aggs)
def z1ki (db:List Data) : List Rel→Bool
 | []=>true
 | r::l=>fitR db r && z1ki db l
end
theorem zvg (db:List Data) : ∀ l : List Term,z11y db l=l.all fun t=>fitT db t
 | []=>by rfl
 | t::l=>by simp only[z11y,y1h,zvg db l]
theorem z16p (db:List Data) : ∀ l : List Rel,z1ki db l=l.all fun t=>fitR db t
 | []=>by rfl
 | t::l=>by simp only[z1ki,y1h,z16p db l]
theorem z2hj (db:List Data) (a:Agg) : fitA db a=z11y db a.t:=by cases a;rfl
theorem z1td (db:List Data) : ∀ l : List Agg,z1xd db l=l.all fun a=>a.t.all fun t=>fitT db t
 | []=>by rfl
 | t::l=>by simp only[z1xd,y1h,z1td db l,z2hj,zvg]
theorem z1pt (db:List Data) (t:Term) : fitT db t=(t.kids.all (fun t=>fitT db t) && t.sub.all fun t=>fitR db t):=by cases t;simp only[fitT,zvg,z16p,Term.kids_mk,Term.sub_mk]
theorem z1ae (db:List Data) (r:Rel) : fitR db r=if r.op=1 then zmv r db else r.kids.all (fun t=>fitR db t) && (r.terms.all (fun t=>fitT db t) && r.aggs.all fun a=>a.t.all fun t=>fitT db t):=by
 cases r;simp only[fitR,zvg,z16p,z1td,Rel.op_mk,Rel.kids_mk,Rel.terms_mk,Rel.aggs_mk];rfl
def zd2 (t:Term) (db:List Data) : Bool:=fitT db t
def zbo (r:Rel) (db:List Data) : Bool:=fitR db r
def zo3 (m:Nat) : FnC Un:=fnF2 (dS .term) (dL .data) fun t db=>z2l (2*t.ht) m ([t.sz≤2000000],z8y (zd2 t db))
def zo4 (m:Nat) : FnC Un:=fnF2 (dS .rel) (dL .data) fun r db=>z2l (2*r.ht+1) m ([r.sz≤2000000],z8y (zbo r db))
def zgf (m:Nat) : Mc Un:=mcF_ [(20,zo3 m),(41,zo4 m)] [] [] [] []
def zkx : Nat→NS:=nsF_ [(2,{ ts:=bl 37 54,bs:=bl 37 4,nm:=[],cs:=true }),(7,{ ts:=bl 37 86,bs:=bl 37 4,nm:=[],cs:=true })] true
def z92 (t:Term) (db:List Data) (v0:Int) : S Un:=(st 37 37 148 0 [(1,al .data db),(2,ax 2),(4,ab false),(5,ai v0)] [(2,bg .term t)] [])
def z93 (t:Term) (db:List Data) (v1:Int) : S Un:=(st 37 37 148 0 [(1,al .data db),(2,ax 2),(4,ab false),(6,ai v1)] [(2,bg .term t)] [])
def zo5 (m:Nat) : S Un→Option (EX Un):=lpF_ (zgf m) zkx Tryz.f20 [1,0,1,2,2] 2
def zo6 (m:Nat) : S Un→Option (EX Un):=lpF_ (zgf m) zkx Tryz.f20 [1,1,0,1,2,2] 7
def zo7 (m:Nat) : Exit→S Un→Option (RF Un):=cxF_ (zgf m) zkx Tryz.f20 [1,0,1,2] [.d]
def zo8 (m:Nat) : Exit→S Un→Option (RF Un):=cxF_ (zgf m) zkx Tryz.f20 [1,1,0,1,2] [.d]
def z1d6 (m:Nat) (t:Term) (db:List Data) : Option (RF Un):=fnF_ (zgf m) zkx Tryz.f20 0 [.d] [.d (.agg (enc Ty.term t)),.d (.v (.dat (U:=Un) Ty.data db))]
theorem z241 (m:Nat) (t:Term) (db:List Data) : z1d6 m t db=(zo5 m (z92 t db (0:Int))).bind (zb (zo7 m)):=by kernel_rfl
theorem z1d7 (m:Nat) (t:Term) (db:List Data) (v0:Int) : zo5 m (z92 t db v0)=cndO (decide (v0<(↑t.kids.length:Int))) (obO (0≤v0∧v0<(↑t.kids.length:Int)) (obO ((2:Nat)*(Term.ids (t.kids.getD v0.toNat za)).ht<m) (obO ((Term.ids (t.kids.getD v0.toNat za)).sz≤(2000000:Nat)) (cndO (!zd2 (Term.ids (t.kids.getD v0.toNat za)) db) (some (.ret,(z92 t db v0))) (zo5 m (z92 t db (IntKind.i64.wrap (v0+1)))))))) (some (.exit 0,(z92 t db v0))):=lpQ_ (by kernel_rfl)
theorem z1kj (m:Nat) (t:Term) (db:List Data) (v0:Int) : zo7 m .ret (z92 t db v0)=some (z8y (false)):=by kernel_rfl
theorem z1pu (m:Nat) (t:Term) (db:List Data) (v0:Int) : zo7 m (.exit 0) (z92 t db v0)=(zo6 m (z93 t db (0:Int))).bind (zb (zo8 m)):=by kernel_rfl
theorem z1d8 (m:Nat) (t:Term) (db:List Data) (v1:Int) : zo6 m (z93 t db v1)=cndO (decide (v1<(↑t.sub.length:Int))) (obO (0≤v1∧v1<(↑t.sub.length:Int)) (obO ((2:Nat)*(Rel.ids (t.sub.getD v1.toNat z8)).ht+(1:Nat)<m) (obO ((Rel.ids (t.sub.getD v1.toNat z8)).sz≤(2000000:Nat)) (cndO (!zbo (Rel.ids (t.sub.getD v1.toNat z8)) db) (some (.ret,(z93 t db v1))) (zo6 m (z93 t db (IntKind.i64.wrap (v1+1)))))))) (some (.exit 2,(z93 t db v1))):=lpQ_ (by kernel_rfl)
theorem z1kk (m:Nat) (t:Term) (db:List Data) (v1:Int) : zo8 m .ret (z93 t db v1)=some (z8y (false)):=by kernel_rfl
theorem z1pv (m:Nat) (t:Term) (db:List Data) (v1:Int) : zo8 m (.exit 2) (z93 t db v1)=some (z8y (true)):=by kernel_rfl
theorem z1vl (m:Nat) (t:Term) (db:List Data) (ht:WS .term t) (_hd:WL .data db) (hm:2*t.ht<m+1) (h:t.sz≤2000000) : z1d6 m t db=some (z8y (zd2 t db)):=by
 have lq:=z2s (L:=zo6 m) (st:=fun i=>z93 t db i) (C:=zo8 m) (e:=.exit 2) (fun b=>some (z8y b)) (l:=t.sub) (d:=z8) (fun t=>fitR db t) (ht.term_sub).len
  (fun i k hi hk hmem=>by
   have h1:=Term.ht_sub hmem;have h2:=zkm hmem;rw[z1d8];simp only[z7,hi,decide_true,if_true,and_true,y5,hk,Rel.ids_eq]
   grind [z6,zbo,fitR])
  (by rw[z1d8];simp [z7]) (fun i=>z1kk _ _ _ _) (fun i=>z1pv _ _ _ _)
 rw[z241]
 refine (z2s (L:=zo5 m) (st:=fun i=>z92 t db i) (C:=zo7 m) (e:=.exit 0) (fun b=>some (z8y (b && t.sub.all fun t=>fitR db t))) (l:=t.kids) (d:=za) (fun t=>fitT db t) (ht.term_kids).len
  (fun i k hi hk hmem=>by
   have h1:=Term.ht_kid hmem;have h2:=zkl hmem;rw[z1d7];simp only[z7,hi,decide_true,if_true,and_true,y5,hk,Term.ids_eq]
   grind [z6,zd2,fitT])
  (by rw[z1d7];simp [z7]) (fun i=>by simp [y1w,z1kj]) (fun i=>by simp_all [y1c,z1pu,trans])).trans ?_
 rw[zd2,z1pt]
abbrev z1pw (m:Nat) : Prop:=FnOK 20 (zo3 m)∧FnOK 41 (zo4 m)
theorem z1zg (m:Nat) (hG:z1pw m) : FnOK 20 (zo3 (m+1)):=fnK2 zo zw (M:=(zgf m)) rfl ⟨hG.1,hG.2,trivial⟩ trivial trivial trivial trivial Tryz.func20 fun t db=>GiF.r fun w o=>z1vl m t db (wfA_ w 0) (wfA_ w 1) (obA_ o 0) (obA_ o 1)
def z7n (m:Nat) : Mc Un:=mcF_ [(78,z1kh),(41,zo4 m),(20,zo3 m)] [] [] [] []
def z5i : Nat→NS:=nsF_ [(4,{ ts:=bl 75 54,bs:=bl 75 4,nm:=[],cs:=true }),(9,{ ts:=bl 75 86,bs:=bl 75 4,nm:=[],cs:=true }),(14,{ ts:=bl 75 150,bs:=bl 75 4,nm:=[],cs:=true }),(17,{ ts:=bl 75 406,bs:=bl 75 4,nm:=[],cs:=true })] true
def z94 (r:Rel) (db:List Data) (v0:Int) : S Un:=(st 75 75 300 0 [(1,al .data db),(2,ax 2),(4,ab false),(5,ai v0)] [(2,bg .rel r)] [])
def z95 (r:Rel) (db:List Data) (v1:Int) : S Un:=(st 75 75 300 0 [(1,al .data db),(2,ax 2),(4,ab false),(6,ai v1)] [(2,bg .rel r)] [])
def z5d (r:Rel) (db:List Data) (v2:Int) : S Un:=(st 75 75 300 0 [(1,al .data db),(2,ax 2),(4,ab false),(7,ai v2)] [(2,bg .rel r)] [])
def z7u (r:Rel) (db:List Data) (v2:Int) (v3:Int) : S Un:=(st 75 75 300 0 [(1,al .data db),(2,ax 2),(4,ab false),(7,ai v2),(8,ai v3)] [(2,bg .rel r)] [])
def zo9 (m:Nat) : S Un→Option (EX Un):=lpF_ (z7n m) z5i Tryz.f41 [1,1,0,1,2,2] 4
def zoa (m:Nat) : S Un→Option (EX Un):=lpF_ (z7n m) z5i Tryz.f41 [1,1,1,0,1,2,2] 9
def zcb (m:Nat) : S Un→Option (EX Un):=lpF_ (z7n m) z5i Tryz.f41 [1,1,1,1,0,1,2,2] 14
noncomputable def z16q : Code:=sub (sub (zi Tryz.f41) [1,1,1,1,0,1,2,2]) [1,0,2,1,2,2]
def zky (m:Nat) : S Un→Option (EX Un):=z1l (z5i 17) (fun s Q=>awf (z7n m) z5i z16q s Q)
def zob (m:Nat) : Exit→S Un→Option (RF Un):=cxF_ (z7n m) z5i Tryz.f41 [1,1,0,1,2] [.d]
def zoc (m:Nat) : Exit→S Un→Option (RF Un):=cxF_ (z7n m) z5i Tryz.f41 [1,1,1,0,1,2] [.d]
def zkz (m:Nat) : Exit→S Un→Option (RF Un):=cxF_ (z7n m) z5i Tryz.f41 [1,1,1,1,0,1,2] [.d]
def zl0 (m:Nat) : Exit→S Un→Option (EX Un):=ctxF (z7n m) z5i (sub (zi Tryz.f41) [1,1,1,1,0,1,2,2]) [1,0,2,1,2] (zby (z5i 14) (zcb m))
def z1d9 (m:Nat) (r:Rel) (db:List Data) : Option (RF Un):=fnF_ (z7n m) z5i Tryz.f41 0 [.d] [.d (.agg (enc Ty.rel r)),.d (.v (.dat (U:=Un) Ty.data db))]
theorem z242 (m:Nat) (r:Rel) (db:List Data) : z1d9 m r db=cndO (r.op == 1) (some (z8y (zmv (Rel.ids r) db))) ((zo9 m (z94 r db (0:Int))).bind (zb (zob m))):=by kernel_rfl
theorem z1da (m:Nat) (r:Rel) (db:List Data) (v0:Int) : zo9 m (z94 r db v0)=cndO (decide (v0<(↑r.kids.length:Int))) (obO (0≤v0∧v0<(↑r.kids.length:Int)) (obO ((2:Nat)*(Rel.ids (r.kids.getD v0.toNat z8)).ht+(1:Nat)<m) (obO ((Rel.ids (r.kids.getD v0.toNat z8)).sz≤(2000000:Nat)) (cndO (!zbo (Rel.ids (r.kids.getD v0.toNat z8)) db) (some (.ret,(z94 r db v0))) (zo9 m (z94 r db (IntKind.i64.wrap (v0+1)))))))) (some (.exit 0,(z94 r db v0))):=lpQ_ (by kernel_rfl)
theorem z1kl (m:Nat) (r:Rel) (db:List Data) (v0:Int) : zob m .ret (z94 r db v0)=some (z8y (false)):=by kernel_rfl
theorem z1px (m:Nat) (r:Rel) (db:List Data) (v0:Int) : zob m (.exit 0) (z94 r db v0)=(zoa m (z95 r db (0:Int))).bind (zb (zoc m)):=by kernel_rfl
theorem z1db (m:Nat) (r:Rel) (db:List Data) (v1:Int) : zoa m (z95 r db v1)=cndO (decide (v1<(↑r.terms.length:Int))) (obO (0≤v1∧v1<(↑r.terms.length:Int)) (obO ((2:Nat)*(Term.ids (r.terms.getD v1.toNat za)).ht<m) (obO ((Term.ids (r.terms.getD v1.toNat za)).sz≤(2000000:Nat)) (cndO (!zd2 (Term.ids (r.terms.getD v1.toNat za)) db) (some (.ret,(z95 r db v1))) (zoa m (z95 r db (IntKind.i64.wrap (v1+1)))))))) (some (.exit 2,(z95 r db v1))):=lpQ_ (by kernel_rfl)
theorem z1km (m:Nat) (r:Rel) (db:List Data) (v1:Int) : zoc m .ret (z95 r db v1)=some (z8y (false)):=by kernel_rfl
theorem z1py (m:Nat) (r:Rel) (db:List Data) (v1:Int) : zoc m (.exit 2) (z95 r db v1)=(zcb m (z5d r db (0:Int))).bind (zb (zkz m)):=by kernel_rfl
theorem z16r (m:Nat) (r:Rel) (db:List Data) (v2:Int) : zcb m (z5d r db v2)=cndO (decide (v2<(↑r.aggs.length:Int))) ((zky m (z7u r db v2 (0:Int))).bind (zb (zl0 m))) (some (.exit 4,(z5d r db v2))):=lpQ_ (by kernel_rfl)
theorem z1kn (m:Nat) (r:Rel) (db:List Data) (v2:Int) : zkz m (.exit 4) (z5d r db v2)=some (z8y (true)):=by kernel_rfl
theorem z16s (m:Nat) (r:Rel) (db:List Data) (v2:Int) (v3:Int) : zky m (z7u r db v2 v3)=obO (0≤v2∧v2<(↑r.aggs.length:Int)) (cndO (decide (v3<(↑(Agg.t (r.aggs.getD v2.toNat zn)).length:Int))) (obO (0≤v2∧v2<(↑r.aggs.length:Int)) (obO (0≤v3∧v3<(↑(Agg.t (r.aggs.getD v2.toNat zn)).length:Int)) (obO ((2:Nat)*(Term.ids ((Agg.t (r.aggs.getD v2.toNat zn)).getD v3.toNat za)).ht<m) (obO ((Term.ids ((Agg.t (r.aggs.getD v2.toNat zn)).getD v3.toNat za)).sz≤(2000000:Nat)) (cndO (!zd2 (Term.ids ((Agg.t (r.aggs.getD v2.toNat zn)).getD v3.toNat za)) db) (some (.ret,(z7u r db v2 v3))) (zky m (z7u r db v2 (IntKind.i64.wrap (v3+1))))))))) (some (.exit 6,(z7u r db v2 v3)))):=(zbe (z5i 17) z16q _).trans (by kernel_rfl)
theorem z1g8 (m:Nat) (r:Rel) (db:List Data) (v2:Int) (v3:Int) : zl0 m .ret (z7u r db v2 v3)=some (.ret,(z5d r db v2)):=by kernel_rfl
theorem z1g9 (m:Nat) (r:Rel) (db:List Data) (v2:Int) : zkz m .ret (z5d r db v2)=some (z8y (false)):=by kernel_rfl
theorem z1ko (m:Nat) (r:Rel) (db:List Data) (v2:Int) (v3:Int) : zl0 m (.exit 6) (z7u r db v2 v3)=zcb m (z5d r db (IntKind.i64.wrap (v2+1))):=by kernel_rfl
theorem z1vm (m:Nat) (r:Rel) (db:List Data) (hr:WS .rel r) (_hd:WL .data db) (hm:2*r.ht+1<m+1) (h:r.sz≤2000000) : z1d9 m r db=some (z8y (zbo r db)):=by
 obtain⟨p1,p2⟩:=ztj r;have h3:=r.sz_eq
 have l3:=z2s (L:=zcb m) (st:=fun i=>z5d r db i) (C:=zkz m) (e:=.exit 4) (fun b=>some (z8y b)) (l:=r.aggs) (d:=zn) (fun a=>a.t.all fun t=>fitT db t) (hr.rel_aggs).len
  (fun i k hi hk hmem=>by
   have li:=z2s (L:=zky m) (st:=fun j=>z7u r db i j) (C:=zl0 m) (e:=.exit 6) (fun b=>if b=true then zcb m (z5d r db (IntKind.i64.wrap ((i:Int)+1))) else some (.ret,z5d r db i)) (l:=k.t) (d:=za) (fun t=>fitT db t) (by have:=z5s k.t;have:=zms hmem;have:=k.sz_eq;omega)
    (fun j t hj ht htm=>by
     rw[z16s];simp only[hk,z7,hi,hj,decide_true,if_true,and_true,y5,ht,Term.ids_eq]
     grind [z6,zd2,fitT])
    (by rw[z16s];simp_all [z7,y5,decide_eq_true_eq,z6,if_neg]) (fun j=>z1g8 _ _ _ _ _) (fun j=>z1ko _ _ _ _ _)
   simp_all [z16r,z7,decide_true,if_true])
  (by rw[z16r];simp [z7]) (fun i=>z1g9 _ _ _ _) (fun i=>z1kn _ _ _ _)
 have l2:=z2s (L:=zoa m) (st:=fun i=>z95 r db i) (C:=zoc m) (e:=.exit 2) (fun b=>some (z8y (b && r.aggs.all fun a=>a.t.all fun t=>fitT db t))) (l:=r.terms) (d:=za) (fun t=>fitT db t) (hr.rel_terms).len
  (fun i k hi hk hmem=>by
   rw[z1db];simp only[z7,hi,decide_true,if_true,and_true,y5,hk,Term.ids_eq]
   grind [z6,zd2,fitT])
  (by rw[z1db];simp [z7]) (fun i=>by simp [y1w,z1km]) (fun i=>by simp_all [y1c,z1py,trans])
 rw[z242,z7,zbo,z1ae];by_cases c : r.op=1
 ·simp_all [if_pos,Rel.ids_eq]
 ·rw[if_neg (by grind),if_neg c]
  exact z2s (L:=zo9 m) (st:=fun i=>z94 r db i) (C:=zob m) (e:=.exit 0) (fun b=>some (z8y (b && (r.terms.all (fun t=>fitT db t) && r.aggs.all fun a=>a.t.all fun t=>fitT db t)))) (l:=r.kids) (d:=z8) (fun t=>fitR db t) (hr.rel_kids).len
   (fun i k hi hk hmem=>by
    have h1:=Rel.ht_kid hmem;have h2:=z9h hmem;rw[z1da];simp only[z7,hi,decide_true,if_true,and_true,y5,hk,Rel.ids_eq]
    grind [z6,zbo,fitR])
   (by rw[z1da];simp [z7]) (fun i=>by simp [y1w,z1kl]) (fun i=>by simp_all [y1c,z1px,trans])
theorem z1zh (m:Nat) (hG:z1pw m) : FnOK 41 (zo4 (m+1)):=fnK2 zo zw (M:=(z7n m)) rfl ⟨z240,hG.2,hG.1,trivial⟩ trivial trivial trivial trivial Tryz.func41 fun r db=>GiF.r fun w o=>z1vm m r db (wfA_ w 0) (wfA_ w 1) (obA_ o 0) (obA_ o 1)
theorem zxk : ∀ m,z1pw m
 | 0=>⟨fnZ2,fnZ2⟩
 | m+1=>⟨z1zg m (zxk m),z1zh m (zxk m)⟩
def z1kp : FnC Un:=fnF2 (dS .rel) (dL .data) fun r db=>([r.sz≤2000000],z8y (zbo r db))
theorem z243 : FnOK 41 z1kp:=fnA2 fun m=>(zxk m).2
end
end B
namespace B
open Go Go.RowKit
set_option maxRecDepth 100000
noncomputable section
attribute [local irreducible] awp ctxK zx z1d retQ z1o awf ctxF z1l
def z1dc (k:Int) : Option (RF Un):=fnF_ z1c5 z23e Tryz.f110 0 [.d] [.d (.v (.s (.int .i64 k)))]
theorem z244 (k:Int) : z1dc k=cndO (k == 0) (some (z8y (true))) (cndO (k == 1) (some (z8y (true))) (cndO (k == 2) (some (z8y (true))) (some (z8y (k == 3))))):=by kernel_rfl
def z1af {σ α:Type} (f:σ→α→Option σ) : σ→List α→Option σ
 | a,[]=>some a
 | a,x::l=>match f a x with | some b=>z1af f b l | none=>none
theorem z1zi {σ α β:Type} {L:S Un→Option (EX Un)} {st rt:σ→Int→S Un} {C:Exit→S Un→Option β} (R:Option σ→Option β) {l:List α} {d:α} {e:Exit} (f:σ→α→Option σ) (Inv:Nat→σ→Prop) (hl:l.length≤9223372036854775807)
  (step:∀ (a:σ) (i:Nat) (x:α),(i:Int)<(l.length:Int)→l.getD i d=x→x∈l→Inv i a→(∀ b,f a x=some b→Inv (i+1) b)∧L (st a i)=match f a x with | some b=>L (st b (IntKind.i64.wrap ((i:Int)+1))) | none=>some (.ret,rt a i))
  (stop:∀ a,L (st a (l.length:Int))=some (e,st a (l.length:Int))) (r1:∀ (a:σ) (i:Int),C .ret (rt a i)=R none) (r2:∀ a,C e (st a (l.length:Int))=R (some a)) (a:σ) (h0:Inv 0 a) : (L (st a 0)).bind (zb C)=R (z1af f a l):=by
 have key:∀ (r:List α) (i:Nat) (a:σ),l.drop i=r→i≤l.length→Inv i a→(L (st a i)).bind (zb C)=R (z1af f a r):=by
  intro r
  induction r with
  | nil =>
   intro i a hr hi _;have : l.length≤i:=y1o.1 hr;have e:i=l.length:=by omega
   rw[e,stop];exact r2 _
  | cons x r ih =>
   intro i a hr hi hI;have hlt:i<l.length:=by
    grind
   have hx:l.getD i d=x:=by
    have:=y25 (xs:=l) (i:=i) (j:=0);grind
   have hm:x∈l:=by grind
   have hr2:l.drop (i+1)=r:=by grind [List.tail_drop]
   obtain⟨hs1,hs2⟩:=step a i x (by omega) hx hm hI;rw[hs2];simp only[z1af];cases hq : f a x with
   | none=>exact r1 _ _
   | some b =>
    grind [z3p]
 grind
def z4n (k:Int) : Bool:=decide (k=0∨k=1∨k=2∨k=3)
theorem z1vn (k:Int) (_h:WI k) : z1dc k=some (z8y (z4n k)):=by
 rw[z244];unfold z4n;simp only[z7,beq_iff_eq];grind
def zrx : FnC Un:=fnF1 (dI .i64) fun k=>([],z8y (z4n k))
theorem zxl : FnOK 110 zrx:=fnK1 z1a (M:=z1c5) rfl trivial trivial trivial trivial trivial Tryz.func110 fun k=>GiF.r fun w _=>z1vn k (wfA_ w 0)
def z1kr : Mc Un:=mcF_ [(110,zrx)] [] [] [] []
def z1dd (a:Int) (b:Int) : Option (RF Un):=fnF_ z1kr z23e Tryz.f108 0 [.d] [.d (.v (.s (.int .i64 a))),.d (.v (.s (.int .i64 b)))]
theorem z245 (a:Int) (b:Int) : z1dd a b=cndO (z4n a) (cndO (z4n b) (cndO (a == b) (some (z8y (true))) (cndO (a == 0) (some (z8y (true))) (some (z8y (b == 0))))) (some (z8y (false)))) (some (z8y (false))):=by kernel_rfl
def z6i (a b:Int) : Bool:=z4n a && z4n b && decide (a=b∨a=0∨b=0)
theorem z1vo (a b:Int) (_ha:WI a) (_hb:WI b) : z1dd a b=some (z8y (z6i a b)):=by
 rw[z245];unfold z6i;cases z4n a
 ·rfl
 cases z4n b
 ·rfl
 simp only[z7,if_true,beq_iff_eq];grind
def zl1 : FnC Un:=fnF2 (dI .i64) (dI .i64) fun a b=>([],z8y (z6i a b))
theorem zod : FnOK 108 zl1:=fnK2 z1a z1a (M:=z1kr) rfl ⟨zxl,trivial⟩ trivial trivial trivial trivial Tryz.func108 fun a b=>GiF.r fun w _=>z1vo a b (wfA_ w 0) (wfA_ w 1)
def z1ks : Mc Un:=mcF_ [(108,zl1)] [] [] [] []
def zl2 (r:Int×Bool) : RF Un:=([.c (.s (.int .i64 r.1)),.c (.s (.bool r.2))],[])
def z1de (a:Int) (b:Int) : Option (RF Un):=fnF_ z1ks z23e Tryz.f61 0 [.d,.d] [.d (.v (.s (.int .i64 a))),.d (.v (.s (.int .i64 b)))]
theorem z246 (a:Int) (b:Int) : z1de a b=cndO (!z6i a b) (some (zl2 ((0:Int),false))) (cndO (a == 0) (some (zl2 (b,true))) (some (zl2 (a,true)))):=by kernel_rfl
def z5t (a b:Int) : Int×Bool:=if z6i a b=true then (if a=0 then (b,true) else (a,true)) else (0,false)
theorem z1vp (a b:Int) (_ha:WI a) (_hb:WI b) : z1de a b=some (zl2 (z5t a b)):=by
 rw[z246];unfold z5t;cases z6i a b
 ·rfl
 ·rw[y46,z7,if_neg (by simp),z7,if_pos rfl];grind
def zry : FnC Un:=fnF2 (dI .i64) (dI .i64) fun a b=>([],zl2 (z5t a b))
theorem zxm : FnOK 61 zry:=fnK2 z1a z1a (M:=z1ks) rfl ⟨zod,trivial⟩ trivial trivial trivial trivial Tryz.func61 fun a b=>GiF.r fun w _=>z1vp a b (wfA_ w 0) (wfA_ w 1)
def z96 (l:List Int) (k:Int) (v0:Int) : S Un:=(st 19 19 76 0 [(0,al .int l),(1,ai k),(4,ab false),(5,ai v0)] [] [])
def zoe : S Un→Option (EX Un):=lpF_ z1ks z165 Tryz.f106 [1,0,1,2,2] 2
def zof : Exit→S Un→Option (RF Un):=cxF_ z1ks z165 Tryz.f106 [1,0,1,2] [.d]
def z1df (l:List Int) (k:Int) : Option (RF Un):=fnF_ z1ks z165 Tryz.f106 0 [.d] [.d (.v (.dat (U:=Un) Ty.int l)),.d (.v (.s (.int .i64 k)))]
theorem z247 (l:List Int) (k:Int) : z1df l k=(zoe (z96 l k (0:Int))).bind (zb zof):=by kernel_rfl
theorem z1dg (l:List Int) (k:Int) (v0:Int) : zoe (z96 l k v0)=cndO (decide (v0<(↑l.length:Int))) (obO (0≤v0∧v0<(↑l.length:Int)) (cndO (!z6i (l.getD v0.toNat (0:Int)) k) (some (.ret,(z96 l k v0))) (zoe (z96 l k (IntKind.i64.wrap (v0+1)))))) (some (.exit 0,(z96 l k v0))):=lpQ_ (by kernel_rfl)
theorem z1kt (l:List Int) (k:Int) (v0:Int) : zof .ret (z96 l k v0)=some (z8y (false)):=by kernel_rfl
theorem z1pz (l:List Int) (k:Int) (v0:Int) : zof (.exit 0) (z96 l k v0)=some (z8y (true)):=by kernel_rfl
def z1t (l:List Int) (k:Int) : Bool:=l.all fun a=>z6i a k
theorem z1vq (l:List Int) (k:Int) (hl:WL .int l) (_hk:WI k) : z1df l k=some (z8y (z1t l k)):=by
 rw[z247]
 exact z2s (L:=zoe) (st:=fun i=>z96 l k i) (C:=zof) (e:=.exit 0) (fun b=>some (z8y b)) (l:=l) (d:=0) (fun a=>z6i a k) hl.len
  (fun i x hi hx _=>by
   rw[z1dg];simp only[z7,hi,decide_true,if_true,and_true,y5,hx]
   grind [z6,z6i])
  (by rw[z1dg];simp [z7]) (fun i=>z1kt _ _ _) (fun i=>z1pz _ _ _)
def z120 : FnC Un:=fnF2 (dL .int) (dI .i64) fun l k=>([],z8y (z1t l k))
theorem z1dh : FnOK 106 z120:=fnK2 zw z1a (M:=z1ks) rfl ⟨zod,trivial⟩ trivial trivial trivial trivial Tryz.func106 fun l k=>GiF.r fun w _=>z1vq l k (wfA_ w 0) (wfA_ w 1)
def zl4 : Mc Un:=mcF_ [(61,zry)] [] [] [] []
def ztm : Nat→NS:=nsF_ [(3,{ ts:=bl 27 61,bs:=bl 27 0,nm:=[],cs:=true })] true
def z5j (l:List Int) (v0:Int) (v1:Int) : S Un:=(st 27 27 108 0 [(0,al .int l),(2,ai (0:Int)),(3,ab false),(4,ai v0),(5,ai v1)] [] [])
def zig : S Un→Option (EX Un):=lpF_ zl4 ztm Tryz.f107 [1,1,0,1,2,2] 3
def zih : Exit→S Un→Option (RF Un):=cxF_ zl4 ztm Tryz.f107 [1,1,0,1,2] [.d,.d]
def z13k (l:List Int) : Option (RF Un):=fnF_ zl4 ztm Tryz.f107 0 [.d,.d] [.d (.v (.dat (U:=Un) Ty.int l))]
theorem z1vr (l:List Int) : z13k l=(zig (z5j l (0:Int) (0:Int))).bind (zb zih):=by kernel_rfl
theorem z13l (l:List Int) (v0:Int) (v1:Int) : zig (z5j l v0 v1)=cndO (decide (v1<(↑l.length:Int))) (obO (0≤v1∧v1<(↑l.length:Int)) (cndO (!(z5t v0 (l.getD v1.toNat (0:Int))).snd) (some (.ret,(z5j l v0 v1))) (zig (z5j l ((z5t v0 (l.getD v1.toNat (0:Int))).fst) (IntKind.i64.wrap (v1+1)))))) (some (.exit 0,(z5j l v0 v1))):=lpQ_ (by kernel_rfl)
theorem z1b5 (l:List Int) (v0:Int) (v1:Int) : zih .ret (z5j l v0 v1)=some (zl2 ((0:Int),false)):=by kernel_rfl
theorem z1ga (l:List Int) (v0:Int) (v1:Int) : zih (.exit 0) (z5j l v0 v1)=some (zl2 (v0,true)):=by kernel_rfl
def z283 (k x:Int) : Option Int:=if (z5t k x).2=true then some (z5t k x).1 else none
def z3c (l:List Int) : Int×Bool:=match z1af z283 0 l with | some k=>(k,true) | none=>(0,false)
theorem z1ku (l:List Int) (hl:WL .int l) : z13k l=some (zl2 (z3c l)):=by
 rw[z1vr]
 exact z1zi (L:=zig) (st:=fun (k:Int) i=>z5j l k i) (C:=zih) (e:=.exit 0) (rt:=fun (k:Int) i=>z5j l k i) (fun o=>some (zl2 (match o with | some k=>(k,true) | none=>(0,false)))) (l:=l) (d:=0) z283 (fun _ _=>True) hl.len
  (fun a i x hi hx _ _=>by
   rw[z13l];simp only[z7,hi,decide_true,if_true,and_true,y5,hx]
   grind [z6,z283,z5t])
  (fun a=>by rw[z13l];simp [z7]) (fun a i=>z1b5 _ _ _) (fun a=>z1ga _ _ _) 0 trivial
def zl5 : FnC Un:=fnF1 (dL .int) fun l=>([],zl2 (z3c l))
theorem zqo : FnOK 107 zl5:=fnK1 zw (M:=zl4) rfl ⟨zxm,trivial⟩ trivial trivial trivial trivial Tryz.func107 fun l=>GiF.r fun w _=>z1ku l (wfA_ w 0)
def z16t (k:Int) (ok:Bool) : Option (RF Un):=fnF_ z1c5 z23e Tryz.f105 0 [.d,.d] [.d (.v (.s (.int .i64 k))),.d (.v (cb ok))]
theorem z1zj (k:Int) (ok:Bool) : z16t k ok=cndO (!ok) (some (z7t ((0:Int),(9:Int)))) (some (z7t (k,(0:Int)))):=by kernel_rfl
def zl (k:Int) (ok:Bool) : Int×Int:=if ok=true then (k,0) else (0,9)
theorem z1q0 (k:Int) (ok:Bool) (_hk:WI k) : z16t k ok=some (z7t (zl k ok)):=by
 rw[z1zj];cases ok<;>rfl
def zhl : FnC Un:=fnF2 (dI .i64) dB fun k ok=>([],z7t (zl k ok))
theorem zl6 : FnOK 105 zhl:=fnK2 z1a z1j1 (M:=z1c5) rfl trivial trivial trivial trivial trivial Tryz.func105 fun k ok=>GiF.r fun w _=>z1q0 k ok (wfA_ w 0)
def z1dj (op:Int) : Option (RF Un):=fnF_ z1c5 z23e Tryz.f109 0 [.d,.d] [.d (.v (.s (.int .i64 op)))]
theorem z249 (op:Int) : z1dj op=cndO (op == 3) (some (z7t ((1:Int),(1:Int)))) (cndO (op == 4) (some (z7t ((1:Int),(1:Int)))) (cndO (op == 19) (some (z7t ((1:Int),(1:Int)))) (cndO (op == 21) (some (z7t ((2:Int),(1152921504606846976:Int)))) (cndO (op == 23) (some (z7t ((2:Int),(1152921504606846976:Int)))) (cndO (op == 22) (some (z7t ((3:Int),(3:Int)))) (cndO (decide (op≥5)) (cndO (decide (op≤18)) (some (z7t ((2:Int),(2:Int)))) (cndO (op == 20) (some (z7t ((2:Int),(2:Int)))) (some (z7t ((0:Int),(0:Int)))))) (cndO (op == 20) (some (z7t ((2:Int),(2:Int)))) (some (z7t ((0:Int),(0:Int))))))))))):=by kernel_rfl
def zjc (op:Int) : Int×Int :=
 if op=3∨op=4∨op=19 then (1,1) else if op=21∨op=23 then (2,1152921504606846976) else if op=22 then (3,3) else if (5≤op∧op≤18)∨op=20 then (2,2) else (0,0)
theorem z1vs (op:Int) (_h:WI op) : z1dj op=some (z7t (zjc op)):=by
 rw[z249];unfold zjc;simp only[z7,beq_iff_eq,decide_eq_true_eq,ge_iff_le];grind
def z1kw : FnC Un:=fnF1 (dI .i64) fun op=>([],z7t (zjc op))
theorem z24a : FnOK 109 z1kw:=fnK1 z1a (M:=z1c5) rfl trivial trivial trivial trivial trivial Tryz.func109 fun op=>GiF.r fun w _=>z1vs op (wfA_ w 0)
end
end B
namespace B
open Go Go.RowKit
set_option maxRecDepth 100000
noncomputable section
attribute [local irreducible] awp ctxK zx z1d retQ z1o awf ctxF z1l
def zoh : Mc Un:=mcF_ [(108,zl1),(107,zl5),(105,zhl)] [] [] [] []
def zxn : Nat→NS:=nsF_ [(3,{ ts:=bl 42 61,bs:=bl 42 0,nm:=[(.sl 4,168)],cs:=true })] true
def z7v (l:List Int) (v0:Int) (v1:List Int) : S Un:=(st 42 42 169 0 [(0,al .int l),(2,ai (0:Int)),(3,ai (0:Int)),(4,ao 168),(5,ai v0)] [] [(168,some ⟨(0:Nat),Ty.int,v1,some (0:Nat),true⟩)])
def zjd (l:List Int) (v0:Int) (v1:List Int) (v2:Int) : S Un:=(st 42 42 169 0 [(0,al .int l),(2,ai (0:Int)),(3,ai v2),(4,ao 168),(5,ai v0)] [] [(168,some ⟨(0:Nat),Ty.int,v1,some (0:Nat),true⟩)])
def zcc : S Un→Option (EX Un):=lpF_ zoh zxn Tryz.f111 [1,1,0,1,2,2] 3
def zl7 : Exit→S Un→Option (RF Un):=cxF_ zoh zxn Tryz.f111 [1,1,0,1,2] [.d,.d]
def z16u (l:List Int) : Option (RF Un):=fnF_ zoh zxn Tryz.f111 1 [.d,.d] [.d (.v (.dat (U:=Un) Ty.int l))]
theorem z1zk (l:List Int) : z16u l=(zcc (z7v l (0:Int) ([]))).bind (zb zl7):=by kernel_rfl
def zl8 (l:List Int) (v0:Int) (v1:List Int) : Option (EX Un):=obO (0≤v0∧v0<(↑l.length:Int)) (obO ((v1.length+[l.getD v0.toNat (0:Int)].length)*(8:Nat)≤zf) (zcc (z7v l (IntKind.i64.wrap (v0+1)) (v1++[l.getD v0.toNat (0:Int)]))))
theorem z16v (l:List Int) (v0:Int) (v1:List Int) : zcc (z7v l v0 v1)=cndO (decide (v0<(↑l.length:Int))) (obO (¬(2:Int)=(0:Int)) (cndO (v0.tmod (2:Int) == (0:Int)) (cndO (decide (IntKind.i64.wrap (v0+1)<(↑l.length:Int))) (obO (0≤v0∧v0<(↑l.length:Int)) (cndO (!z6i (l.getD v0.toNat (0:Int)) (1:Int)) (some (.ret,(zjd l v0 v1 (9:Int)))) (zcc (z7v l (IntKind.i64.wrap (v0+1)) v1)))) (zl8 l v0 v1)) (zl8 l v0 v1))) (some (.exit 0,(z7v l v0 v1))):=lpQ_ (by kernel_rfl)
theorem z1gb (l:List Int) (v0:Int) (v1:List Int) (v2:Int) : zl7 .ret (zjd l v0 v1 v2)=some (z7t ((0:Int),v2)):=by kernel_rfl
theorem z1kx (l:List Int) (v0:Int) (v1:List Int) : zl7 (.exit 0) (z7v l v0 v1)=some (z7t ((zl (z3c v1).fst (z3c v1).snd).fst,(zl (z3c v1).fst (z3c v1).snd).snd)):=by kernel_rfl
def z1xe (l:List Int) (vs:List Int) (i:Nat) : Option (List Int):=if i % 2=0∧i+1<l.length then (if z6i (l.getD i 0) 1=true then some vs else none) else some (vs++[l.getD i 0])
def zvh (l:List Int) : Int×Int:=match z1af (z1xe l) [] (List.range l.length) with | some vs=>zl (z3c vs).1 (z3c vs).2 | none=>(0,9)
theorem z1q1 (l:List Int) (_hl:WL .int l) (h:l.length≤2000000) : z16u l=some (z7t (zvh l)):=by
 rw[z1zk]
 exact z1zi (L:=zcc) (st:=fun (vs:List Int) i=>z7v l i vs) (rt:=fun (vs:List Int) i=>zjd l i vs 9) (C:=zl7) (e:=.exit 0) (fun o=>some (z7t (match o with | some vs=>zl (z3c vs).1 (z3c vs).2 | none=>(0,9)))) (l:=List.range l.length) (d:=0) (z1xe l) (fun i vs=>vs.length≤i) (by grind)
  (fun vs i k hi hk _ hI=>by
   rw[y2r] at hi;have hk':k=i:=by grind
   subst hk';refine⟨fun b hb=>?_,?_⟩
   ·unfold z1xe at hb;grind
   ·have et:zl8 l (k:Int) vs=zcc (z7v l (IntKind.i64.wrap ((k:Int)+1)) (vs++[l.getD k 0])):=by
     grind [zl8,Int.toNat_natCast,z6,zf,List.length_singleton]
    rw[z16v,et];unfold z1xe;simp only[z7,hi,decide_true,if_true,and_true,y5,beq_iff_eq,decide_eq_true_eq];rw[z1s (by omega),z6 (by simp)];by_cases c1 : k % 2=0
    ·by_cases c2 : k+1<l.length
     ·rw[if_pos (show (k:Int)+1<(l.length:Int) by omega),z6 (by omega),if_pos (show k % 2=0∧k+1<l.length from ⟨c1,c2⟩)];grind
     grind
    grind)
  (fun vs=>by rw[y2r,z16v];simp [z7]) (fun a i=>z1gb _ _ _ _) (fun a=>z1kx _ _ _) [] (y7 _)
def z1dk : FnC Un:=fnF1 (dL .int) fun l=>([l.length≤2000000],z7t (zvh l))
theorem z1zl : FnOK 111 z1dk:=fnK1 zw (M:=zoh) rfl ⟨zod,zqo,zl6,trivial⟩ trivial trivial trivial trivial Tryz.func111 fun l=>GiF.r fun w o=>z1q1 l (wfA_ w 0) (obA_ o 0)
def z1te : Mc Un:=mcF_ [(110,zrx),(105,zhl),(108,zl1)] [] [] [] []
def z121 (name:ByteArray) (k:Int) : Option (RF Un):=fnF_ z1te z23e Tryz.f134 0 [.d,.d] [.d (.v (cs name)),.d (.v (.s (.int .i64 k)))]
theorem z285 (name:ByteArray) (k:Int) : z121 name k=cndO (name.toList == (ByteArray.mk #[99,111,117,110,116]).toList) (some (z7t ((zl (2:Int) (z4n k)).fst,(zl (2:Int) (z4n k)).snd))) (cndO (name.toList == (ByteArray.mk #[115,117,109]).toList) (some (z7t ((zl (2:Int) (z6i k (2:Int))).fst,(zl (2:Int) (z6i k (2:Int))).snd))) (cndO (name.toList == (ByteArray.mk #[109,105,110]).toList) (some (z7t ((zl k (z4n k)).fst,(zl k (z4n k)).snd))) (cndO (name.toList == (ByteArray.mk #[109,97,120]).toList) (some (z7t ((zl k (z4n k)).fst,(zl k (z4n k)).snd))) (some (z7t ((0:Int),(6:Int))))))):=by kernel_rfl
theorem ex_c {R:Int×Int→RF Un} {c:Bool} {x y:Option (RF Un)} (hx:c=true→∃ p,x=some (R p)) (hy:c=false→∃ p,y=some (R p)) : ∃ p,cndO c x y=some (R p):=by
 cases c
 ·exact hy rfl
 ·exact hx rfl
noncomputable def z1xf (R:Int×Int→RF Un) (o:Option (RF Un)) : Int×Int:=@Classical.epsilon (Int×Int) ⟨(0,0)⟩ fun p=>o=some (R p)
theorem z1gc {R:Int×Int→RF Un} {o:Option (RF Un)} (h:∃ p,o=some (R p)) : o=some (R (z1xf R o)):=@Classical.epsilon_spec (Int×Int) (fun p=>o=some (R p)) h
noncomputable def z1ag (name:ByteArray) (k:Int) : Int×Int:=z1xf z7t (z121 name k)
theorem z1zm (name:ByteArray) (k:Int) (_hn:WStr name) (_hk:WI k) : z121 name k=some (z7t (z1ag name k)):=by
 refine z1gc ?_;rw[z285]
 repeat' first | exact⟨_,rfl⟩ | refine ex_c (fun _=>?_) (fun _=>?_)
def z1tf : FnC Un:=fnF2 dStr (dI .i64) fun name k=>([],z7t (z1ag name k))
theorem z286 : FnOK 134 z1tf:=fnK2 z4j z1a (M:=z1te) rfl ⟨zxl,zl6,zod,trivial⟩ trivial trivial trivial trivial Tryz.func134 fun name k=>GiF.r fun w _=>z1zm name k (wfA_ w 0) (wfA_ w 1)
def z1ky : Mc Un:=mcF_ [(106,z120),(105,zhl),(107,zl5)] [] [] [] []
def zxo (name:ByteArray) (l:List Int) : Option (RF Un):=fnF_ z1ky z23e Tryz.f60 0 [.d,.d] [.d (.v (cs name)),.d (.v (.dat (U:=Un) Ty.int l))]
def zxp (name:ByteArray) (l:List Int) : Option (RF Un):=cndO (name.toList == (ByteArray.mk #[108,101,110,103,116,104]).toList) (some (z7t ((zl (2:Int) (z1t l (3:Int))).fst,(zl (2:Int) (z1t l (3:Int))).snd))) (cndO (name.toList == (ByteArray.mk #[108,111,119,101,114]).toList) (some (z7t ((zl (3:Int) (z1t l (3:Int))).fst,(zl (3:Int) (z1t l (3:Int))).snd))) (cndO (name.toList == (ByteArray.mk #[117,112,112,101,114]).toList) (some (z7t ((zl (3:Int) (z1t l (3:Int))).fst,(zl (3:Int) (z1t l (3:Int))).snd))) (cndO (name.toList == (ByteArray.mk #[97,98,115]).toList) (some (z7t ((zl (2:Int) (z1t l (2:Int))).fst,(zl (2:Int) (z1t l (2:Int))).snd))) (some (z7t ((zl (z3c l).fst (z3c l).snd).fst,(zl (z3c l).fst (z3c l).snd).snd))))))
def z1dl (name:ByteArray) (l:List Int) : Option (RF Un):=cndO (!name.toList == (ByteArray.mk #[99,111,97,108,101,115,99,101]).toList) (some (z7t ((0:Int),(11:Int)))) (zxp name l)
def zhn (name:ByteArray) (l:List Int) : Option (RF Un):=cndO (decide ((↑l.length:Int)<(1:Int))) (some (z7t ((0:Int),(11:Int)))) (cndO (decide ((↑l.length:Int) > (1:Int))) (z1dl name l) (zxp name l))
theorem z24b (name:ByteArray) (l:List Int) : zxo name l=cndO (name.toList == (ByteArray.mk #[108,101,110,103,116,104]).toList) (zhn name l) (cndO (name.toList == (ByteArray.mk #[108,111,119,101,114]).toList) (zhn name l) (cndO (name.toList == (ByteArray.mk #[117,112,112,101,114]).toList) (zhn name l) (cndO (name.toList == (ByteArray.mk #[97,98,115]).toList) (zhn name l) (cndO (name.toList == (ByteArray.mk #[99,111,97,108,101,115,99,101]).toList) (zhn name l) (cndO (name.toList == (ByteArray.mk #[110,117,108,108,105,102]).toList) (cndO (decide ((↑l.length:Int)<(2:Int))) (some (z7t ((0:Int),(11:Int)))) (cndO (decide ((↑l.length:Int) > (2:Int))) (z1dl name l) (zxp name l))) (some (z7t ((0:Int),(6:Int))))))))):=by kernel_rfl
noncomputable def zmw (name:ByteArray) (l:List Int) : Int×Int:=z1xf z7t (zxo name l)
theorem z1vt (name:ByteArray) (l:List Int) (_hn:WStr name) (_hl:WL .int l) : zxo name l=some (z7t (zmw name l)):=by
 refine z1gc ?_;rw[z24b]
 repeat' first | exact⟨_,rfl⟩ | refine ex_c (fun _=>?_) (fun _=>?_)
def z1kz : FnC Un:=fnF2 dStr (dL .int) fun name l=>([],z7t (zmw name l))
theorem z24c : FnOK 60 z1kz:=fnK2 z4j zw (M:=z1ky) rfl ⟨z1dh,zl6,zqo,trivial⟩ trivial trivial trivial trivial Tryz.func60 fun name l=>GiF.r fun w _=>z1vt name l (wfA_ w 0) (wfA_ w 1)
def z1zn : Mc Un:=mcF_ [(109,z1kw),(107,zl5),(106,z120),(105,zhl),(110,zrx),(111,z1dk)] [] [] [] []
def z16w (op:Int) (l:List Int) : Option (RF Un):=fnF_ z1zn z23e Tryz.f62 0 [.d,.d] [.d (.v (.s (.int .i64 op))),.d (.v (.dat (U:=Un) Ty.int l))]
theorem z2bj (op:Int) (l:List Int) : z16w op l=cndO ((zjc op).snd == 0) (some (z7t ((0:Int),(1:Int)))) (cndO (decide ((↑l.length:Int)<(zjc op).fst)) (some (z7t ((0:Int),(11:Int)))) (cndO (decide ((↑l.length:Int) > (zjc op).snd)) (some (z7t ((0:Int),(11:Int)))) (cndO (op == 3) (some (z7t ((zl (2:Int) (z1t l (2:Int))).fst,(zl (2:Int) (z1t l (2:Int))).snd))) (cndO (op == 5) (some (z7t ((zl (2:Int) (z1t l (2:Int))).fst,(zl (2:Int) (z1t l (2:Int))).snd))) (cndO (op == 6) (some (z7t ((zl (2:Int) (z1t l (2:Int))).fst,(zl (2:Int) (z1t l (2:Int))).snd))) (cndO (op == 7) (some (z7t ((zl (2:Int) (z1t l (2:Int))).fst,(zl (2:Int) (z1t l (2:Int))).snd))) (cndO (op == 8) (some (z7t ((zl (2:Int) (z1t l (2:Int))).fst,(zl (2:Int) (z1t l (2:Int))).snd))) (cndO (op == 9) (some (z7t ((zl (2:Int) (z1t l (2:Int))).fst,(zl (2:Int) (z1t l (2:Int))).snd))) (cndO (op == 4) (some (z7t ((zl (1:Int) (z1t l (1:Int))).fst,(zl (1:Int) (z1t l (1:Int))).snd))) (cndO (op == 17) (some (z7t ((zl (1:Int) (z1t l (1:Int))).fst,(zl (1:Int) (z1t l (1:Int))).snd))) (cndO (op == 18) (some (z7t ((zl (1:Int) (z1t l (1:Int))).fst,(zl (1:Int) (z1t l (1:Int))).snd))) (cndO (op == 10) (some (z7t ((zl (3:Int) (z1t l (3:Int))).fst,(zl (3:Int) (z1t l (3:Int))).snd))) (cndO (op == 20) (some (z7t ((zl (1:Int) (z1t l (3:Int))).fst,(zl (1:Int) (z1t l (3:Int))).snd))) (cndO (op == 19) (obO ((0:Int)≤(0:Int)∧(0:Int)<(↑l.length:Int)) (some (z7t ((zl (1:Int) (z4n (l.getD 0 (0:Int)))).fst,(zl (1:Int) (z4n (l.getD 0 (0:Int)))).snd)))) (cndO (op == 23) (obO (l.length≤(2000000:Nat)) (some (z7t ((zvh l).fst,(zvh l).snd)))) (some (z7t ((zl (1:Int) (z3c l).snd).fst,(zl (1:Int) (z3c l).snd).snd)))))))))))))))))):=by kernel_rfl
noncomputable def zzf (op:Int) (l:List Int) : Int×Int:=z1xf z7t (z16w op l)
theorem z24d (op:Int) (l:List Int) (_ho:WI op) (_hl:WL .int l) (h:l.length≤2000000) : z16w op l=some (z7t (zzf op l)):=by
 refine z1gc ?_;rw[z2bj];refine ex_c (fun _=>⟨_,rfl⟩) (fun _=>?_);refine ex_c (fun _=>⟨_,rfl⟩) (fun h1=>?_);have h2:op=19→0<l.length:=fun e=>by
  have e2:(zjc 19).1=1:=rfl;grind
 repeat' first | exact⟨_,rfl⟩ | (rw[z6 h]) | (refine ex_c (fun c=>?_) (fun _=>?_)) | (rw[z6 ⟨y2f _,by grind⟩])
def z1zo : FnC Un:=fnF2 (dI .i64) (dL .int) fun op l=>([l.length≤2000000],z7t (zzf op l))
theorem z2bk : FnOK 62 z1zo:=fnK2 z1a zw (M:=z1zn) rfl ⟨z24a,zqo,z1dh,zl6,zxl,z1zl,trivial⟩ trivial trivial trivial trivial Tryz.func62 fun op l=>GiF.r fun w o=>z24d op l (wfA_ w 0) (wfA_ w 1) (obA_ o 0)
end
end B
namespace B
open Go Go.RowKit
set_option maxRecDepth 100000
noncomputable section
attribute [local irreducible] awp ctxK zx z1d retQ z1o awf ctxF z1l
def zxr : Nat→NS:=nsF_ [(3,{ ts:=bl 21 25,bs:=bl 21 0,nm:=[(.sl 3,84)],cs:=true })] true
def zcd (l:List Col) (v0:Int) (v1:List Int) : S Un:=(st 21 21 85 0 [(0,al .col l),(3,ao 84),(4,ai v0)] [] [(84,some ⟨(0:Nat),Ty.int,v1,some (0:Nat),true⟩)])
def zl9 : S Un→Option (EX Un):=lpF_ z1c5 zxr Tryz.f25 [1,1,0,1,2,2] 3
def z16x : Exit→S Un→Option (RF Un):=cxF_ z1c5 zxr Tryz.f25 [1,1,0,1,2] [.d]
def z16y (l:List Col) : Option (RF Un):=fnF_ z1c5 zxr Tryz.f25 1 [.d] [.d (.v (.dat (U:=Un) Ty.col l))]
theorem z1zp (l:List Col) : z16y l=(zl9 (zcd l (0:Int) ([]))).bind (zb z16x):=by kernel_rfl
theorem z16z (l:List Col) (v0:Int) (v1:List Int) : zl9 (zcd l v0 v1)=cndO (decide (v0<(↑l.length:Int))) (obO (0≤v0∧v0<(↑l.length:Int)) (obO ((v1.length+[(l.getD v0.toNat z41).type].length)*(8:Nat)≤zf) (zl9 (zcd l (IntKind.i64.wrap (v0+1)) (v1++[(l.getD v0.toNat z41).type]))))) (some (.exit 0,(zcd l v0 v1))):=lpQ_ (by kernel_rfl)
theorem z1l0 (l:List Col) (v0:Int) (v1:List Int) : z16x (.exit 0) (zcd l v0 v1)=some (zmt (v1)):=by kernel_rfl
def z1h (l:List Col) : List Int:=l.map fun c=>c.type
theorem z1l1 : ∀ (l:List Col) (n:List Int),l.foldl (fun n c=>n++[c.type]) n=n++z1h l
 | [],n=>by simp [z1h]
 | c::l,n=>by rw[yr,z1l1 l];simp [z1h]
theorem z1q2 (l:List Col) (hl:WL .col l) (h:l.length≤2000000000) : z16y l=some (zmt (z1h l)):=by
 obtain⟨lp,_⟩:=z1p (e:=.exit 0) (L:=zl9) (st:=fun (n:List Int) i=>zcd l i n) (l:=l) (d:=z41) (g:=fun n c=>n++[c.type]) (fun i n=>n.length=i) hl.len
  (fun n i c hi hc hI=>by
   rw[z16z];simp only[z7,hi,decide_true,if_true,and_true,y5,hc]
   grind [z6,zf,List.length_singleton])
  (fun n _=>by rw[z16z];simp [z7]) [] rfl
 rw[z1l1,y10] at lp;rw[z1zp];refine (ze lp).trans ?_;rw[z1l0]
def zoj : FnC Un:=fnF1 (dL .col) fun l=>([l.length≤2000000000],zmt (z1h l))
theorem ztn : FnOK 25 zoj:=fnK1 zw (M:=z1c5) rfl trivial trivial trivial trivial trivial Tryz.func25 fun l=>GiF.r fun w o=>z1q2 l (wfA_ w 0) (obA_ o 0)
def zxs : Nat→NS:=nsF_ [(2,{ ts:=bl 32 51,bs:=bl 32 0,nm:=[],cs:=true })] true
def z6j (a:List Int) (b:List Int) (v0:Int) : S Un:=(st 32 32 128 0 [(0,al .int a),(1,al .int b),(4,ab false),(5,ai v0)] [] [])
def zla : S Un→Option (EX Un):=lpF_ z1c5 zxs Tryz.f31 [1,0,1,2,2] 2
def zlb : Exit→S Un→Option (RF Un):=cxF_ z1c5 zxs Tryz.f31 [1,0,1,2] [.d]
def z170 (a:List Int) (b:List Int) : Option (RF Un):=fnF_ z1c5 zxs Tryz.f31 0 [.d] [.d (.v (.dat (U:=Un) Ty.int a)),.d (.v (.dat (U:=Un) Ty.int b))]
theorem z1zq (a:List Int) (b:List Int) : z170 a b=(zla (z6j a b (0:Int))).bind (zb zlb):=by kernel_rfl
theorem z171 (a:List Int) (b:List Int) (v0:Int) : zla (z6j a b v0)=cndO (decide (v0<(↑a.length:Int))) (cndO (decide (v0<(↑b.length:Int))) (obO (0≤v0∧v0<(↑a.length:Int)) (obO (0≤v0∧v0<(↑b.length:Int)) (cndO (a.getD v0.toNat (0:Int) != b.getD v0.toNat (0:Int)) (some (.ret,(z6j a b v0))) (zla (z6j a b (IntKind.i64.wrap (v0+1))))))) (some (.exit 0,(z6j a b v0)))) (some (.exit 0,(z6j a b v0))):=lpQ_ (by kernel_rfl)
theorem z1gd (a:List Int) (b:List Int) (v0:Int) : zlb .ret (z6j a b v0)=some (z8y (false)):=by kernel_rfl
theorem z1l2 (a:List Int) (b:List Int) (v0:Int) : zlb (.exit 0) (z6j a b v0)=some (z8y ((↑a.length:Int) == (↑b.length:Int))):=by kernel_rfl
def zvi (a b:List Int) : Bool:=(List.range (min a.length b.length)).all (fun i=>a.getD i 0 == b.getD i 0) && ((a.length:Int) == (b.length:Int))
theorem z1q3 (a b:List Int) (ha:WL .int a) (_hb:WL .int b) : z170 a b=some (z8y (zvi a b)):=by
 have hlen:=ha.len;rw[z1zq]
 exact z2s (L:=zla) (st:=fun i=>z6j a b i) (C:=zlb) (e:=.exit 0) (fun x=>some (z8y (x && ((a.length:Int) == (b.length:Int))))) (l:=List.range (min a.length b.length)) (d:=0) (fun i=>a.getD i 0 == b.getD i 0) (by grind)
  (fun i k hi hk _=>by
   rw[y2r] at hi;have hk':k=i:=by grind
   subst hk';rw[z171];simp only[z7,y5,decide_eq_true_eq];rw[if_pos (show (k:Int)<(a.length:Int) by omega),if_pos (show (k:Int)<(b.length:Int) by omega),z6 (by omega),z6 (by omega)]
   simp)
  (by
   rw[y2r,z171];simp only[z7,decide_eq_true_eq]
   grind)
  (fun i=>by simp [y1w,z1gd]) (fun i=>by simp [y1c,z1l2])
def z1dm : FnC Un:=fnF2 (dL .int) (dL .int) fun a b=>([],z8y (zvi a b))
theorem z1zr : FnOK 31 z1dm:=fnK2 zw zw (M:=z1c5) rfl trivial trivial trivial trivial trivial Tryz.func31 fun a b=>GiF.r fun w _=>z1q3 a b (wfA_ w 0) (wfA_ w 1)
def zol : Mc Un:=mcF_ [(25,zoj)] [] [] [] []
def zxu : Nat→NS:=nsF_ [(3,{ ts:=bl 23 26,bs:=bl 23 2,nm:=[(.sl 3,92)],cs:=true })] true
def zce (r:Rel) (v0:Int) (v1:List Int) : S Un:=(st 23 23 93 0 [(1,ax 1),(3,ao 92),(4,ai v0)] [(1,bg .rel r)] [(92,some ⟨(0:Nat),Ty.int,v1,some (0:Nat),true⟩)])
def zlc : S Un→Option (EX Un):=lpF_ zol zxu Tryz.f80 [1,1,0,1,2,2] 3
def z172 : Exit→S Un→Option (RF Un):=cxF_ zol zxu Tryz.f80 [1,1,0,1,2] [.d]
def z173 (r:Rel) : Option (RF Un):=fnF_ zol zxu Tryz.f80 1 [.d] [.d (.agg (enc Ty.rel r))]
theorem z1zs (r:Rel) : z173 r=(zlc (zce r (0:Int) ([]))).bind (zb z172):=by kernel_rfl
theorem z174 (r:Rel) (v0:Int) (v1:List Int) : zlc (zce r v0 v1)=cndO (decide (v0<(↑r.kids.length:Int))) (obO (0≤v0∧v0<(↑r.kids.length:Int)) (obO ((Rel.cols (r.kids.getD v0.toNat z8)).length≤(2000000000:Nat)) (obO ((v1.length+(z1h (Rel.cols (r.kids.getD v0.toNat z8))).length)*(8:Nat)≤zf) (zlc (zce r (IntKind.i64.wrap (v0+1)) (v1++z1h (Rel.cols (r.kids.getD v0.toNat z8)))))))) (some (.exit 0,(zce r v0 v1))):=lpQ_ (by kernel_rfl)
theorem z1l3 (r:Rel) (v0:Int) (v1:List Int) : z172 (.exit 0) (zce r v0 v1)=some (zmt (v1)):=by kernel_rfl
mutual
def clT : Term→Nat
 | .mk _ _ _ _ _ kids sub _=>clTs kids+clRs sub
def clTs : List Term→Nat
 | []=>0
 | t::l=>clT t+clTs l
def clA : Agg→Nat
 | .mk _ _ t=>clTs t
def clAs : List Agg→Nat
 | []=>0
 | a::l=>clA a+clAs l
def clR : Rel→Nat
 | .mk _ _ cols kids terms aggs _ _ _ _ _=>cols.length+clRs kids+clTs terms+clAs aggs
def clRs : List Rel→Nat
 | []=>0
 | r::l=>clR r+clRs l
end
theorem z1zt (t:Term) : clT t=clTs t.kids+clRs t.sub:=by cases t;rfl
theorem z2bl (a:Agg) : clA a=clTs a.t:=by cases a;rfl
theorem zff (r:Rel) : clR r=r.cols.length+clRs r.kids+clTs r.terms+clAs r.aggs:=by cases r;rfl
theorem zje {t:Term} : ∀ {l:List Term},t∈l→clT t≤clTs l
 | x::l,h=>by
  simp only[clTs];rcases yf.1 h with rfl | h
  ·omega
  ·have:=zje h;omega
theorem zfg {t:Rel} : ∀ {l:List Rel},t∈l→clR t≤clRs l
 | x::l,h=>by
  simp only[clRs];rcases yf.1 h with rfl | h
  ·omega
  ·have:=zfg h;omega
theorem z1ge {t:Agg} : ∀ {l:List Agg},t∈l→clA t≤clAs l
 | x::l,h=>by
  simp only[clAs];rcases yf.1 h with rfl | h
  ·omega
  ·have:=z1ge h;omega
def z29 (r:Rel) : List Int:=r.kids.foldl (fun n k=>n++z1h k.cols) []
theorem z1q4 (r:Rel) (hr:WS .rel r) (h:clR r≤2000000000) : z173 r=some (zmt (z29 r)):=by
 have h0:=zff r
 obtain⟨lp,_⟩:=z1p (e:=.exit 0) (L:=zlc) (st:=fun (n:List Int) i=>zce r i n) (l:=r.kids) (d:=z8) (g:=fun n k=>n++z1h k.cols) (fun i n=>n.length+clRs (r.kids.drop i)≤2000000000) (hr.rel_kids).len
  (fun n i k hi hk hI=>by
   have hd:=zjp (d:=z8) (show i<r.kids.length by omega);rw[hd,hk] at hI;simp only[clRs] at hI;have h1:=zff k;have h2:(z1h k.cols).length=k.cols.length:=by unfold z1h;simp
   rw[z174];simp only[z7,hi,decide_true,if_true,and_true,y5,hk]
   grind [z6,zf])
  (fun n _=>by rw[z174];simp [z7]) [] (by grind)
 rw[z1zs];refine (ze lp).trans ?_;rw[z1l3];rfl
def zxv : FnC Un:=fnF1 (dS .rel) fun r=>([clR r≤2000000000],zmt (z29 r))
theorem z175 : FnOK 80 zxv:=fnK1 zo (M:=zol) rfl ⟨ztn,trivial⟩ trivial trivial trivial trivial Tryz.func80 fun r=>GiF.r fun w o=>z1q4 r (wfA_ w 0) (obA_ o 0)
def z7o : Mc Un:=mcF_ [(25,zoj),(134,z1tf),(61,zry),(80,zxv)] [] [] [] []
def z4d (r:List Int×Bool) : RF Un:=([.c (.sl (U:=Un) Ty.int r.1 false),.c (.s (.bool r.2))],[])
def z8u : Nat→NS:=nsF_ [(8,{ ts:=bl 162 50,bs:=bl 162 2,nm:=[(.sl 4,648)],cs:=true }),(15,{ ts:=bl 162 194,bs:=bl 162 2,nm:=[(.sl 6,649)],cs:=true }),(19,{ ts:=bl 162 334,bs:=bl 162 2,nm:=[(.sl 6,650)],cs:=true }),(35,{ ts:=bl 162 61452,bs:=bl 162 0,nm:=[(.sl 14,651)],cs:=true })] true
def zxw (r:Rel) (v4:Int):=z1ag (Agg.name (r.aggs.getD v4.toNat zn)) (Term.type ((Agg.t (r.aggs.getD v4.toNat zn)).getD 0 za))
def zxx (r:Rel) (v4:Int):=z1ag (Agg.name (r.aggs.getD v4.toNat zn)) (2:Int)
def ze6 (r:Rel) (v0:Int) (v1:List Int) : S Un:=(st 162 162 652 0 [(1,ax 1),(4,ao 648),(5,ai v0)] [(1,bg .rel r)] [(648,some ⟨(0:Nat),Ty.int,v1,some (0:Nat),true⟩)])
def z7w (r:Rel) (v2:Int) (v3:List Int) : S Un:=(st 162 162 652 0 [(1,ax 1),(6,ao 649),(7,ai v2)] [(1,bg .rel r)] [(649,some ⟨(0:Nat),Ty.int,v3,some (0:Nat),true⟩)])
def z5e (r:Rel) (v3:List Int) (v4:Int) : S Un:=(st 162 162 652 0 [(1,ax 1),(6,ao 650),(8,ai v4)] [(1,bg .rel r)] [(650,some ⟨(0:Nat),Ty.int,v3,some (0:Nat),true⟩)])
def za0 (r:Rel) (v3:List Int) (v4:Int) : S Un:=(st 162 162 652 0 [(1,ax 1),(2,AV.one (A.c (C.sl Ty.int [] true))),(3,ab false),(6,ao 650),(8,ai v4)] [(1,bg .rel r)] [(650,some ⟨(0:Nat),Ty.int,v3,some (0:Nat),true⟩)])
def z4o (r:Rel) (v5:Int) (v6:List Int) : S Un:=(st 162 162 652 0 [(2,AV.one (A.c (C.sl Ty.int [] true))),(3,ab false),(12,al .int (z1h (Rel.cols (r.kids.getD 0 z8)))),(13,al .int (z1h (Rel.cols (r.kids.getD 1 z8)))),(14,ao 651),(15,ai v5)] [] [(651,some ⟨(0:Nat),Ty.int,v6,some (0:Nat),true⟩)])
def zom : S Un→Option (EX Un):=lpF_ z7o z8u Tryz.f81 [1,0,1,2,1,4,1,3,1,0,1,2,2] 8
def zfh : S Un→Option (EX Un):=lpF_ z7o z8u Tryz.f81 [1,0,1,2,1,4,1,4,1,3,1,0,1,2,2] 15
def z7x : S Un→Option (EX Un):=lpF_ z7o z8u Tryz.f81 [1,0,1,2,1,4,1,4,1,3,1,1,0,1,2,2] 19
def zfi : S Un→Option (EX Un):=lpF_ z7o z8u Tryz.f81 [1,0,1,2,1,4,1,4,1,4,1,3,1,1,0,1,2,2] 35
def zxy : Exit→S Un→Option (RF Un):=cxF_ z7o z8u Tryz.f81 [1,0,1,2,1,4,1,3,1,0,1,2] [.d,.d]
def zto : Exit→S Un→Option (RF Un):=cxF_ z7o z8u Tryz.f81 [1,0,1,2,1,4,1,4,1,3,1,0,1,2] [.d,.d]
def zfj : Exit→S Un→Option (RF Un):=cxF_ z7o z8u Tryz.f81 [1,0,1,2,1,4,1,4,1,3,1,1,0,1,2] [.d,.d]
def zld : Exit→S Un→Option (RF Un):=cxF_ z7o z8u Tryz.f81 [1,0,1,2,1,4,1,4,1,4,1,3,1,1,0,1,2] [.d,.d]
def zon (r:Rel) : Option (RF Un):=fnF_ z7o z8u Tryz.f81 4 [.d,.d] [.d (.agg (enc Ty.rel r))]
def zhp (r:Rel) : Option (RF Un):=obO ((0:Int)≤(0:Int)∧(0:Int)<(↑r.kids.length:Int)) (obO ((Rel.cols (r.kids.getD 0 z8)).length≤(2000000000:Nat)) (obO ((0:Int)≤(1:Int)∧(1:Int)<(↑r.kids.length:Int)) (obO ((Rel.cols (r.kids.getD 1 z8)).length≤(2000000000:Nat)) ((zfi (z4o r (0:Int) ([]))).bind (zb zld)))))
theorem z24e (r:Rel) : zon r=cndO (r.op == 1) (obO (r.cols.length≤(2000000000:Nat)) (some (z4d (z1h r.cols,true)))) (cndO (r.op == 2) (obO (r.cols.length≤(2000000000:Nat)) (some (z4d (z1h r.cols,true)))) (cndO (r.op == 4) ((zom (ze6 r (0:Int) ([]))).bind (zb zxy)) (cndO (r.op == 7) ((zfh (z7w r (0:Int) ([]))).bind (zb zto)) (cndO (r.op == 9) (zhp r) (cndO (r.op == 10) (zhp r) (cndO (r.op == 11) (zhp r) (obO (clR (Rel.ids r)≤(2000000000:Nat)) (some (z4d (z29 (Rel.ids r),true)))))))))):=by kernel_rfl
theorem z1dn (r:Rel) (v0:Int) (v1:List Int) : zom (ze6 r v0 v1)=cndO (decide (v0<(↑r.terms.length:Int))) (obO (0≤v0∧v0<(↑r.terms.length:Int)) (obO ((v1.length+[Term.type (r.terms.getD v0.toNat za)].length)*(8:Nat)≤zf) (zom (ze6 r (IntKind.i64.wrap (v0+1)) (v1++[Term.type (r.terms.getD v0.toNat za)]))))) (some (.exit 1,(ze6 r v0 v1))):=lpQ_ (by kernel_rfl)
theorem z1q5 (r:Rel) (v0:Int) (v1:List Int) : zxy (.exit 1) (ze6 r v0 v1)=some (z4d (v1,true)):=by kernel_rfl
theorem z176 (r:Rel) (v2:Int) (v3:List Int) : zfh (z7w r v2 v3)=cndO (decide (v2<(↑r.terms.length:Int))) (obO (0≤v2∧v2<(↑r.terms.length:Int)) (obO ((v3.length+[Term.type (r.terms.getD v2.toNat za)].length)*(8:Nat)≤zf) (zfh (z7w r (IntKind.i64.wrap (v2+1)) (v3++[Term.type (r.terms.getD v2.toNat za)]))))) (some (.exit 3,(z7w r v2 v3))):=lpQ_ (by kernel_rfl)
theorem z1l4 (r:Rel) (v2:Int) (v3:List Int) : zto (.exit 3) (z7w r v2 v3)=(z7x (z5e r v3 (0:Int))).bind (zb zfj):=by kernel_rfl
theorem z177 (r:Rel) (v3:List Int) (v4:Int) : z7x (z5e r v3 v4)=cndO (decide (v4<(↑r.aggs.length:Int))) (obO (0≤v4∧v4<(↑r.aggs.length:Int)) (cndO (decide ((↑(Agg.t (r.aggs.getD v4.toNat zn)).length:Int) > (0:Int))) (obO (0≤v4∧v4<(↑r.aggs.length:Int)) (obO ((0:Int)≤(0:Int)∧(0:Int)<(↑(Agg.t (r.aggs.getD v4.toNat zn)).length:Int)) (obO (0≤v4∧v4<(↑r.aggs.length:Int)) (cndO ((zxw r v4).snd != 0) (some (.ret,(za0 r v3 v4))) (obO ((v3.length+[(zxw r v4).fst].length)*(8:Nat)≤zf) (z7x (z5e r (v3++[(zxw r v4).fst]) (IntKind.i64.wrap (v4+1))))))))) (obO (0≤v4∧v4<(↑r.aggs.length:Int)) (cndO ((zxx r v4).snd != 0) (some (.ret,(za0 r v3 v4))) (obO ((v3.length+[(zxx r v4).fst].length)*(8:Nat)≤zf) (z7x (z5e r (v3++[(zxx r v4).fst]) (IntKind.i64.wrap (v4+1))))))))) (some (.exit 5,(z5e r v3 v4))):=lpQ_ (by kernel_rfl)
theorem z1gf (r:Rel) (v3:List Int) (v4:Int) : zfj .ret (za0 r v3 v4)=some (z4d ([],false)):=by kernel_rfl
theorem z1l5 (r:Rel) (v3:List Int) (v4:Int) : zfj (.exit 5) (z5e r v3 v4)=some (z4d (v3,true)):=by kernel_rfl
theorem z178 (r:Rel) (v5:Int) (v6:List Int) : zfi (z4o r v5 v6)=cndO (decide (v5<(↑(z1h (Rel.cols (r.kids.getD 0 z8))).length:Int))) (cndO (decide (v5<(↑(z1h (Rel.cols (r.kids.getD 1 z8))).length:Int))) (obO (0≤v5∧v5<(↑(z1h (Rel.cols (r.kids.getD 0 z8))).length:Int)) (obO (0≤v5∧v5<(↑(z1h (Rel.cols (r.kids.getD 1 z8))).length:Int)) (cndO (!(z5t ((z1h (Rel.cols (r.kids.getD 0 z8))).getD v5.toNat (0:Int)) ((z1h (Rel.cols (r.kids.getD 1 z8))).getD v5.toNat (0:Int))).snd) (some (.ret,(z4o r v5 v6))) (obO ((v6.length+[(z5t ((z1h (Rel.cols (r.kids.getD 0 z8))).getD v5.toNat (0:Int)) ((z1h (Rel.cols (r.kids.getD 1 z8))).getD v5.toNat (0:Int))).fst].length)*(8:Nat)≤zf) (zfi (z4o r (IntKind.i64.wrap (v5+1)) (v6++[(z5t ((z1h (Rel.cols (r.kids.getD 0 z8))).getD v5.toNat (0:Int)) ((z1h (Rel.cols (r.kids.getD 1 z8))).getD v5.toNat (0:Int))).fst]))))))) (some (.exit 7,(z4o r v5 v6)))) (some (.exit 7,(z4o r v5 v6))):=lpQ_ (by kernel_rfl)
theorem z1gg (r:Rel) (v5:Int) (v6:List Int) : zld .ret (z4o r v5 v6)=some (z4d ([],false)):=by kernel_rfl
theorem z1l6 (r:Rel) (v5:Int) (v6:List Int) : zld (.exit 7) (z4o r v5 v6)=some (z4d (v6,(↑(z1h (Rel.cols (r.kids.getD 0 z8))).length:Int) == (↑(z1h (Rel.cols (r.kids.getD 1 z8))).length:Int))):=by kernel_rfl
theorem zvj {σ ρ:Type} {R:ρ→RF Un} {L:S Un→Option (EX Un)} {C:Exit→S Un→Option (RF Un)} {st:σ→Int→S Un} {n:Nat} (hn:n≤9223372036854775807) (Inv:Nat→σ→Prop)
  (step:∀ (a:σ) (i:Nat),i<n→Inv i a→(∃ b,Inv (i+1) b∧L (st a (i:Int))=L (st b (IntKind.i64.wrap ((i:Int)+1))))∨∃ p,(L (st a (i:Int))).bind (zb C)=some (R p))
  (stop:∀ a,Inv n a→∃ p,(L (st a (n:Int))).bind (zb C)=some (R p)) (a:σ) (h0:Inv 0 a) : ∃ p,(L (st a (0:Int))).bind (zb C)=some (R p):=by
 have key:∀ (k i:Nat) (a:σ),i+k=n→Inv i a→∃ p,(L (st a (i:Int))).bind (zb C)=some (R p):=by
  intro k
  induction k with
  | zero =>
   grind
  | succ k ih =>
   grind [step,z3p]
 exact key n 0 a (by omega) h0
theorem z122 {ρ:Type} {R:ρ→RF Un} {c:Bool} {x y:Option (RF Un)} (hx:c=true→∃ p,x=some (R p)) (hy:c=false→∃ p,y=some (R p)) : ∃ p,cndO c x y=some (R p):=by
 cases c
 ·exact hy rfl
 ·exact hx rfl
noncomputable def z2bm (R:List Int×Bool→RF Un) (o:Option (RF Un)) : List Int×Bool:=@Classical.epsilon (List Int×Bool) ⟨([],false)⟩ fun p=>o=some (R p)
theorem z2bn {R:List Int×Bool→RF Un} {o:Option (RF Un)} (h:∃ p,o=some (R p)) : o=some (R (z2bm R o)):=@Classical.epsilon_spec (List Int×Bool) (fun p=>o=some (R p)) h
noncomputable def zfk (r:Rel) : List Int×Bool:=z2bm z4d (zon r)
def z179 (r:Rel) : Prop:=((r.op=9∨r.op=10∨r.op=11)→2≤r.kids.length)∧r.sz≤2000000∧clR r≤2000000000
theorem z17a (r:Rel) (hk:2≤r.kids.length) (hc:clR r≤2000000000) : ∃ p,zhp r=some (z4d p):=by
 have c0:∀ i,i<r.kids.length→(Rel.cols (r.kids.getD i z8)).length≤2000000000:=fun i hi=>by
  have h1:=zfg (z78 (l:=r.kids) (d:=z8) hi);grind [zff,z8]
 unfold zhp;rw[z6 (by omega),z6 (c0 0 (by omega)),z6 (by omega),z6 (c0 1 (by omega))];generalize ha : z1h (Rel.cols (r.kids.getD 0 z8))=a;generalize hb : z1h (Rel.cols (r.kids.getD 1 z8))=b;have hal:a.length≤2000000000:=by grind [z1h,List.length_map]
 refine zvj (L:=zfi) (C:=zld) (st:=fun (v:List Int) i=>z4o r i v) (n:=min a.length b.length) (by omega) (fun i v=>v.length≤i)
  (fun v i hi hI=>?_) (fun v hI=>?_) [] (yb _)
 ·rw[z178];simp only[ha,hb,y5];cases hJ : (z5t (a.getD i 0) (b.getD i 0)).2 with
  | false=>exact .inr ⟨_,by rw[z7,if_pos (by grind),z7,if_pos (by grind),z6 (by omega),z6 (by omega)];exact z1gg _ _ _⟩
  | true =>
   exact .inl ⟨v++[(z5t (a.getD i 0) (b.getD i 0)).1],by grind,by
    rw[z7,if_pos (by grind),z7,if_pos (by grind),z6 (by omega),z6 (by omega),z7,if_neg (by simp),z6 (by grind [zf,List.length_singleton])]⟩
 ·have e:zfi (z4o r ((min a.length b.length:Nat):Int) v)=some (.exit 7,z4o r ((min a.length b.length:Nat):Int) v):=by
   rw[z178];simp only[ha,hb,z7,decide_eq_true_eq];grind
  grind [ze,trans,z1l6]
theorem z2bo (r:Rel) (hr:WS .rel r) (h:z179 r) : ∃ p,zon r=some (z4d p):=by
 obtain⟨hk,hs,hc⟩:=h;have h0:=zff r;have h3:=r.sz_eq;have hl:=z5s r.terms;have hla:=z1fo r.aggs;rw[z24e];rw[z6 (show r.cols.length≤2000000000 by omega),Rel.ids_eq,z6 hc];refine z122 (fun _=>⟨_,rfl⟩) fun _=>z122 (fun _=>⟨_,rfl⟩) fun _=>z122 (fun _=>?_) fun _=>z122 (fun _=>?_) fun _=>z122 (fun c=>z17a r (hk (.inl (by grind))) hc) fun _=>z122 (fun c=>z17a r (hk (.inr (.inl (by grind)))) hc) fun _=>z122 (fun c=>z17a r (hk (.inr (.inr (by grind)))) hc) fun _=>⟨_,rfl⟩
 ·refine zvj (L:=zom) (C:=zxy) (st:=fun (v:List Int) i=>ze6 r i v) (n:=r.terms.length) (by omega) (fun i v=>v.length≤i) (fun v i hi hI=>.inl ?_) (fun v hI=>?_) [] (yb _)
  ·exact⟨v++[Term.type (r.terms.getD i za)],by grind,by
    rw[z1dn,y5,z7,if_pos (by grind),z6 (by omega),z6 (by grind [zf,List.length_singleton])]⟩
  ·exact⟨_,(ze (by rw[z1dn,z7,if_neg (by simp)])).trans (z1q5 _ _ _)⟩
 ·refine zvj (L:=zfh) (C:=zto) (st:=fun (v:List Int) i=>z7w r i v) (n:=r.terms.length) (by omega) (fun i v=>v.length≤i) (fun v i hi hI=>.inl ?_) (fun v hI=>?_) [] (yb _)
  ·exact⟨v++[Term.type (r.terms.getD i za)],by grind,by
    rw[z176,y5,z7,if_pos (by grind),z6 (by omega),z6 (by grind [zf,List.length_singleton])]⟩
  ·rw[ze (show zfh (z7w r (r.terms.length:Int) v)=some (.exit 3,z7w r (r.terms.length:Int) v) by rw[z176,z7,if_neg (by simp)]),z1l4];refine zvj (L:=z7x) (C:=zfj) (st:=fun (v:List Int) i=>z5e r v i) (n:=r.aggs.length) (by omega) (fun i v=>v.length≤4000000+i) (fun v i hi hI=>?_) (fun v hI=>?_) v (by omega)
   ·rw[z177,y5,z7,if_pos (by grind),z6 (by omega)]
    have step:∀ p : Int×Int,(∃ b : List Int,b.length≤4000000+(i+1)∧cndO (p.2 != 0) (some (.ret,za0 r v i)) (obO ((v.length+[p.1].length)*(8:Nat)≤zf) (z7x (z5e r (v++[p.1]) (IntKind.i64.wrap ((i:Int)+1)))))=z7x (z5e r b (IntKind.i64.wrap ((i:Int)+1)))) ∨
      ∃ q,(cndO (p.2 != 0) (some (.ret,za0 r v i)) (obO ((v.length+[p.1].length)*(8:Nat)≤zf) (z7x (z5e r (v++[p.1]) (IntKind.i64.wrap ((i:Int)+1)))))).bind (zb zfj)=some (z4d q):=fun p=>by
     cases hp : (p.2 != 0) with
     | true=>exact .inr ⟨_,z1gf _ _ _⟩
     | false=>exact .inl ⟨v++[p.1],by grind,by rw[z7,if_neg (by simp),z6 (by grind [zf,List.length_singleton])]⟩
    by_cases c : (↑(Agg.t (r.aggs.getD i zn)).length:Int) > (0:Int)
    all_goals simp_all [z7,if_pos,z6,step,if_neg]
   ·exact⟨_,(ze (by rw[z177,z7,if_neg (by simp)])).trans (z1l5 _ _ _)⟩
theorem z1vu (r:Rel) (hr:WS .rel r) (h:z179 r) : zon r=some (z4d (zfk r)):=z2bn (z2bo r hr h)
def z1l7 : FnC Un:=fnF1 (dS .rel) fun r=>([z179 r],z4d (zfk r))
theorem z24f : FnOK 81 z1l7:=fnK1 zo (M:=z7o) rfl ⟨ztn,z286,zxm,z175,trivial⟩ trivial trivial trivial trivial Tryz.func81 fun r=>GiF.r fun w o=>z1vu r (wfA_ w 0) (obA_ o 0)
end
end B
end Go.Proofs.YtjfpbchdcbhfgaaGreat
