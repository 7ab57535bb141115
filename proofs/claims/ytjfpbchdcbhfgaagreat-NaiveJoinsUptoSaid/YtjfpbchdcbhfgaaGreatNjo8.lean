/- Part 8 of the proof: Sref15r Slight1. -/
import Derived.Test.YtjfpbchdcbhfgaaGreatNjo7
set_option linter.unusedVariables false
set_option linter.unusedSimpArgs false
namespace Go.Proofs.YtjfpbchdcbhfgaaGreat
namespace B
open Go Go.RowKit
set_option maxRecDepth 100000
noncomputable section
attribute [local irreducible] awp ctxK zw z1a retQ z1m awf ctxF z1l
def z36(r:Rel):Option (RF Un):=fnF_ z1f6 z28d Tryz.f65 0 [.d] [.d (.agg (enc Ty.rel r))]
def z37(r:Rel):Bool:=
 (!(r.op==1)&& !(r.table.toList==(ByteArray.mk #[]).toList))||(!(r.op==2)&&decide (0<r.rows.length))||(!(r.op==3||r.op==4||r.op==5||r.op==6||r.op==7)&&decide (0<r.terms.length))||
 (!(r.op==7)&&decide (0<r.aggs.length))||(!(r.op==12)&&decide (0<r.keys.length))||(!(r.op==9||r.op==10||r.op==11)&&r.all)||(!(r.op==13)&&(!(r.limit==0)|| !(r.skip==0)))
theorem zut{R:Bool→RF Un}(a p x:Bool){X:Option (RF Un)}(h:X=some (R x)):cndO a (cndO p (some (R true)) X) X=some (R ((a&&p)||x)):=by subst h;cases a<;>cases p<;>cases x<;>rfl
def spX(g p:Bool)(X:Option (RF Un)):Option (RF Un):=cndO g (cndO p (some (z9b true)) X) X
def spT(g1 g2 g3 g4 g5 g6 g7 tb rw_ tm ag ky al li sk:Bool):Option (RF Un):=spX g1 tb (spX g2 rw_ (spX g3 tm (spX g4 ag (spX g5 ky (spX g6 al (cndO g7 (cndO li (some (z9b true)) (some (z9b sk))) (some (z9b false))))))))
theorem zcq(g1 g2 g3 g4 g5 g6 g7 tb rw_ tm ag ky al li sk:Bool):spT g1 g2 g3 g4 g5 g6 g7 tb rw_ tm ag ky al li sk=some (z9b ((g1&&tb)||((g2&&rw_)||((g3&&tm)||((g4&&ag)||((g5&&ky)||((g6&&al)||(g7&&(li||sk))))))))):=by
 have z:cndO g7 (cndO li (some (z9b true)) (some (z9b sk))) (some (z9b false))=some (z9b (g7&&(li||sk))):=by cases g7<;>cases li<;>rfl
 exact zut _ _ _ (zut _ _ _ (zut _ _ _ (zut _ _ _ (zut _ _ _ (zut _ _ _ z)))))
theorem z2oo(table:ByteArray)(cols:List Col)(kids:List Rel)(terms:List Term)(aggs:List Agg)(keys:List By)(limit skip:Int)(all:Bool)(rows:List (List Val)):z36 (.mk 1 table cols kids terms aggs keys limit skip all rows)=spT false true true true true true true (!(table.toList==(ByteArray.mk #[]).toList)) (decide ((rows.length:Int)>0)) (decide ((terms.length:Int)>0)) (decide ((aggs.length:Int)>0)) (decide ((keys.length:Int)>0)) all (limit !=0) (skip !=0):=by kernel_rfl
theorem z2op(table:ByteArray)(cols:List Col)(kids:List Rel)(terms:List Term)(aggs:List Agg)(keys:List By)(limit skip:Int)(all:Bool)(rows:List (List Val)):z36 (.mk 2 table cols kids terms aggs keys limit skip all rows)=spT true false true true true true true (!(table.toList==(ByteArray.mk #[]).toList)) (decide ((rows.length:Int)>0)) (decide ((terms.length:Int)>0)) (decide ((aggs.length:Int)>0)) (decide ((keys.length:Int)>0)) all (limit !=0) (skip !=0):=by kernel_rfl
theorem z2oq(table:ByteArray)(cols:List Col)(kids:List Rel)(terms:List Term)(aggs:List Agg)(keys:List By)(limit skip:Int)(all:Bool)(rows:List (List Val)):z36 (.mk 3 table cols kids terms aggs keys limit skip all rows)=spT true true false true true true true (!(table.toList==(ByteArray.mk #[]).toList)) (decide ((rows.length:Int)>0)) (decide ((terms.length:Int)>0)) (decide ((aggs.length:Int)>0)) (decide ((keys.length:Int)>0)) all (limit !=0) (skip !=0):=by kernel_rfl
theorem z2or(table:ByteArray)(cols:List Col)(kids:List Rel)(terms:List Term)(aggs:List Agg)(keys:List By)(limit skip:Int)(all:Bool)(rows:List (List Val)):z36 (.mk 4 table cols kids terms aggs keys limit skip all rows)=spT true true false true true true true (!(table.toList==(ByteArray.mk #[]).toList)) (decide ((rows.length:Int)>0)) (decide ((terms.length:Int)>0)) (decide ((aggs.length:Int)>0)) (decide ((keys.length:Int)>0)) all (limit !=0) (skip !=0):=by kernel_rfl
theorem z2os(table:ByteArray)(cols:List Col)(kids:List Rel)(terms:List Term)(aggs:List Agg)(keys:List By)(limit skip:Int)(all:Bool)(rows:List (List Val)):z36 (.mk 5 table cols kids terms aggs keys limit skip all rows)=spT true true false true true true true (!(table.toList==(ByteArray.mk #[]).toList)) (decide ((rows.length:Int)>0)) (decide ((terms.length:Int)>0)) (decide ((aggs.length:Int)>0)) (decide ((keys.length:Int)>0)) all (limit !=0) (skip !=0):=by kernel_rfl
theorem z2ot(table:ByteArray)(cols:List Col)(kids:List Rel)(terms:List Term)(aggs:List Agg)(keys:List By)(limit skip:Int)(all:Bool)(rows:List (List Val)):z36 (.mk 6 table cols kids terms aggs keys limit skip all rows)=spT true true false true true true true (!(table.toList==(ByteArray.mk #[]).toList)) (decide ((rows.length:Int)>0)) (decide ((terms.length:Int)>0)) (decide ((aggs.length:Int)>0)) (decide ((keys.length:Int)>0)) all (limit !=0) (skip !=0):=by kernel_rfl
theorem z2ou(table:ByteArray)(cols:List Col)(kids:List Rel)(terms:List Term)(aggs:List Agg)(keys:List By)(limit skip:Int)(all:Bool)(rows:List (List Val)):z36 (.mk 7 table cols kids terms aggs keys limit skip all rows)=spT true true false false true true true (!(table.toList==(ByteArray.mk #[]).toList)) (decide ((rows.length:Int)>0)) (decide ((terms.length:Int)>0)) (decide ((aggs.length:Int)>0)) (decide ((keys.length:Int)>0)) all (limit !=0) (skip !=0):=by kernel_rfl
theorem z2ov(table:ByteArray)(cols:List Col)(kids:List Rel)(terms:List Term)(aggs:List Agg)(keys:List By)(limit skip:Int)(all:Bool)(rows:List (List Val)):z36 (.mk 8 table cols kids terms aggs keys limit skip all rows)=spT true true true true true true true (!(table.toList==(ByteArray.mk #[]).toList)) (decide ((rows.length:Int)>0)) (decide ((terms.length:Int)>0)) (decide ((aggs.length:Int)>0)) (decide ((keys.length:Int)>0)) all (limit !=0) (skip !=0):=by kernel_rfl
theorem z2ow(table:ByteArray)(cols:List Col)(kids:List Rel)(terms:List Term)(aggs:List Agg)(keys:List By)(limit skip:Int)(all:Bool)(rows:List (List Val)):z36 (.mk 9 table cols kids terms aggs keys limit skip all rows)=spT true true true true true false true (!(table.toList==(ByteArray.mk #[]).toList)) (decide ((rows.length:Int)>0)) (decide ((terms.length:Int)>0)) (decide ((aggs.length:Int)>0)) (decide ((keys.length:Int)>0)) all (limit !=0) (skip !=0):=by kernel_rfl
theorem z2mu(table:ByteArray)(cols:List Col)(kids:List Rel)(terms:List Term)(aggs:List Agg)(keys:List By)(limit skip:Int)(all:Bool)(rows:List (List Val)):z36 (.mk 10 table cols kids terms aggs keys limit skip all rows)=spT true true true true true false true (!(table.toList==(ByteArray.mk #[]).toList)) (decide ((rows.length:Int)>0)) (decide ((terms.length:Int)>0)) (decide ((aggs.length:Int)>0)) (decide ((keys.length:Int)>0)) all (limit !=0) (skip !=0):=by kernel_rfl
theorem z2mv(table:ByteArray)(cols:List Col)(kids:List Rel)(terms:List Term)(aggs:List Agg)(keys:List By)(limit skip:Int)(all:Bool)(rows:List (List Val)):z36 (.mk 11 table cols kids terms aggs keys limit skip all rows)=spT true true true true true false true (!(table.toList==(ByteArray.mk #[]).toList)) (decide ((rows.length:Int)>0)) (decide ((terms.length:Int)>0)) (decide ((aggs.length:Int)>0)) (decide ((keys.length:Int)>0)) all (limit !=0) (skip !=0):=by kernel_rfl
theorem z2mw(table:ByteArray)(cols:List Col)(kids:List Rel)(terms:List Term)(aggs:List Agg)(keys:List By)(limit skip:Int)(all:Bool)(rows:List (List Val)):z36 (.mk 12 table cols kids terms aggs keys limit skip all rows)=spT true true true true false true true (!(table.toList==(ByteArray.mk #[]).toList)) (decide ((rows.length:Int)>0)) (decide ((terms.length:Int)>0)) (decide ((aggs.length:Int)>0)) (decide ((keys.length:Int)>0)) all (limit !=0) (skip !=0):=by kernel_rfl
theorem z2mx(table:ByteArray)(cols:List Col)(kids:List Rel)(terms:List Term)(aggs:List Agg)(keys:List By)(limit skip:Int)(all:Bool)(rows:List (List Val)):z36 (.mk 13 table cols kids terms aggs keys limit skip all rows)=spT true true true true true true false (!(table.toList==(ByteArray.mk #[]).toList)) (decide ((rows.length:Int)>0)) (decide ((terms.length:Int)>0)) (decide ((aggs.length:Int)>0)) (decide ((keys.length:Int)>0)) all (limit !=0) (skip !=0):=by kernel_rfl
def zuu(r:Rel):Prop:=0≤z3s r.op
theorem z1tb(r:Rel)(_hr:WS .rel r)(h:zuu r):z36 r=some (z9b (z37 r)):=by
 have hop:r.op=1∨r.op=2∨r.op=3∨r.op=4∨r.op=5∨r.op=6∨r.op=7∨r.op=8∨r.op=9∨r.op=10∨r.op=11∨r.op=12∨r.op=13:=by
  grind[zuu,z3s]
 cases r with
 |mk op table cols kids terms aggs keys limit skip all rows=>
  rcases hop with rfl|rfl|rfl|rfl|rfl|rfl|rfl|rfl|rfl|rfl|rfl|rfl|rfl
  ·rw[z2oo,zcq];unfold z37;simp;grind
  ·rw[z2op,zcq];unfold z37;simp;grind
  ·rw[z2oq,zcq];unfold z37;simp;grind
  ·rw[z2or,zcq];unfold z37;simp;grind
  ·rw[z2os,zcq];unfold z37;simp;grind
  ·rw[z2ot,zcq];unfold z37;simp;grind
  ·rw[z2ou,zcq];unfold z37;simp;grind
  ·rw[z2ov,zcq];unfold z37;simp;grind
  ·rw[z2ow,zcq];unfold z37;simp;grind
  ·rw[z2mu,zcq];unfold z37;simp;grind
  ·rw[z2mv,zcq];unfold z37;simp;grind
  ·rw[z2mw,zcq];unfold z37;simp;grind
  ·rw[z2mx,zcq];unfold z37;simp;grind
def z1fr:FnC Un:=fnF1 (dS .rel) fun r=>([zuu r],z9b (z37 r))
theorem z23t:FnOK 65 z1fr:=fnK1 zt (M:=z1f6) rfl trivial trivial trivial trivial trivial Tryz.func65 fun r=>GiF.r fun w o=>z1tb r (wfA_ w 0) (obA_ o 0)
def zvr(t:Term)(env:List Int):Bool:=(zi9 t).2.2 &&decide (¬(t.kids.length:Int)<(zi9 t).1)&&decide (¬(t.kids.length:Int)>(zi9 t).2.1)&&decide ((t.sub.length:Int)=zkd t)&&zus t env
def z11a(r:Rel):Bool:=decide (¬z3s r.op<0)&&decide ((r.kids.length:Int)=z3s r.op)&& !z37 r
def z1d8(a:Agg):Bool:=((a.name.toList==(ByteArray.mk #[99,111,117,110,116]).toList)||(a.name.toList==(ByteArray.mk #[115,117,109]).toList)||(a.name.toList==(ByteArray.mk #[109,105,110]).toList)||(a.name.toList==(ByteArray.mk #[109,97,120]).toList))&&decide (a.t.length≤1)&&(decide (a.t.length≠0)||((a.name.toList==(ByteArray.mk #[99,111,117,110,116]).toList)&& !a.distinct))
mutual
def zcr:Term→List Int→Bool
 | .mk op v depth at_ name kids sub type,env=>zvr (.mk op v depth at_ name kids sub type) env&&z58 kids env&&(decide (sub.length≠1)||(zeg sub env&&(op==27||z29 (sub.getD 0 za)==1)))
def z58:List Term→List Int→Bool
 |[],_=>true
 |t::l,env=>zcr t env&&z58 l env
def z1d9:Agg→List Int→Bool
 | .mk name distinct t,env=>z1d8 (.mk name distinct t)&&z58 t env
def z11b:List Agg→List Int→Bool
 |[],_=>true
 |a::l,env=>z1d9 a env&&z11b l env
def zlu:Rel→List Int→Bool
  | .mk op table cols kids terms aggs keys limit skip all rows,env=>z11a (.mk op table cols kids terms aggs keys limit skip all rows)&&zeg kids env&&decide ((cols.length:Int)=z29 (.mk op table cols kids terms aggs keys limit skip all rows))&&
    (if op=1 then !(table.toList==(ByteArray.mk #[]).toList)
     else if op=2 then zoe rows cols.length
     else if op=3∨op=6 then decide (terms.length=1)&&z58 terms (z94 (.mk op table cols kids terms aggs keys limit skip all rows)::env)
     else if op=4 then z58 terms (z94 (.mk op table cols kids terms aggs keys limit skip all rows)::env)
     else if op=5 then decide (terms.length≤1)&&z58 terms (z94 (.mk op table cols kids terms aggs keys limit skip all rows)::env)
     else if op=7 then z58 terms (z94 (.mk op table cols kids terms aggs keys limit skip all rows)::env)&&z11b aggs (z94 (.mk op table cols kids terms aggs keys limit skip all rows)::env)
     else if op=9∨op=10∨op=11 then z29 (kids.getD 0 za)==z29 (kids.getD 1 za)
     else if op=12 then zvq keys (z29 (.mk op table cols kids terms aggs keys limit skip all rows))
     else if op=13 then decide (-1≤limit∧limit≤1000000000000000∧0≤skip∧skip≤1000000000000000)
     else true)
def zeg:List Rel→List Int→Bool
 |[],_=>true
 |r::l,env=>zlu r env&&zeg l env
end
def zeh(r:Rel)(env:List Int):Bool:=
 if r.op=1 then !(r.table.toList==(ByteArray.mk #[]).toList)
 else if r.op=2 then zoe r.rows r.cols.length
 else if r.op=3∨r.op=6 then decide (r.terms.length=1)&&z58 r.terms (z94 r::env)
 else if r.op=4 then z58 r.terms (z94 r::env)
 else if r.op=5 then decide (r.terms.length≤1)&&z58 r.terms (z94 r::env)
 else if r.op=7 then z58 r.terms (z94 r::env)&&z11b r.aggs (z94 r::env)
 else if r.op=9∨r.op=10∨r.op=11 then z29 (r.kids.getD 0 za)==z29 (r.kids.getD 1 za)
 else if r.op=12 then zvq r.keys (z29 r)
 else if r.op=13 then decide (-1≤r.limit∧r.limit≤1000000000000000∧0≤r.skip∧r.skip≤1000000000000000)
 else true
theorem z1xb(t:Term)(env:List Int):zcr t env=(zvr t env&&z58 t.kids env&&(decide (t.sub.length≠1)||(zeg t.sub env&&(t.op==27||z29 (t.sub.getD 0 za)==1)))):=by cases t;rfl
theorem z23u(a:Agg)(env:List Int):z1d9 a env=(z1d8 a&&z58 a.t env):=by cases a;rfl
theorem z23v(r:Rel)(env:List Int):zlu r env=(z11a r&&zeg r.kids env&&decide ((r.cols.length:Int)=z29 r)&&zeh r env):=by cases r;rfl
theorem zev:∀(l:List Term)(env:List Int),z58 l env=l.all fun t=>zcr t env
 |[],_=>rfl
 |t::l,env=>by simp only[z58,y1h,zev l env]
theorem z144:∀(l:List Agg)(env:List Int),z11b l env=l.all fun t=>z1d9 t env
 |[],_=>rfl
 |t::l,env=>by simp only[z11b,y1h,z144 l env]
theorem ztp:∀(l:List Rel)(env:List Int),zeg l env=l.all fun t=>zlu t env
 |[],_=>rfl
 |t::l,env=>by simp only[zeg,y1h,ztp l env]
def z18z(r:Rel):Prop:=(r.op=9∨r.op=10∨r.op=11)→2≤r.kids.length
def z7g(t:Term)(env:List Int):Bool:=zcr t env
def zcs(l:List Term)(env:List Int):Bool:=z58 l env
def z145(l:List Agg)(env:List Int):Bool:=z11b l env
def z1j6(r:Rel)(env:List Int):Bool:=zeh r env
def z9v(r:Rel)(env:List Int):Bool:=zlu r env
def zpg(m:Nat):FnC Un:=fnF2 (dS .term) (dL .int) fun t env=>z2o (3*t.ht) m ([z2j env t.ht],z9b (z7g t env))
def ztq(m:Nat):FnC Un:=fnF2 (dL .term) (dL .int) fun l env=>z2o (3*htTs l+1) m ([z2j env (htTs l)],z9b (zcs l env))
def zzn(m:Nat):FnC Un:=fnF2 (dL .agg) (dL .int) fun l env=>z2o (3*htAs l) m ([z2j env (htAs l)],z9b (z145 l env))
def zzo(m:Nat):FnC Un:=fnF2 (dS .rel) (dL .int) fun r env=>z2o (3*r.ht+1) m ([z2j env r.ht,z18z r],z9b (z1j6 r env))
def ztr(m:Nat):FnC Un:=fnF2 (dS .rel) (dL .int) fun r env=>z2o (3*r.ht+2) m ([z2j env r.ht],z9b (z9v r env))
def zts(m:Nat):Mc Un:=mcF_ [(56,z23p),(57,z1n4),(58,z1x9),(18,zpg m),(33,ztr m),(19,zc6)] [] [] [] []
def z146:Nat→NS:=nsF_ [(5,{ts:=bl 83 278,bs:=bl 83 4,nm:=[],cs:=true})] true
def z7q(t:Term)(env:List Int)(v0:Int):S Un:=(st 83 83 332 0 [(1,al .int env),(2,ax 2),(4,ab false),(8,ai v0)] [(2,bg .term t)] [])
def zph(m:Nat):S Un→Option (EX Un):=lpF_ (zts m) z146 Tryz.f18 [1,1,1,0,1,2,2] 5
def zia(m:Nat):Exit→S Un→Option (RF Un):=cxF_ (zts m) z146 Tryz.f18 [1,1,1,0,1,2] [.d]
def z1fs(m:Nat)(t:Term)(env:List Int):Option (RF Un):=fnF_ (zts m) z146 Tryz.f18 0 [.d] [.d (.agg (enc Ty.term t)),.d (.v (.dat (U:=Un) Ty.int env))]
theorem z28n(m:Nat)(t:Term)(env:List Int):z1fs m t env=cndO (!(zi9 (Term.ids t)).snd.snd) (some (z9b (false))) (cndO (decide ((↑t.kids.length:Int)<(zi9 (Term.ids t)).fst)) (some (z9b (false))) (cndO (decide ((↑t.kids.length:Int)>(zi9 (Term.ids t)).snd.fst)) (some (z9b (false))) (cndO ((↑t.sub.length:Int) !=zkd (Term.ids t)) (some (z9b (false))) (cndO (!zus (Term.ids t) env) (some (z9b (false))) ((zph m (z7q t env (0:Int))).bind (zd (zia m))))))):=by kernel_rfl
theorem z1ft(m:Nat)(t:Term)(env:List Int)(v0:Int):zph m (z7q t env v0)=cndO (decide (v0<(↑t.kids.length:Int))) (obO (0≤v0∧v0<(↑t.kids.length:Int)) (obO ((3:Nat)*(Term.ids (t.kids.getD v0.toNat zb)).ht<m) (obO (z2j env (Term.ids (t.kids.getD v0.toNat zb)).ht) (cndO (!z7g (Term.ids (t.kids.getD v0.toNat zb)) env) (some (.ret,(z7q t env v0))) (zph m (z7q t env (IntKind.i64.wrap (v0+1)))))))) (some (.exit 0,(z7q t env v0))):=lpQ_ (by kernel_rfl)
theorem z1nb(m:Nat)(t:Term)(env:List Int)(v0:Int):zia m .ret (z7q t env v0)=some (z9b (false)):=by kernel_rfl
theorem z1tc(m:Nat)(t:Term)(env:List Int)(v0:Int):zia m (.exit 0) (z7q t env v0)=cndO ((↑t.sub.length:Int)==(1:Int)) (obO ((0:Int)≤(0:Int)∧(0:Int)<(↑t.sub.length:Int)) (obO ((3:Nat)*(Rel.ids (t.sub.getD 0 za)).ht+(2:Nat)<m) (obO (z2j env (Rel.ids (t.sub.getD 0 za)).ht) (cndO (z9v (Rel.ids (t.sub.getD 0 za)) env) (cndO (t.op==27) (some (z9b (true))) (obO ((0:Int)≤(0:Int)∧(0:Int)<(↑t.sub.length:Int)) (some (z9b (z2e (Rel.ids (t.sub.getD 0 za))==1))))) (some (z9b (false))))))) (some (z9b (true))):=by kernel_rfl
theorem z28o(m:Nat)(t:Term)(env:List Int)(hm:3*t.ht<m+1)(h:env.length+t.ht≤8000000)(i:Int):zia m (.exit 0) (z7q t env i)=some (z9b (decide (t.sub.length≠1)||(zeg t.sub env&&(t.op==27||z29 (t.sub.getD 0 za)==1)))):=by
 rw[z1tc,z8];by_cases h1:t.sub.length=1
 ·obtain⟨s,hs⟩:∃s,t.sub=[s]:=by
   match hk:t.sub,h1 with
   |[s],_=>simp
  have hht:s.ht<t.ht:=Term.ht_sub (by grind);have hg:t.sub.getD 0 za=s:=by grind
  rw[if_pos (by grind),hg,decide_eq_false (fun e=>e h1),y3q];simp only[Rel.ids_eq];rw[z6 (by omega),z6 (by omega),z6 (show z2j env s.ht by grind[z2j])];have hr:zeg t.sub env=z9v s env:=by rw[hs];simp only[zeg,Bool.and_true];rfl
  rw[hr,zae];cases z9v s env
  ·rfl
  ·rw[z8,if_pos rfl,y1b,z8];cases t.op==27
   all_goals simp_all[if_neg,z6,y3q]
 grind
theorem z1zn(m:Nat)(t:Term)(env:List Int)(_ht:WS .term t)(_he:WL .int env)(hm:3*t.ht<m+1)(h:z2j env t.ht):z1fs m t env=some (z9b (z7g t env)):=by
 have hk:WL .term t.kids:=_ht.term_kids
 have lp:=z2x (L:=zph m) (st:=fun i=>z7q t env i) (C:=zia m) (e:=.exit 0) (fun b=>some (z9b (b&&(decide (t.sub.length≠1)||(zeg t.sub env&&(t.op==27||z29 (t.sub.getD 0 za)==1)))))) (d:=zb) (fun k=>z7g k env) hk.len
  (fun i x hi hx hmem=>by
   have hht:=Term.ht_kid hmem;rw[z1ft];simp only[z8,hi,decide_true,if_true,and_true,y5,hx,Term.ids_eq]
   grind[z6,z2j,z7g])
  (by rw[z1ft];simp[z8]) (fun i=>by rw[z1nb,y1w]) (fun i=>by rw[z28o m t env hm h,y1b])
 have e:z7g t env=(zvr t env&&(t.kids.all (fun k=>z7g k env)&&(decide (t.sub.length≠1)||(zeg t.sub env&&(t.op==27||z29 (t.sub.getD 0 za)==1))))):=by
  show zcr t env=_;rw[z1xb,zev,y3r];rfl
 rw[z28n,e];simp only[Term.ids_eq];unfold zvr;generalize zi9 t=o;cases o.2.2
 ·rfl
 simp only[z8,decide_eq_true_eq,y4c,y1b];grind
abbrev zkz(m:Nat):Prop:=FnOK 18 (zpg m)∧FnOK 114 (ztq m)∧FnOK 115 (zzn m)∧FnOK 66 (zzo m)∧FnOK 33 (ztr m)
theorem z23w(m:Nat)(hG:zkz m):FnOK 18 (zpg (m+1)):=fnK2 zt zr (M:=(zts m)) rfl ⟨z2gm,z28g,z2cv,hG.1,hG.2.2.2.2,zg1,trivial⟩ trivial trivial trivial trivial Tryz.func18 fun t env=>GiF.r fun w o=>z1zn m t env (wfA_ w 0) (wfA_ w 1) (obA_ o 0) (obA_ o 1)
def zxl(m:Nat):Mc Un:=mcF_ [(18,zpg m)] [] [] [] []
def z190:Nat→NS:=nsF_ [(2,{ts:=bl 19 51,bs:=bl 19 0,nm:=[],cs:=true})] true
def zbj(l:List Term)(env:List Int)(v0:Int):S Un:=(st 19 19 76 0 [(0,al .term l),(1,al .int env),(4,ab false),(5,ai v0)] [] [])
def ztt(m:Nat):S Un→Option (EX Un):=lpF_ (zxl m) z190 Tryz.f114 [1,0,1,2,2] 2
def z147(m:Nat):Exit→S Un→Option (RF Un):=cxF_ (zxl m) z190 Tryz.f114 [1,0,1,2] [.d]
def z1nc(m:Nat)(l:List Term)(env:List Int):Option (RF Un):=fnF_ (zxl m) z190 Tryz.f114 0 [.d] [.d (.v (.dat (U:=Un) Ty.term l)),.d (.v (.dat (U:=Un) Ty.int env))]
theorem z2cx(m:Nat)(l:List Term)(env:List Int):z1nc m l env=(ztt m (zbj l env (0:Int))).bind (zd (z147 m)):=by kernel_rfl
theorem z1nd(m:Nat)(l:List Term)(env:List Int)(v0:Int):ztt m (zbj l env v0)=cndO (decide (v0<(↑l.length:Int))) (obO (0≤v0∧v0<(↑l.length:Int)) (obO ((3:Nat)*(Term.ids (l.getD v0.toNat zb)).ht<m) (obO (z2j env (Term.ids (l.getD v0.toNat zb)).ht) (cndO (!z7g (Term.ids (l.getD v0.toNat zb)) env) (some (.ret,(zbj l env v0))) (ztt m (zbj l env (IntKind.i64.wrap (v0+1)))))))) (some (.exit 0,(zbj l env v0))):=lpQ_ (by kernel_rfl)
theorem z1td(m:Nat)(l:List Term)(env:List Int)(v0:Int):z147 m .ret (zbj l env v0)=some (z9b (false)):=by kernel_rfl
theorem z1zo(m:Nat)(l:List Term)(env:List Int)(v0:Int):z147 m (.exit 0) (zbj l env v0)=some (z9b (true)):=by kernel_rfl
theorem z23x(m:Nat)(l:List Term)(env:List Int)(hl:WL .term l)(_he:WL .int env)(hm:3*htTs l+1<m+1)(h:z2j env (htTs l)):z1nc m l env=some (z9b (zcs l env)):=by
 have e:zcs l env=l.all fun t=>z7g t env:=zev l env;rw[z2cx,e]
 exact z2x (L:=ztt m) (st:=fun i=>zbj l env i) (fun b=>some (z9b b)) (d:=zb) (fun t=>z7g t env) hl.len
  (fun i x hi hx hmem=>by
   have hht:=zc1 hmem;rw[z1nd];simp only[z8,hi,decide_true,if_true,and_true,y5,hx,Term.ids_eq]
   grind[z6,z2j,z7g])
  (by rw[z1nd];simp[z8]) (fun i=>z1td _ _ _ _) (fun i=>z1zo _ _ _ _)
theorem z28p(m:Nat)(hG:zkz m):FnOK 114 (ztq (m+1)):=fnK2 zr zr (M:=(zxl m)) rfl ⟨hG.1,trivial⟩ trivial trivial trivial trivial Tryz.func114 fun l env=>GiF.r fun w o=>z23x m l env (wfA_ w 0) (wfA_ w 1) (obA_ o 0) (obA_ o 1)
def ztu(m:Nat):Mc Un:=mcF_ [(114,ztq m)] [] [] [] []
def z148:Nat→NS:=nsF_ [(2,{ts:=bl 61 51,bs:=bl 61 0,nm:=[],cs:=true})] true
def z3t(l:List Agg)(env:List Int)(v0:Int):S Un:=(st 61 61 244 0 [(0,al .agg l),(1,al .int env),(4,ab false),(5,ai v0)] [] [])
def zib(m:Nat):S Un→Option (EX Un):=lpF_ (ztu m) z148 Tryz.f115 [1,0,1,2,2] 2
def zzp(m:Nat):Exit→S Un→Option (RF Un):=cxF_ (ztu m) z148 Tryz.f115 [1,0,1,2] [.d]
def z1fu(m:Nat)(l:List Agg)(env:List Int):Option (RF Un):=fnF_ (ztu m) z148 Tryz.f115 0 [.d] [.d (.v (.dat (U:=Un) Ty.agg l)),.d (.v (.dat (U:=Un) Ty.int env))]
theorem z28q(m:Nat)(l:List Agg)(env:List Int):z1fu m l env=(zib m (z3t l env (0:Int))).bind (zd (zzp m)):=by kernel_rfl
def zpi(m:Nat)(l:List Agg)(env:List Int)(v0:Int):Option (EX Un):=obO ((3:Nat)*htTs (Agg.t (l.getD v0.toNat zq))+(1:Nat)<m) (obO (z2j env (htTs (Agg.t (l.getD v0.toNat zq)))) (cndO (!zcs (Agg.t (l.getD v0.toNat zq)) env) (some (.ret,(z3t l env v0))) (zib m (z3t l env (IntKind.i64.wrap (v0+1))))))
def zic(m:Nat)(l:List Agg)(env:List Int)(v0:Int):Option (EX Un):=cndO (decide ((↑(Agg.t (l.getD v0.toNat zq)).length:Int)>(1:Int))) (some (.ret,(z3t l env v0))) (cndO ((↑(Agg.t (l.getD v0.toNat zq)).length:Int)==(0:Int)) (cndO (!(Agg.name (l.getD v0.toNat zq)).toList ==(ByteArray.mk #[99,111,117,110,116]).toList) (some (.ret,(z3t l env v0))) (cndO (Agg.distinct (l.getD v0.toNat zq)) (some (.ret,(z3t l env v0))) (zpi m l env v0))) (zpi m l env v0))
theorem z1fv(m:Nat)(l:List Agg)(env:List Int)(v0:Int):zib m (z3t l env v0)=cndO (decide (v0<(↑l.length:Int))) (obO (0≤v0∧v0<(↑l.length:Int)) (cndO (!(Agg.name (l.getD v0.toNat zq)).toList ==(ByteArray.mk #[99,111,117,110,116]).toList) (cndO (!(Agg.name (l.getD v0.toNat zq)).toList ==(ByteArray.mk #[115,117,109]).toList) (cndO (!(Agg.name (l.getD v0.toNat zq)).toList ==(ByteArray.mk #[109,105,110]).toList) (cndO (!(Agg.name (l.getD v0.toNat zq)).toList ==(ByteArray.mk #[109,97,120]).toList) (some (.ret,(z3t l env v0))) (zic m l env v0)) (zic m l env v0)) (zic m l env v0)) (zic m l env v0))) (some (.exit 0,(z3t l env v0))):=lpQ_ (by kernel_rfl)
theorem z1ne(m:Nat)(l:List Agg)(env:List Int)(v0:Int):zzp m .ret (z3t l env v0)=some (z9b (false)):=by kernel_rfl
theorem z1te(m:Nat)(l:List Agg)(env:List Int)(v0:Int):zzp m (.exit 0) (z3t l env v0)=some (z9b (true)):=by kernel_rfl
theorem z1zp(m:Nat)(l:List Agg)(env:List Int)(hl:WL .agg l)(_he:WL .int env)(hm:3*htAs l<m+1)(h:z2j env (htAs l)):z1fu m l env=some (z9b (z145 l env)):=by
 have e:z145 l env=l.all fun t=>z1d9 t env:=z144 l env;rw[z28q,e]
 exact z2x (L:=zib m) (st:=fun i=>z3t l env i) (fun b=>some (z9b b)) (d:=zq) (fun t=>z1d9 t env) hl.len
  (fun i x hi hx hmem=>by
   have hht:=z13w hmem;have hax:x.ht=htTs x.t+1:=by cases x;rfl
   have key:zpi m l env (i:Int)=if zcs x.t env=true then zib m (z3t l env (IntKind.i64.wrap ((i:Int)+1)))else some (.ret,z3t l env (i:Int)):=by
    unfold zpi;grind[Int.toNat_natCast,z6,z2j,htTs,z8,zcs]
   have e2:z1d9 x env=(z1d8 x&&zcs x.t env):=z23u x env;rw[z1fv,e2];unfold zic;simp only[y5,hx,key];unfold z1d8;generalize zcs x.t env=q;generalize(x.name.toList==(ByteArray.mk #[99,111,117,110,116]).toList)=n1;generalize(x.name.toList==(ByteArray.mk #[115,117,109]).toList)=n2;generalize(x.name.toList==(ByteArray.mk #[109,105,110]).toList)=n3;generalize(x.name.toList==(ByteArray.mk #[109,97,120]).toList)=n4;rw[z8,if_pos (decide_eq_true hi),z6 (by omega)];by_cases c1:x.t.length≤1
   ·have d1:decide ((x.t.length:Int)>1)=false:=decide_eq_false (by omega);rw[d1,decide_eq_true c1];by_cases c0:x.t.length=0
    ·have d0:((x.t.length:Int)==0)=true:=by grind
     rw[d0,decide_eq_false (fun e=>e c0)];cases n1<;>cases n2<;>cases n3<;>cases n4<;>cases x.distinct<;>cases q<;>rfl
    ·have d0:((x.t.length:Int)==0)=false:=by grind
     rw[d0,decide_eq_true c0];cases n1<;>cases n2<;>cases n3<;>cases n4<;>cases q<;>rfl
   ·have d1:decide ((x.t.length:Int)>1)=true:=decide_eq_true (by omega);rw[d1,decide_eq_false c1]
    cases n1<;>cases n2<;>cases n3<;>cases n4<;>rfl)
  (by rw[z1fv];simp[z8]) (fun i=>z1ne _ _ _ _) (fun i=>z1te _ _ _ _)
theorem z23y(m:Nat)(hG:zkz m):FnOK 115 (zzn (m+1)):=fnK2 zr zr (M:=(ztu m)) rfl ⟨hG.2.1,trivial⟩ trivial trivial trivial trivial Tryz.func115 fun l env=>GiF.r fun w o=>z1zp m l env (wfA_ w 0) (wfA_ w 1) (obA_ o 0) (obA_ o 1)
def z1nf(m:Nat):Mc Un:=mcF_ [(112,z23s),(113,z1n8),(114,ztq m),(115,zzn m),(19,zc6),(116,z1na)] [] [] [] []
def z1fw(m:Nat)(r:Rel)(env:List Int):Option (RF Un):=fnF_ (z1nf m) z28d Tryz.f66 0 [.d] [.d (.agg (enc Ty.rel r)),.d (.v (.dat (U:=Un) Ty.int env))]
def zid(m:Nat)(r:Rel)(env:List Int):Option (RF Un):=obO ((3:Nat)*htTs r.terms+(1:Nat)<m) (obO (z2j (zbi (Rel.ids r) env) (htTs r.terms)) (some (z9b (zcs r.terms (zbi (Rel.ids r) env)))))
def zzq(m:Nat)(r:Rel)(env:List Int):Option (RF Un):=cndO ((↑r.terms.length:Int)==(1:Int)) (zid m r env) (some (z9b (false)))
def zpj(r:Rel):Option (RF Un):=obO ((0:Int)≤(0:Int)∧(0:Int)<(↑r.kids.length:Int)) (obO ((0:Int)≤(1:Int)∧(1:Int)<(↑r.kids.length:Int)) (some (z9b (z2e (Rel.ids (r.kids.getD 0 za))==z2e (Rel.ids (r.kids.getD 1 za))))))
theorem z28r(m:Nat)(r:Rel)(env:List Int):z1fw m r env=obO (z2j env (1:Nat)) (cndO (r.op==1) (some (z9b (!r.table.toList==(ByteArray.mk #[]).toList))) (cndO (r.op==2) (some (z9b (zoe r.rows (↑r.cols.length:Int)))) (cndO (r.op==3) (zzq m r env) (cndO (r.op==6) (zzq m r env) (cndO (r.op==4) (zid m r env) (cndO (r.op==5) (cndO (decide ((↑r.terms.length:Int)≤(1:Int))) (zid m r env) (some (z9b (false)))) (cndO (r.op==7) (obO ((3:Nat)*htTs r.terms+(1:Nat)<m) (obO (z2j (zbi (Rel.ids r) env) (htTs r.terms)) (cndO (zcs r.terms (zbi (Rel.ids r) env)) (obO ((3:Nat)*htAs r.aggs<m) (obO (z2j (zbi (Rel.ids r) env) (htAs r.aggs)) (some (z9b (z145 r.aggs (zbi (Rel.ids r) env)))))) (some (z9b (false)))))) (cndO (r.op==9) (zpj r) (cndO (r.op==10) (zpj r) (cndO (r.op==11) (zpj r) (cndO (r.op==12) (some (z9b (zvq r.keys (z2e (Rel.ids r))))) (cndO (r.op==13) (cndO (decide (r.limit≥(-1:Int))) (cndO (decide (r.limit≤1000000000000000)) (cndO (decide (r.skip≥0)) (some (z9b (decide (r.skip≤1000000000000000)))) (some (z9b (false)))) (some (z9b (false)))) (some (z9b (false)))) (some (z9b (true))))))))))))))):=by kernel_rfl
theorem z1zq(m:Nat)(r:Rel)(env:List Int)(_hr:WS .rel r)(_he:WL .int env)(hm:3*r.ht+1<m+1)(h:z2j env r.ht)(hk:z18z r):z1fw m r env=some (z9b (z1j6 r env)):=by
 have hh:htTs r.terms+1≤r.ht∧htAs r.aggs+1≤r.ht:=by cases r;grind[Rel.ht,Rel.terms_mk,Rel.aggs_mk]
 have o1:z2j env 1:=by grind[z2j]
 have o2:z2j (zbi r env) (htTs r.terms):=by grind[z2j,zbi,List.length_cons]
 have o3:z2j (zbi r env) (htAs r.aggs):=by grind[z2j,zbi,List.length_cons]
 have t1:zid m r env=some (z9b (z58 r.terms (z94 r::env))):=by
  unfold zid;simp only[Rel.ids_eq];rw[z6 (by omega),z6 o2];rfl
 rw[z28r,z6 o1];unfold zzq zpj;simp only[z119,Rel.ids_eq,zae];simp only[z8,y1g,beq_iff_eq,decide_eq_true_eq];show _=some (z9b (zeh r env));unfold zeh;by_cases h1:r.op=1
 ·grind
 rw[if_neg h1,if_neg h1];by_cases h2:r.op=2
 ·grind
 rw[if_neg h2,if_neg h2];by_cases h3:r.op=3∨r.op=6
 ·by_cases hl:r.terms.length=1
  all_goals grind
 rw[if_neg (by omega),if_neg h3];by_cases h4:r.op=4
 ·grind
 rw[if_neg h4,if_neg h4];by_cases h5:r.op=5
 ·grind
 rw[if_neg h5,if_neg h5];by_cases h7:r.op=7
 ·rw[if_pos h7,if_pos h7,z6 (by omega),z6 o2];have e:zcs r.terms (zbi r env)=z58 r.terms (z94 r::env):=rfl;rw[e];cases z58 r.terms (z94 r::env)
  ·rfl
  ·rw[if_pos rfl,z6 (by omega),z6 o3];rfl
 rw[if_neg h7,if_neg h7];by_cases h9:r.op=9∨r.op=10∨r.op=11
 ·have:=hk h9;rw[if_pos (by omega),if_pos h9,z6 (by omega),z6 (by omega)]
 grind
theorem z23z(m:Nat)(hG:zkz m):FnOK 66 (zzo (m+1)):=fnK2 zt zr (M:=(z1nf m)) rfl ⟨z2gp,z28j,hG.2.1,hG.2.2.1,zg1,z28l,trivial⟩ trivial trivial trivial trivial Tryz.func66 fun r env=>GiF.r fun w o=>z1zq m r env (wfA_ w 0) (wfA_ w 1) (obA_ o 0) (obA_ o 1) (obA_ o 2)
def zxm(m:Nat):Mc Un:=mcF_ [(59,z141),(65,z1fr),(33,ztr m),(19,zc6),(66,zzo m)] [] [] [] []
def z191:Nat→NS:=nsF_ [(4,{ts:=bl 49 54,bs:=bl 49 4,nm:=[],cs:=true})] true
def z95(r:Rel)(env:List Int)(v0:Int):S Un:=(st 49 49 196 0 [(1,al .int env),(2,ax 2),(4,ab false),(5,ai v0)] [(2,bg .rel r)] [])
def ztv(m:Nat):S Un→Option (EX Un):=lpF_ (zxm m) z191 Tryz.f33 [1,1,0,1,2,2] 4
def zlw(m:Nat):Exit→S Un→Option (RF Un):=cxF_ (zxm m) z191 Tryz.f33 [1,1,0,1,2] [.d]
def z1ng(m:Nat)(r:Rel)(env:List Int):Option (RF Un):=fnF_ (zxm m) z191 Tryz.f33 0 [.d] [.d (.agg (enc Ty.rel r)),.d (.v (.dat (U:=Un) Ty.int env))]
theorem z2cz(m:Nat)(r:Rel)(env:List Int):z1ng m r env=cndO (decide (zg0 r.op<0)) (some (z9b (false))) (cndO ((↑r.kids.length:Int) !=zg0 r.op) (some (z9b (false))) (obO (zuu (Rel.ids r)) (cndO (z37 (Rel.ids r)) (some (z9b (false))) ((ztv m (z95 r env (0:Int))).bind (zd (zlw m)))))):=by kernel_rfl
theorem z1nh(m:Nat)(r:Rel)(env:List Int)(v0:Int):ztv m (z95 r env v0)=cndO (decide (v0<(↑r.kids.length:Int))) (obO (0≤v0∧v0<(↑r.kids.length:Int)) (obO ((3:Nat)*(Rel.ids (r.kids.getD v0.toNat za)).ht+(2:Nat)<m) (obO (z2j env (Rel.ids (r.kids.getD v0.toNat za)).ht) (cndO (!z9v (Rel.ids (r.kids.getD v0.toNat za)) env) (some (.ret,(z95 r env v0))) (ztv m (z95 r env (IntKind.i64.wrap (v0+1)))))))) (some (.exit 0,(z95 r env v0))):=lpQ_ (by kernel_rfl)
theorem z1tf(m:Nat)(r:Rel)(env:List Int)(v0:Int):zlw m .ret (z95 r env v0)=some (z9b (false)):=by kernel_rfl
theorem z1zr(m:Nat)(r:Rel)(env:List Int)(v0:Int):zlw m (.exit 0) (z95 r env v0)=cndO ((↑r.cols.length:Int)==z2e (Rel.ids r)) (obO ((3:Nat)*(Rel.ids r).ht+(1:Nat)<m) (obO (z2j env (Rel.ids r).ht) (obO (z18z (Rel.ids r)) (some (z9b (z1j6 (Rel.ids r) env)))))) (some (z9b (false))):=by kernel_rfl
theorem z2d0(m:Nat)(r:Rel)(env:List Int)(hm:3*r.ht+2<m+1)(h:z2j env r.ht)(hk:z18z r)(i:Int):zlw m (.exit 0) (z95 r env i)=some (z9b (decide ((r.cols.length:Int)=z29 r)&&zeh r env)):=by
 rw[z1zr,z8];simp only[Rel.ids_eq,zae];by_cases h1:(r.cols.length:Int)=z29 r
 ·rw[if_pos (by grind),z6 (by omega),z6 h,z6 hk,decide_eq_true h1,y1b];rfl
 grind
theorem z240(m:Nat)(r:Rel)(env:List Int)(_hr:WS .rel r)(_he:WL .int env)(hm:3*r.ht+2<m+1)(h:z2j env r.ht):z1ng m r env=some (z9b (z9v r env)):=by
 have hkl:WL .rel r.kids:=_hr.rel_kids;have e:z9v r env=(z11a r&&(r.kids.all (fun k=>z9v k env)&&(decide ((r.cols.length:Int)=z29 r)&&zeh r env))):=by
  show zlu r env=_;rw[z23v,ztp,y3r,y3r];rfl
 rw[z2cz,e];simp only[Rel.ids_eq,z8,decide_eq_true_eq,z1ff];unfold z11a;by_cases c1:z3s r.op<0
 ·grind
 by_cases c2:(r.kids.length:Int)=z3s r.op
 ·have hok:z18z r:=fun h9=>by
   have:z3s r.op=2:=by
    rcases h9 with h9|h9|h9<;>rw[h9]<;>rfl
   omega
  have lp:=z2x (L:=ztv m) (st:=fun i=>z95 r env i) (C:=zlw m) (e:=.exit 0) (fun b=>some (z9b (b&&(decide ((r.cols.length:Int)=z29 r)&&zeh r env)))) (d:=za) (fun k=>z9v k env) hkl.len
   (fun i x hi hx hmem=>by
    have hht:=Rel.ht_kid hmem;rw[z1nh];simp only[z8,hi,decide_true,if_true,and_true,y5,hx,Rel.ids_eq]
    grind[z6,z2j,z9v])
   (by rw[z1nh];simp[z8]) (fun i=>by rw[z1tf,y1w]) (fun i=>by simp_all[z2d0,y1b])
  rw[if_neg (by grind),decide_eq_true c2,z6 (show zuu r by grind[zuu]),lp];grind
 grind
theorem z28s(m:Nat)(hG:zkz m):FnOK 33 (ztr (m+1)):=fnK2 zt zr (M:=(zxm m)) rfl ⟨z1fg,z23t,hG.2.2.2.2,zg1,hG.2.2.2.1,trivial⟩ trivial trivial trivial trivial Tryz.func33 fun r env=>GiF.r fun w o=>z240 m r env (wfA_ w 0) (wfA_ w 1) (obA_ o 0) (obA_ o 1)
theorem z8s:∀m,zkz m
 |0=>⟨fnZ2,fnZ2,fnZ2,fnZ2,fnZ2⟩
 |m+1=>⟨z23w m (z8s m),z28p m (z8s m),z23y m (z8s m),z23z m (z8s m),z28s m (z8s m)⟩
def z149:FnC Un:=fnF2 (dS .term) (dL .int) fun t env=>([z2j env t.ht],z9b (z7g t env))
theorem z28t:FnOK 18 z149:=fnA2 fun m=>(z8s m).1
def z1xc:FnC Un:=fnF2 (dS .rel) (dL .int) fun r env=>([z2j env r.ht],z9b (z9v r env))
theorem z2d1:FnOK 33 z1xc:=fnA2 fun m=>(z8s m).2.2.2.2
end
end B
namespace B
open Go Go.RowKit
set_option maxRecDepth 100000
noncomputable section
attribute [local irreducible] awp ctxK zw z1a retQ z1m awf ctxF z1l
def zsh(r:List Term):RF Un:=([.c (.sl (U:=Un) Ty.term r false)],[])
def zsi:Nat→NS:=nsF_ [(3,{ts:=bl 25 26,bs:=bl 25 2,nm:=[(.sl 3,100)],cs:=true})] true
def z9w(r:Rel)(v0:Int)(v1:List Term):S Un:=(st 25 25 101 0 [(1,ax 1),(3,ao 100),(4,ai v0)] [(1,bg .rel r)] [(100,some ⟨(0:Nat),Ty.term,v1,some (0:Nat),true⟩)])
def zh3:S Un→Option (EX Un):=lpF_ z1f6 zsi Tryz.f75 [1,1,0,1,2,2] 3
def z11c:Exit→S Un→Option (RF Un):=cxF_ z1f6 zsi Tryz.f75 [1,1,0,1,2] [.d]
def z11d(r:Rel):Option (RF Un):=fnF_ z1f6 zsi Tryz.f75 1 [.d] [.d (.agg (enc Ty.rel r))]
theorem z1tg(r:Rel):z11d r=obO ((0+r.terms.length)*(128:Nat)≤ze) ((zh3 (z9w r (0:Int) r.terms)).bind (zd z11c)):=by kernel_rfl
theorem z11e(r:Rel)(v0:Int)(v1:List Term):zh3 (z9w r v0 v1)=cndO (decide (v0<(↑r.aggs.length:Int))) (obO (0≤v0∧v0<(↑r.aggs.length:Int)) (obO ((v1.length+(Agg.t (r.aggs.getD v0.toNat zq)).length)*(128:Nat)≤ze) (zh3 (z9w r (IntKind.i64.wrap (v0+1)) (v1++Agg.t (r.aggs.getD v0.toNat zq)))))) (some (.exit 0,(z9w r v0 v1))):=lpQ_ (by kernel_rfl)
theorem z1dx(r:Rel)(v0:Int)(v1:List Term):z11c (.exit 0) (z9w r v0 v1)=some (zsh (v1)):=by kernel_rfl
def z8k:List Agg→List Term
 |[]=>[]
 |a::l=>a.t++z8k l
theorem z1ni:∀(l:List Agg)(n:List Term),l.foldl (fun n a=>n++a.t) n=n++z8k l
 |[],n=>by simp[z8k]
 |a::l,n=>by rw[yx,z1ni l,z8k,y11]
theorem z192:∀l:List Agg,szTs (z8k l)≤szAs l
 |[]=>y6 _
 |a::l=>by
  have:=z192 l;have h:=a.sz_eq;grind[z8k,zzc,szAs]
theorem z1xd:∀l:List Agg,htTs (z8k l)≤htAs l
 |[]=>y6 _
 | .mk n d t::l=>by
  have:=z1xd l;have h:∀a b:List Term,htTs (a++b)=max (htTs a) (htTs b):=fun a b=>by
   induction a with
   |nil=>rfl
   |cons x a ih=>simp_all[y15,htTs]
  grind[z8k,htAs,Agg.ht,Agg.t_mk]
def z10(r:Rel):List Term:=r.terms++z8k r.aggs
theorem zpk(r:Rel):(z10 r).length≤r.sz:=by
 have h:=z60 (z10 r);have h2:=z192 r.aggs;have h3:=r.sz_eq;grind[z10,zzc]
theorem z9c{r:Rel}{t:Term}(h:t∈z10 r):t.ht<r.ht∧t.sz<r.sz:=by
 have h2:=z192 r.aggs;have h3:=r.sz_eq;have h4:=z1xd r.aggs;have h5:htTs r.terms<r.ht∧htAs r.aggs<r.ht:=by cases r;grind[Rel.ht,Rel.terms_mk,Rel.aggs_mk]
 rcases yc.1 h with h|h
 ·exact⟨by have:=zc1 h;omega,by have:=zkb h;omega⟩
 ·exact⟨by have:=zc1 h;omega,by have:=zkb h;omega⟩
theorem z1j7(r:Rel)(hr:WS .rel r)(h:r.sz≤2000000):z11d r=some (zsh (z10 r)):=by
 have h3:=r.sz_eq;have hl:=z60 r.terms
 obtain⟨lp,_⟩:=z1j (e:=.exit 0) (L:=zh3) (st:=fun(n:List Term) i=>z9w r i n) (l:=r.aggs) (d:=zq) (g:=fun n a=>n++a.t) (fun i n=>n.length+szAs (r.aggs.drop i)≤2000000) (hr.rel_aggs).len
  (fun n i a hi ha hI=>by
   have hd:=zkw (d:=zq) (show i<r.aggs.length by omega);rw[hd,ha]at hI;simp only[szAs]at hI;have h1:=a.sz_eq;have h2:=z60 a.t;rw[z11e];simp only[z8,hi,decide_true,if_true,and_true,y5,ha]
   grind[z6,ze])
  (fun n _=>by rw[z11e];simp[z8]) r.terms (by grind)
 rw[z1ni]at lp;rw[z1tg,z6 (by grind[ze])];refine(zj lp).trans ?_;rw[z1dx];rfl
def zsj:FnC Un:=fnF1 (dS .rel) fun r=>([r.sz≤2000000],zsh (z10 r))
theorem z11f:FnOK 75 zsj:=fnK1 zt (M:=z1f6) rfl trivial trivial trivial trivial trivial Tryz.func75 fun r=>GiF.r fun w o=>z1j7 r (wfA_ w 0) (obA_ o 0)
def capI(n x:Int):Int:=List.foldl (fun a b=>if b<a then b else a) (IntKind.i64.wrap (n+x)) [(1048576:Int)]
def maxI(n x:Int):Int:=List.foldl (fun a b=>if a<b then b else a) n [x]
mutual
def zlx:Term→Int
 | .mk op _ _ _ _ kids sub _=>zg4 (zew (if op=2 then 1 else 0) kids) sub
def zew:Int→List Term→Int
 |n,[]=>n
 |n,t::l=>zew (capI n (zlx t)) l
def z2gq:Int→Agg→Int
 |n,.mk _ _ t=>zew n t
def z1da:Int→List Agg→Int
 |n,[]=>n
 |n,a::l=>z1da (z2gq n a) l
def zuv:Rel→Int
 | .mk _ _ _ kids terms aggs _ _ _ _ _=>z1da (zew (zg4 0 kids) terms) aggs
def zg4:Int→List Rel→Int
 |n,[]=>n
 |n,r::l=>zg4 (capI n (zuv r)) l
end
theorem z6m:∀(l:List Term)(n:Int),l.foldl (fun n t=>capI n (zlx t)) n=zew n l
 |[],n=>by rfl
 |t::l,n=>by rw[yx,z6m l,zew]
theorem zsk:∀(l:List Rel)(n:Int),l.foldl (fun n t=>capI n (zuv t)) n=zg4 n l
 |[],n=>by rfl
 |t::l,n=>by rw[yx,zsk l,zg4]
theorem z193:∀(l:List Agg)(n:Int),zew n (z8k l)=z1da n l
 |[],n=>by rfl
 | .mk a b t::l,n=>by
  rw[z8k,z1da,←z193 l,←z6m,y2e,z6m,z6m,z2gq,Agg.t_mk]
theorem z2gr(t:Term):zlx t=zg4 (zew (if t.op=2 then 1 else 0) t.kids) t.sub:=by cases t;rfl
theorem z2d2(r:Rel):zuv r=zew (zg4 0 r.kids) (z10 r):=by
 unfold z10;rw[←z6m,y2e,z6m,z6m,z193];cases r;rfl
def zg5(t:Term):Int:=zlx t
def zly(r:Rel):Int:=zuv r
theorem zlz{t k:Term}(h:k∈t.kids):k.sz<t.sz:=by have:=zkb h;have:=t.sz_eq;omega
theorem zm0{t:Term}{k:Rel}(h:k∈t.sub):k.sz<t.sz:=by have:=z1iv h;have:=t.sz_eq;omega
theorem z9x{t k:Rel}(h:k∈t.kids):k.sz<t.sz:=by have:=z1iv h;have:=t.sz_eq;omega
def zm1(m:Nat):FnC Un:=fnF1 (dS .term) fun t=>z2o (2*t.ht) m ([t.sz≤2000000],z2c (zg5 t))
def zj7(m:Nat):FnC Un:=fnF1 (dS .rel) fun r=>z2o (2*r.ht+1) m ([r.sz≤2000000],z2c (zly r))
def zex(m:Nat):Mc Un:=mcF_ [(76,zm1 m),(133,zj7 m)] [] [] [] []
def zie:Nat→NS:=nsF_ [(5,{ts:=bl 42 26,bs:=bl 42 2,nm:=[],cs:=true}),(9,{ts:=bl 42 42,bs:=bl 42 2,nm:=[],cs:=true})] true
def z7z(t:Term)(v0:Int)(v1:Int):S Un:=(st 42 42 168 0 [(1,ax 1),(3,ai v0),(4,ai v1)] [(1,bg .term t)] [])
def zct(t:Term)(v0:Int)(v2:Int):S Un:=(st 42 42 168 0 [(1,ax 1),(3,ai v0),(5,ai v2)] [(1,bg .term t)] [])
def zcu(m:Nat):S Un→Option (EX Un):=lpF_ (zex m) zie Tryz.f76 [1,1,1,0,1,2,2] 5
def zm2(m:Nat):S Un→Option (EX Un):=lpF_ (zex m) zie Tryz.f76 [1,1,1,1,0,1,2,2] 9
def zm3(m:Nat):Exit→S Un→Option (RF Un):=cxF_ (zex m) zie Tryz.f76 [1,1,1,0,1,2] [.d]
def z194(m:Nat):Exit→S Un→Option (RF Un):=cxF_ (zex m) zie Tryz.f76 [1,1,1,1,0,1,2] [.d]
def zvt(m:Nat)(t:Term):Option (RF Un):=fnF_ (zex m) zie Tryz.f76 0 [.d] [.d (.agg (enc Ty.term t))]
theorem z241(m:Nat)(t:Term):zvt m t=cndO (t.op==2) ((zcu m (z7z t (1:Int) (0:Int))).bind (zd (zm3 m))) ((zcu m (z7z t (0:Int) (0:Int))).bind (zd (zm3 m))):=by kernel_rfl
theorem z195(m:Nat)(t:Term)(v0:Int)(v1:Int):zcu m (z7z t v0 v1)=cndO (decide (v1<(↑t.kids.length:Int))) (obO (0≤v1∧v1<(↑t.kids.length:Int)) (obO ((2:Nat)*(Term.ids (t.kids.getD v1.toNat zb)).ht<m) (obO ((Term.ids (t.kids.getD v1.toNat zb)).sz≤(2000000:Nat)) (zcu m (z7z t (List.foldl (fun a b=>if b<a then b else a) (IntKind.i64.wrap (v0+zg5 (Term.ids (t.kids.getD v1.toNat zb)))) [(1048576:Int)]) (IntKind.i64.wrap (v1+1))))))) (some (.exit 0,(z7z t v0 v1))):=lpQ_ (by kernel_rfl)
theorem z1nj(m:Nat)(t:Term)(v0:Int)(v1:Int):zm3 m (.exit 0) (z7z t v0 v1)=(zm2 m (zct t v0 (0:Int))).bind (zd (z194 m)):=by kernel_rfl
theorem z196(m:Nat)(t:Term)(v0:Int)(v2:Int):zm2 m (zct t v0 v2)=cndO (decide (v2<(↑t.sub.length:Int))) (obO (0≤v2∧v2<(↑t.sub.length:Int)) (obO ((2:Nat)*(Rel.ids (t.sub.getD v2.toNat za)).ht+(1:Nat)<m) (obO ((Rel.ids (t.sub.getD v2.toNat za)).sz≤(2000000:Nat)) (zm2 m (zct t (List.foldl (fun a b=>if b<a then b else a) (IntKind.i64.wrap (v0+zly (Rel.ids (t.sub.getD v2.toNat za)))) [(1048576:Int)]) (IntKind.i64.wrap (v2+1))))))) (some (.exit 2,(zct t v0 v2))):=lpQ_ (by kernel_rfl)
theorem z1nk(m:Nat)(t:Term)(v0:Int)(v2:Int):z194 m (.exit 2) (zct t v0 v2)=some (z2c (v0)):=by kernel_rfl
theorem z1th(m:Nat)(t:Term)(ht:WS .term t)(hm:2*t.ht<m+1)(h:t.sz≤2000000):zvt m t=some (z2c (zg5 t)):=by
 obtain⟨lp,_⟩:=z1j (e:=.exit 0) (L:=zcu m) (st:=fun(n:Int) i=>z7z t n i) (l:=t.kids) (d:=zb) (g:=fun n k=>capI n (zlx k)) (fun _ _=>True) (ht.term_kids).len
  (fun n i k hi hk _=>by
   have hmem:k∈t.kids:=by grind
   have h1:=Term.ht_kid hmem;have h2:=zlz hmem;refine⟨trivial,?_⟩;rw[z195];simp only[z8,hi,decide_true,if_true,and_true,y5,hk,Term.ids_eq];rw[z6 (by omega),z6 (by omega),z6 (by omega)]
   rfl)
  (fun n _=>by rw[z195];simp[z8]) (if t.op=2 then 1 else 0) trivial
 rw[z6m]at lp
 obtain⟨lq,_⟩:=z1j (e:=.exit 2) (L:=zm2 m) (st:=fun(n:Int) i=>zct t n i) (l:=t.sub) (d:=za) (g:=fun n k=>capI n (zuv k)) (fun _ _=>True) (ht.term_sub).len
  (fun n i k hi hk _=>by
   have hmem:k∈t.sub:=by grind
   have h1:=Term.ht_sub hmem;have h2:=zm0 hmem;refine⟨trivial,?_⟩;rw[z196];simp only[z8,hi,decide_true,if_true,and_true,y5,hk,Rel.ids_eq];rw[z6 (by omega),z6 (by omega),z6 (by omega)]
   rfl)
  (fun n _=>by rw[z196];simp[z8]) (zew (if t.op=2 then 1 else 0) t.kids) trivial
 rw[zsk]at lq;have e:zvt m t=(zcu m (z7z t (if t.op=2 then 1 else 0) (0:Int))).bind (zd (zm3 m)):=by
  rw[z241,z8];grind
 grind[zj,trans,z1nj,z1nk,zg5,z2gr]
abbrev z1j8(m:Nat):Prop:=FnOK 76 (zm1 m)∧FnOK 133 (zj7 m)
theorem z1zs(m:Nat)(hG:z1j8 m):FnOK 76 (zm1 (m+1)):=fnK1 zt (M:=(zex m)) rfl ⟨hG.1,hG.2,trivial⟩ trivial trivial trivial trivial Tryz.func76 fun t=>GiF.r fun w o=>z1th m t (wfA_ w 0) (obA_ o 0) (obA_ o 1)
def zcv(m:Nat):Mc Un:=mcF_ [(133,zj7 m),(75,zsj),(76,zm1 m)] [] [] [] []
def zg6:Nat→NS:=nsF_ [(3,{ts:=bl 40 26,bs:=bl 40 2,nm:=[],cs:=true}),(8,{ts:=bl 40 104,bs:=bl 40 0,nm:=[],cs:=true})] true
def zax(r:Rel)(v0:Int)(v1:Int):S Un:=(st 40 40 160 0 [(1,ax 1),(3,ai v0),(4,ai v1)] [(1,bg .rel r)] [])
def zay(r:Rel)(v0:Int)(v2:Int):S Un:=(st 40 40 160 0 [(3,ai v0),(5,al .term (z10 (Rel.ids r))),(6,ai v2)] [] [])
def zj8(m:Nat):S Un→Option (EX Un):=lpF_ (zcv m) zg6 Tryz.f133 [1,1,0,1,2,2] 3
def zj9(m:Nat):S Un→Option (EX Un):=lpF_ (zcv m) zg6 Tryz.f133 [1,1,1,1,0,1,2,2] 8
def z15v(m:Nat):Exit→S Un→Option (RF Un):=cxF_ (zcv m) zg6 Tryz.f133 [1,1,0,1,2] [.d]
def z15w(m:Nat):Exit→S Un→Option (RF Un):=cxF_ (zcv m) zg6 Tryz.f133 [1,1,1,1,0,1,2] [.d]
def z15x(m:Nat)(r:Rel):Option (RF Un):=fnF_ (zcv m) zg6 Tryz.f133 0 [.d] [.d (.agg (enc Ty.rel r))]
theorem z1zt(m:Nat)(r:Rel):z15x m r=(zj8 m (zax r (0:Int) (0:Int))).bind (zd (z15v m)):=by kernel_rfl
theorem z15y(m:Nat)(r:Rel)(v0:Int)(v1:Int):zj8 m (zax r v0 v1)=cndO (decide (v1<(↑r.kids.length:Int))) (obO (0≤v1∧v1<(↑r.kids.length:Int)) (obO ((2:Nat)*(Rel.ids (r.kids.getD v1.toNat za)).ht+(1:Nat)<m) (obO ((Rel.ids (r.kids.getD v1.toNat za)).sz≤(2000000:Nat)) (zj8 m (zax r (List.foldl (fun a b=>if b<a then b else a) (IntKind.i64.wrap (v0+zly (Rel.ids (r.kids.getD v1.toNat za)))) [(1048576:Int)]) (IntKind.i64.wrap (v1+1))))))) (some (.exit 0,(zax r v0 v1))):=lpQ_ (by kernel_rfl)
theorem z1j9(m:Nat)(r:Rel)(v0:Int)(v1:Int):z15v m (.exit 0) (zax r v0 v1)=obO ((Rel.ids r).sz≤(2000000:Nat)) ((zj9 m (zay r v0 (0:Int))).bind (zd (z15w m))):=by kernel_rfl
theorem z15z(m:Nat)(r:Rel)(v0:Int)(v2:Int):zj9 m (zay r v0 v2)=cndO (decide (v2<(↑(z10 (Rel.ids r)).length:Int))) (obO (0≤v2∧v2<(↑(z10 (Rel.ids r)).length:Int)) (obO ((2:Nat)*(Term.ids ((z10 (Rel.ids r)).getD v2.toNat zb)).ht<m) (obO ((Term.ids ((z10 (Rel.ids r)).getD v2.toNat zb)).sz≤(2000000:Nat)) (zj9 m (zay r (List.foldl (fun a b=>if b<a then b else a) (IntKind.i64.wrap (v0+zg5 (Term.ids ((z10 (Rel.ids r)).getD v2.toNat zb)))) [(1048576:Int)]) (IntKind.i64.wrap (v2+1))))))) (some (.exit 2,(zay r v0 v2))):=lpQ_ (by kernel_rfl)
theorem z1ja(m:Nat)(r:Rel)(v0:Int)(v2:Int):z15w m (.exit 2) (zay r v0 v2)=some (z2c (v0)):=by kernel_rfl
theorem z1nl(m:Nat)(r:Rel)(hr:WS .rel r)(hm:2*r.ht+1<m+1)(h:r.sz≤2000000):z15x m r=some (z2c (zly r)):=by
 obtain⟨lp,_⟩:=z1j (e:=.exit 0) (L:=zj8 m) (st:=fun(n:Int) i=>zax r n i) (l:=r.kids) (d:=za) (g:=fun n k=>capI n (zuv k)) (fun _ _=>True) (hr.rel_kids).len
  (fun n i k hi hk _=>by
   have hmem:k∈r.kids:=by grind
   have h1:=Rel.ht_kid hmem;have h2:=z9x hmem;refine⟨trivial,?_⟩;rw[z15y];simp only[z8,hi,decide_true,if_true,and_true,y5,hk,Rel.ids_eq];rw[z6 (by omega),z6 (by omega),z6 (by omega)]
   rfl)
  (fun n _=>by rw[z15y];simp[z8]) 0 trivial
 rw[zsk]at lp;have hlen:=zpk r
 obtain⟨lq,_⟩:=z1j (e:=.exit 2) (L:=zj9 m) (st:=fun(n:Int) i=>zay r n i) (l:=z10 r) (d:=zb) (g:=fun n k=>capI n (zlx k)) (fun _ _=>True) (by omega)
  (fun n i k hi hk _=>by
   have hmem:k∈z10 r:=by grind
   obtain⟨h1,h2⟩:=z9c hmem;refine⟨trivial,?_⟩;rw[z15z];simp only[Rel.ids_eq,z8,hi,decide_true,if_true,and_true,y5,hk,Term.ids_eq];rw[z6 (by omega),z6 (by omega),z6 (by omega)]
   rfl)
  (fun n _=>by rw[z15z];simp[z8,Rel.ids_eq]) (zg4 0 r.kids) trivial
 rw[z6m]at lq;rw[z1zt];refine(zj lp).trans ?_;rw[z1j9,Rel.ids_eq,z6 h];grind[zj,trans,z1ja,zly,z2d2]
theorem z1ti(m:Nat)(hG:z1j8 m):FnOK 133 (zj7 (m+1)):=fnK1 zt (M:=(zcv m)) rfl ⟨hG.2,z11f,hG.1,trivial⟩ trivial trivial trivial trivial Tryz.func133 fun r=>GiF.r fun w o=>z1nl m r (wfA_ w 0) (obA_ o 0) (obA_ o 1)
theorem zvu:∀m,z1j8 m
 |0=>⟨fnZ1,fnZ1⟩
 |m+1=>⟨z1zs m (zvu m),z1ti m (zvu m)⟩
def z1fx:FnC Un:=fnF1 (dS .term) fun t=>([t.sz≤2000000],z2c (zg5 t))
theorem z242:FnOK 76 z1fx:=fnA1 fun m=>(zvu m).1
def z2d3(n:Int)(l:List Term):Int:=l.foldl (fun n t=>maxI n (zlx t)) n
def z2d4(op n most:Int):Int:=if op=4∨op=7 then List.foldl (fun a b=>if b<a then b else a) (IntKind.i64.wrap (n*List.foldl (fun a b=>if b<a then b else a) most [(1048576:Int)])) [(1048576:Int)]else n
mutual
def z14a:Term→Int
 | .mk _ _ _ _ _ kids sub _=>zrj (zif 1 kids) sub
def zif:Int→List Term→Int
 |n,[]=>n
 |n,t::l=>zif (maxI n (z14a t)) l
def z2mf:Int→Agg→Int
 |n,.mk _ _ t=>zif n t
def z1nm:Int→List Agg→Int
 |n,[]=>n
 |n,a::l=>z1nm (z2mf n a) l
def z1db:Rel→Int
 | .mk op _ _ kids terms aggs _ _ _ _ _=>z2d4 op (z1nm (zif (zrj 1 kids) terms) aggs) (z2d3 1 (terms++z8k aggs))
def zrj:Int→List Rel→Int
 |n,[]=>n
 |n,r::l=>zrj (maxI n (z1db r)) l
end
theorem z7r:∀(l:List Term)(n:Int),l.foldl (fun n t=>maxI n (z14a t)) n=zif n l
 |[],n=>by rfl
 |t::l,n=>by rw[yx,z7r l,zif]
theorem zzr:∀(l:List Rel)(n:Int),l.foldl (fun n t=>maxI n (z1db t)) n=zrj n l
 |[],n=>by rfl
 |t::l,n=>by rw[yx,zzr l,zrj]
theorem z1fy:∀(l:List Agg)(n:Int),zif n (z8k l)=z1nm n l
 |[],n=>by rfl
 | .mk a b t::l,n=>by
  rw[z8k,z1nm,←z1fy l,←z7r,y2e,z7r,z7r,z2mf,Agg.t_mk]
theorem z2kj(t:Term):z14a t=zrj (zif 1 t.kids) t.sub:=by cases t;rfl
theorem z2kk(r:Rel):z1db r=z2d4 r.op (zif (zrj 1 r.kids) (z10 r)) (z2d3 1 (z10 r)):=by
 unfold z10;rw[←z7r,y2e,z7r,z7r,z1fy];cases r;rfl
theorem z1xe{α:Type}(f g:Int→α→Int):∀(l:List α)(a b:Int),l.foldl (fun(p:Int×Int) x=>(f p.1 x,g p.2 x)) (a,b)=(l.foldl f a,l.foldl g b)
 |[],_,_=>rfl
 |x::l,a,b=>by rw[yx,z1xe f g l];rfl
def zig(t:Term):Int:=z14a t
def zdq(r:Rel):Int:=z1db r
def zh4(m:Nat):FnC Un:=fnF1 (dS .term) fun t=>z2o (2*t.ht) m ([t.sz≤2000000],z2c (zig t))
def zm4(m:Nat):FnC Un:=fnF1 (dS .rel) fun r=>z2o (2*r.ht+1) m ([r.sz≤2000000],z2c (zdq r))
def zaz(m:Nat):Mc Un:=mcF_ [(77,zh4 m),(40,zm4 m)] [] [] [] []
def zei:Nat→NS:=nsF_ [(3,{ts:=bl 37 26,bs:=bl 37 2,nm:=[],cs:=true}),(7,{ts:=bl 37 42,bs:=bl 37 2,nm:=[],cs:=true})] true
def z9y(t:Term)(v0:Int)(v1:Int):S Un:=(st 37 37 148 0 [(1,ax 1),(3,ai v0),(4,ai v1)] [(1,bg .term t)] [])
def z9z(t:Term)(v0:Int)(v2:Int):S Un:=(st 37 37 148 0 [(1,ax 1),(3,ai v0),(5,ai v2)] [(1,bg .term t)] [])
def zh5(m:Nat):S Un→Option (EX Un):=lpF_ (zaz m) zei Tryz.f77 [1,1,0,1,2,2] 3
def zh6(m:Nat):S Un→Option (EX Un):=lpF_ (zaz m) zei Tryz.f77 [1,1,1,0,1,2,2] 7
def z11g(m:Nat):Exit→S Un→Option (RF Un):=cxF_ (zaz m) zei Tryz.f77 [1,1,0,1,2] [.d]
def z11h(m:Nat):Exit→S Un→Option (RF Un):=cxF_ (zaz m) zei Tryz.f77 [1,1,1,0,1,2] [.d]
def z11i(m:Nat)(t:Term):Option (RF Un):=fnF_ (zaz m) zei Tryz.f77 0 [.d] [.d (.agg (enc Ty.term t))]
theorem z1tj(m:Nat)(t:Term):z11i m t=(zh5 m (z9y t (1:Int) (0:Int))).bind (zd (z11g m)):=by kernel_rfl
theorem z11j(m:Nat)(t:Term)(v0:Int)(v1:Int):zh5 m (z9y t v0 v1)=cndO (decide (v1<(↑t.kids.length:Int))) (obO (0≤v1∧v1<(↑t.kids.length:Int)) (obO ((2:Nat)*(Term.ids (t.kids.getD v1.toNat zb)).ht<m) (obO ((Term.ids (t.kids.getD v1.toNat zb)).sz≤(2000000:Nat)) (zh5 m (z9y t (List.foldl (fun a b=>if a<b then b else a) v0 [zig (Term.ids (t.kids.getD v1.toNat zb))]) (IntKind.i64.wrap (v1+1))))))) (some (.exit 0,(z9y t v0 v1))):=lpQ_ (by kernel_rfl)
theorem z1dy(m:Nat)(t:Term)(v0:Int)(v1:Int):z11g m (.exit 0) (z9y t v0 v1)=(zh6 m (z9z t v0 (0:Int))).bind (zd (z11h m)):=by kernel_rfl
theorem z11k(m:Nat)(t:Term)(v0:Int)(v2:Int):zh6 m (z9z t v0 v2)=cndO (decide (v2<(↑t.sub.length:Int))) (obO (0≤v2∧v2<(↑t.sub.length:Int)) (obO ((2:Nat)*(Rel.ids (t.sub.getD v2.toNat za)).ht+(1:Nat)<m) (obO ((Rel.ids (t.sub.getD v2.toNat za)).sz≤(2000000:Nat)) (zh6 m (z9z t (List.foldl (fun a b=>if a<b then b else a) v0 [zdq (Rel.ids (t.sub.getD v2.toNat za))]) (IntKind.i64.wrap (v2+1))))))) (some (.exit 2,(z9z t v0 v2))):=lpQ_ (by kernel_rfl)
theorem z1dz(m:Nat)(t:Term)(v0:Int)(v2:Int):z11h m (.exit 2) (z9z t v0 v2)=some (z2c (v0)):=by kernel_rfl
theorem z1jb(m:Nat)(t:Term)(ht:WS .term t)(hm:2*t.ht<m+1)(h:t.sz≤2000000):z11i m t=some (z2c (zig t)):=by
 obtain⟨lp,_⟩:=z1j (e:=.exit 0) (L:=zh5 m) (st:=fun(n:Int) i=>z9y t n i) (l:=t.kids) (d:=zb) (g:=fun n k=>maxI n (z14a k)) (fun _ _=>True) (ht.term_kids).len
  (fun n i k hi hk _=>by
   have hmem:k∈t.kids:=by grind
   have h1:=Term.ht_kid hmem;have h2:=zlz hmem;refine⟨trivial,?_⟩;rw[z11j];simp only[z8,hi,decide_true,if_true,and_true,y5,hk,Term.ids_eq];rw[z6 (by omega),z6 (by omega),z6 (by omega)]
   rfl)
  (fun n _=>by rw[z11j];simp[z8]) 1 trivial
 rw[z7r]at lp
 obtain⟨lq,_⟩:=z1j (e:=.exit 2) (L:=zh6 m) (st:=fun(n:Int) i=>z9z t n i) (l:=t.sub) (d:=za) (g:=fun n k=>maxI n (z1db k)) (fun _ _=>True) (ht.term_sub).len
  (fun n i k hi hk _=>by
   have hmem:k∈t.sub:=by grind
   have h1:=Term.ht_sub hmem;have h2:=zm0 hmem;refine⟨trivial,?_⟩;rw[z11k];simp only[z8,hi,decide_true,if_true,and_true,y5,hk,Rel.ids_eq];rw[z6 (by omega),z6 (by omega),z6 (by omega)]
   rfl)
  (fun n _=>by rw[z11k];simp[z8]) (zif 1 t.kids) trivial
 rw[zzr]at lq;rw[z1tj];grind[zj,trans,z1dy,z1dz,zig,z2kj]
abbrev z1jc(m:Nat):Prop:=FnOK 77 (zh4 m)∧FnOK 40 (zm4 m)
theorem z1nn(m:Nat)(hG:z1jc m):FnOK 77 (zh4 (m+1)):=fnK1 zt (M:=(zaz m)) rfl ⟨hG.1,hG.2,trivial⟩ trivial trivial trivial trivial Tryz.func77 fun t=>GiF.r fun w o=>z1jb m t (wfA_ w 0) (obA_ o 0) (obA_ o 1)
def zez(m:Nat):Mc Un:=mcF_ [(40,zm4 m),(75,zsj),(76,z1fx),(77,zh4 m)] [] [] [] []
def zih:Nat→NS:=nsF_ [(3,{ts:=bl 59 58,bs:=bl 59 2,nm:=[],cs:=true}),(8,{ts:=bl 59 218,bs:=bl 59 2,nm:=[],cs:=true})] true
def z5j(r:Rel):=z10 (Rel.mk r.op r.table r.cols r.kids r.terms r.aggs r.keys r.limit r.skip r.all r.rows)
def zcw(r:Rel)(v0:Int)(v1:Int):S Un:=(st 59 59 236 0 [(1,ax 1),(3,ai v0),(4,ai (1:Int)),(5,ai v1)] [(1,bg .rel r)] [])
def zcx(r:Rel)(v0:Int)(v2:Int)(v3:Int):S Un:=(st 59 59 236 0 [(1,ax 1),(3,ai v0),(4,ai v2),(6,al .term (z5j r)),(7,ai v3)] [(1,bg .rel r)] [])
def zm5(m:Nat):S Un→Option (EX Un):=lpF_ (zez m) zih Tryz.f40 [1,1,0,1,2,2] 3
def zm6(m:Nat):S Un→Option (EX Un):=lpF_ (zez m) zih Tryz.f40 [1,1,1,1,0,1,2,2] 8
def z197(m:Nat):Exit→S Un→Option (RF Un):=cxF_ (zez m) zih Tryz.f40 [1,1,0,1,2] [.d]
def z198(m:Nat):Exit→S Un→Option (RF Un):=cxF_ (zez m) zih Tryz.f40 [1,1,1,1,0,1,2] [.d]
def z199(m:Nat)(r:Rel):Option (RF Un):=fnF_ (zez m) zih Tryz.f40 0 [.d] [.d (.agg (enc Ty.rel r))]
theorem z243(m:Nat)(r:Rel):z199 m r=(zm5 m (zcw r (1:Int) (0:Int))).bind (zd (z197 m)):=by kernel_rfl
theorem z19a(m:Nat)(r:Rel)(v0:Int)(v1:Int):zm5 m (zcw r v0 v1)=cndO (decide (v1<(↑r.kids.length:Int))) (obO (0≤v1∧v1<(↑r.kids.length:Int)) (obO ((2:Nat)*(Rel.ids (r.kids.getD v1.toNat za)).ht+(1:Nat)<m) (obO ((Rel.ids (r.kids.getD v1.toNat za)).sz≤(2000000:Nat)) (zm5 m (zcw r (List.foldl (fun a b=>if a<b then b else a) v0 [zdq (Rel.ids (r.kids.getD v1.toNat za))]) (IntKind.i64.wrap (v1+1))))))) (some (.exit 0,(zcw r v0 v1))):=lpQ_ (by kernel_rfl)
theorem z1no(m:Nat)(r:Rel)(v0:Int)(v1:Int):z197 m (.exit 0) (zcw r v0 v1)=obO ((Rel.ids r).sz≤(2000000:Nat)) ((zm6 m (zcx r v0 (1:Int) (0:Int))).bind (zd (z198 m))):=by kernel_rfl
theorem z19b(m:Nat)(r:Rel)(v0:Int)(v2:Int)(v3:Int):zm6 m (zcx r v0 v2 v3)=cndO (decide (v3<(↑(z5j r).length:Int))) (obO (0≤v3∧v3<(↑(z5j r).length:Int)) (obO ((Term.ids ((z5j r).getD v3.toNat zb)).sz≤(2000000:Nat)) (obO (0≤v3∧v3<(↑(z5j r).length:Int)) (obO ((2:Nat)*(Term.ids ((z5j r).getD v3.toNat zb)).ht<m) (obO ((Term.ids ((z5j r).getD v3.toNat zb)).sz≤(2000000:Nat)) (zm6 m (zcx r (List.foldl (fun a b=>if a<b then b else a) v0 [zig (Term.ids ((z5j r).getD v3.toNat zb))]) (List.foldl (fun a b=>if a<b then b else a) v2 [zg5 (Term.ids ((z5j r).getD v3.toNat zb))]) (IntKind.i64.wrap (v3+1))))))))) (some (.exit 2,(zcx r v0 v2 v3))):=lpQ_ (by kernel_rfl)
theorem z1np(m:Nat)(r:Rel)(v0:Int)(v2:Int)(v3:Int):z198 m (.exit 2) (zcx r v0 v2 v3)=cndO (r.op==4) (some (z2c (List.foldl (fun a b=>if b<a then b else a) (IntKind.i64.wrap (v0*List.foldl (fun a b=>if b<a then b else a) v2 [(1048576:Int)])) [(1048576:Int)]))) (cndO (r.op==7) (some (z2c (List.foldl (fun a b=>if b<a then b else a) (IntKind.i64.wrap (v0*List.foldl (fun a b=>if b<a then b else a) v2 [(1048576:Int)])) [(1048576:Int)]))) (some (z2c (v0)))):=by kernel_rfl
theorem z1tk(m:Nat)(r:Rel)(hr:WS .rel r)(hm:2*r.ht+1<m+1)(h:r.sz≤2000000):z199 m r=some (z2c (zdq r)):=by
 obtain⟨lp,_⟩:=z1j (e:=.exit 0) (L:=zm5 m) (st:=fun(n:Int) i=>zcw r n i) (l:=r.kids) (d:=za) (g:=fun n k=>maxI n (z1db k)) (fun _ _=>True) (hr.rel_kids).len
  (fun n i k hi hk _=>by
   have hmem:k∈r.kids:=by grind
   have h1:=Rel.ht_kid hmem;have h2:=z9x hmem;refine⟨trivial,?_⟩;rw[z19a];simp only[z8,hi,decide_true,if_true,and_true,y5,hk,Rel.ids_eq];rw[z6 (by omega),z6 (by omega),z6 (by omega)]
   rfl)
  (fun n _=>by rw[z19a];simp[z8]) 1 trivial
 rw[zzr]at lp;have hlen:=zpk r;have hc:z5j r=z10 r:=by rfl
 obtain⟨lq,_⟩:=z1j (e:=.exit 2) (L:=zm6 m) (st:=fun(n:Int×Int) i=>zcx r n.1 n.2 i) (l:=z10 r) (d:=zb) (g:=fun n k=>(maxI n.1 (z14a k),maxI n.2 (zlx k))) (fun _ _=>True) (by omega)
  (fun n i k hi hk _=>by
   have hmem:k∈z10 r:=by grind
   obtain⟨h1,h2⟩:=z9c hmem;refine⟨trivial,?_⟩;rw[z19b];simp only[hc,z8,hi,decide_true,if_true,and_true,y5,hk,Term.ids_eq];rw[z6 (by omega),z6 (by omega),z6 (by omega),z6 (by omega),z6 (by omega)]
   rfl)
  (fun n _=>by grind[z19b,z8]) (zrj 1 r.kids,1) trivial
 rw[z1xe (fun n k=>maxI n (z14a k)) (fun n k=>maxI n (zlx k)),z7r]at lq;rw[z243];refine(zj lp).trans ?_;rw[z1no,Rel.ids_eq,z6 h];refine(zj lq).trans ?_;rw[z1np,zdq,z2kk];unfold z2d4 z2d3;simp only[z8,beq_iff_eq];grind
theorem z1zu(m:Nat)(hG:z1jc m):FnOK 40 (zm4 (m+1)):=fnK1 zt (M:=(zez m)) rfl ⟨hG.2,z11f,z242,hG.1,trivial⟩ trivial trivial trivial trivial Tryz.func40 fun r=>GiF.r fun w o=>z1tk m r (wfA_ w 0) (obA_ o 0) (obA_ o 1)
theorem zvv:∀m,z1jc m
 |0=>⟨fnZ1,fnZ1⟩
 |m+1=>⟨z1nn m (zvv m),z1zu m (zvv m)⟩
def z1fz:FnC Un:=fnF1 (dS .rel) fun r=>([r.sz≤2000000],z2c (zdq r))
theorem z244:FnOK 40 z1fz:=fnA1 fun m=>(zvv m).2
end
end B
end Go.Proofs.YtjfpbchdcbhfgaaGreat
