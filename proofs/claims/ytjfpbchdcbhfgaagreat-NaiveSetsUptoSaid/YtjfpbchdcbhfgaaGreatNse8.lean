/- Part 8 of the proof: Sref15r Slight1. -/
import Derived.Test.YtjfpbchdcbhfgaaGreatNse7
set_option linter.unusedVariables false
set_option linter.unusedSimpArgs false
namespace Go.Proofs.YtjfpbchdcbhfgaaGreat
namespace B
open Go Go.RowKit
set_option maxRecDepth 100000
noncomputable section
attribute [local irreducible] awp ctxK zu z1a retQ z1m awf ctxF z1k
def z34(r:Rel):Option (RF Un):=fnF_ z1dq z26d Tryz.f65 0 [.d] [.d (.agg (enc Ty.rel r))]
def z35(r:Rel):Bool:=
 (!(r.op==1)&& !(r.table.toList==(ByteArray.mk #[]).toList))||(!(r.op==2)&&decide (0<r.rows.length))||(!(r.op==3||r.op==4||r.op==5||r.op==6||r.op==7)&&decide (0<r.terms.length))||
 (!(r.op==7)&&decide (0<r.aggs.length))||(!(r.op==12)&&decide (0<r.keys.length))||(!(r.op==9||r.op==10||r.op==11)&&r.all)||(!(r.op==13)&&(!(r.limit==0)|| !(r.skip==0)))
theorem ztu{R:Bool→RF Un}(a p x:Bool){X:Option (RF Un)}(h:X=some (R x)):cndO a (cndO p (some (R true)) X) X=some (R ((a&&p)||x)):=by subst h;cases a<;>cases p<;>cases x<;>rfl
def spX(g p:Bool)(X:Option (RF Un)):Option (RF Un):=cndO g (cndO p (some (z91 true)) X) X
def spT(g1 g2 g3 g4 g5 g6 g7 tb rw_ tm ag ky al li sk:Bool):Option (RF Un):=spX g1 tb (spX g2 rw_ (spX g3 tm (spX g4 ag (spX g5 ky (spX g6 al (cndO g7 (cndO li (some (z91 true)) (some (z91 sk))) (some (z91 false))))))))
theorem zc6(g1 g2 g3 g4 g5 g6 g7 tb rw_ tm ag ky al li sk:Bool):spT g1 g2 g3 g4 g5 g6 g7 tb rw_ tm ag ky al li sk=some (z91 ((g1&&tb)||((g2&&rw_)||((g3&&tm)||((g4&&ag)||((g5&&ky)||((g6&&al)||(g7&&(li||sk))))))))):=by
 have z:cndO g7 (cndO li (some (z91 true)) (some (z91 sk))) (some (z91 false))=some (z91 (g7&&(li||sk))):=by cases g7<;>cases li<;>rfl
 exact ztu _ _ _ (ztu _ _ _ (ztu _ _ _ (ztu _ _ _ (ztu _ _ _ (ztu _ _ _ z)))))
theorem z2mf(table:ByteArray)(cols:List Col)(kids:List Rel)(terms:List Term)(aggs:List Agg)(keys:List By)(limit skip:Int)(all:Bool)(rows:List (List Val)):z34 (.mk 1 table cols kids terms aggs keys limit skip all rows)=spT false true true true true true true (!(table.toList==(ByteArray.mk #[]).toList)) (decide ((rows.length:Int)>0)) (decide ((terms.length:Int)>0)) (decide ((aggs.length:Int)>0)) (decide ((keys.length:Int)>0)) all (limit !=0) (skip !=0):=by kernel_rfl
theorem z2mg(table:ByteArray)(cols:List Col)(kids:List Rel)(terms:List Term)(aggs:List Agg)(keys:List By)(limit skip:Int)(all:Bool)(rows:List (List Val)):z34 (.mk 2 table cols kids terms aggs keys limit skip all rows)=spT true false true true true true true (!(table.toList==(ByteArray.mk #[]).toList)) (decide ((rows.length:Int)>0)) (decide ((terms.length:Int)>0)) (decide ((aggs.length:Int)>0)) (decide ((keys.length:Int)>0)) all (limit !=0) (skip !=0):=by kernel_rfl
theorem z2mh(table:ByteArray)(cols:List Col)(kids:List Rel)(terms:List Term)(aggs:List Agg)(keys:List By)(limit skip:Int)(all:Bool)(rows:List (List Val)):z34 (.mk 3 table cols kids terms aggs keys limit skip all rows)=spT true true false true true true true (!(table.toList==(ByteArray.mk #[]).toList)) (decide ((rows.length:Int)>0)) (decide ((terms.length:Int)>0)) (decide ((aggs.length:Int)>0)) (decide ((keys.length:Int)>0)) all (limit !=0) (skip !=0):=by kernel_rfl
theorem z2mi(table:ByteArray)(cols:List Col)(kids:List Rel)(terms:List Term)(aggs:List Agg)(keys:List By)(limit skip:Int)(all:Bool)(rows:List (List Val)):z34 (.mk 4 table cols kids terms aggs keys limit skip all rows)=spT true true false true true true true (!(table.toList==(ByteArray.mk #[]).toList)) (decide ((rows.length:Int)>0)) (decide ((terms.length:Int)>0)) (decide ((aggs.length:Int)>0)) (decide ((keys.length:Int)>0)) all (limit !=0) (skip !=0):=by kernel_rfl
theorem z2mj(table:ByteArray)(cols:List Col)(kids:List Rel)(terms:List Term)(aggs:List Agg)(keys:List By)(limit skip:Int)(all:Bool)(rows:List (List Val)):z34 (.mk 5 table cols kids terms aggs keys limit skip all rows)=spT true true false true true true true (!(table.toList==(ByteArray.mk #[]).toList)) (decide ((rows.length:Int)>0)) (decide ((terms.length:Int)>0)) (decide ((aggs.length:Int)>0)) (decide ((keys.length:Int)>0)) all (limit !=0) (skip !=0):=by kernel_rfl
theorem z2mk(table:ByteArray)(cols:List Col)(kids:List Rel)(terms:List Term)(aggs:List Agg)(keys:List By)(limit skip:Int)(all:Bool)(rows:List (List Val)):z34 (.mk 6 table cols kids terms aggs keys limit skip all rows)=spT true true false true true true true (!(table.toList==(ByteArray.mk #[]).toList)) (decide ((rows.length:Int)>0)) (decide ((terms.length:Int)>0)) (decide ((aggs.length:Int)>0)) (decide ((keys.length:Int)>0)) all (limit !=0) (skip !=0):=by kernel_rfl
theorem z2ml(table:ByteArray)(cols:List Col)(kids:List Rel)(terms:List Term)(aggs:List Agg)(keys:List By)(limit skip:Int)(all:Bool)(rows:List (List Val)):z34 (.mk 7 table cols kids terms aggs keys limit skip all rows)=spT true true false false true true true (!(table.toList==(ByteArray.mk #[]).toList)) (decide ((rows.length:Int)>0)) (decide ((terms.length:Int)>0)) (decide ((aggs.length:Int)>0)) (decide ((keys.length:Int)>0)) all (limit !=0) (skip !=0):=by kernel_rfl
theorem z2mm(table:ByteArray)(cols:List Col)(kids:List Rel)(terms:List Term)(aggs:List Agg)(keys:List By)(limit skip:Int)(all:Bool)(rows:List (List Val)):z34 (.mk 8 table cols kids terms aggs keys limit skip all rows)=spT true true true true true true true (!(table.toList==(ByteArray.mk #[]).toList)) (decide ((rows.length:Int)>0)) (decide ((terms.length:Int)>0)) (decide ((aggs.length:Int)>0)) (decide ((keys.length:Int)>0)) all (limit !=0) (skip !=0):=by kernel_rfl
theorem z2mn(table:ByteArray)(cols:List Col)(kids:List Rel)(terms:List Term)(aggs:List Agg)(keys:List By)(limit skip:Int)(all:Bool)(rows:List (List Val)):z34 (.mk 9 table cols kids terms aggs keys limit skip all rows)=spT true true true true true false true (!(table.toList==(ByteArray.mk #[]).toList)) (decide ((rows.length:Int)>0)) (decide ((terms.length:Int)>0)) (decide ((aggs.length:Int)>0)) (decide ((keys.length:Int)>0)) all (limit !=0) (skip !=0):=by kernel_rfl
theorem z2ko(table:ByteArray)(cols:List Col)(kids:List Rel)(terms:List Term)(aggs:List Agg)(keys:List By)(limit skip:Int)(all:Bool)(rows:List (List Val)):z34 (.mk 10 table cols kids terms aggs keys limit skip all rows)=spT true true true true true false true (!(table.toList==(ByteArray.mk #[]).toList)) (decide ((rows.length:Int)>0)) (decide ((terms.length:Int)>0)) (decide ((aggs.length:Int)>0)) (decide ((keys.length:Int)>0)) all (limit !=0) (skip !=0):=by kernel_rfl
theorem z2kp(table:ByteArray)(cols:List Col)(kids:List Rel)(terms:List Term)(aggs:List Agg)(keys:List By)(limit skip:Int)(all:Bool)(rows:List (List Val)):z34 (.mk 11 table cols kids terms aggs keys limit skip all rows)=spT true true true true true false true (!(table.toList==(ByteArray.mk #[]).toList)) (decide ((rows.length:Int)>0)) (decide ((terms.length:Int)>0)) (decide ((aggs.length:Int)>0)) (decide ((keys.length:Int)>0)) all (limit !=0) (skip !=0):=by kernel_rfl
theorem z2kq(table:ByteArray)(cols:List Col)(kids:List Rel)(terms:List Term)(aggs:List Agg)(keys:List By)(limit skip:Int)(all:Bool)(rows:List (List Val)):z34 (.mk 12 table cols kids terms aggs keys limit skip all rows)=spT true true true true false true true (!(table.toList==(ByteArray.mk #[]).toList)) (decide ((rows.length:Int)>0)) (decide ((terms.length:Int)>0)) (decide ((aggs.length:Int)>0)) (decide ((keys.length:Int)>0)) all (limit !=0) (skip !=0):=by kernel_rfl
theorem z2kr(table:ByteArray)(cols:List Col)(kids:List Rel)(terms:List Term)(aggs:List Agg)(keys:List By)(limit skip:Int)(all:Bool)(rows:List (List Val)):z34 (.mk 13 table cols kids terms aggs keys limit skip all rows)=spT true true true true true true false (!(table.toList==(ByteArray.mk #[]).toList)) (decide ((rows.length:Int)>0)) (decide ((terms.length:Int)>0)) (decide ((aggs.length:Int)>0)) (decide ((keys.length:Int)>0)) all (limit !=0) (skip !=0):=by kernel_rfl
def ztv(r:Rel):Prop:=0≤z3q r.op
theorem z1rm(r:Rel)(_hr:WS .rel r)(h:ztv r):z34 r=some (z91 (z35 r)):=by
 have hop:r.op=1∨r.op=2∨r.op=3∨r.op=4∨r.op=5∨r.op=6∨r.op=7∨r.op=8∨r.op=9∨r.op=10∨r.op=11∨r.op=12∨r.op=13:=by
  grind[ztv,z3q]
 cases r with
 |mk op table cols kids terms aggs keys limit skip all rows=>
  rcases hop with rfl|rfl|rfl|rfl|rfl|rfl|rfl|rfl|rfl|rfl|rfl|rfl|rfl
  ·rw[z2mf,zc6];unfold z35;simp;grind
  ·rw[z2mg,zc6];unfold z35;simp;grind
  ·rw[z2mh,zc6];unfold z35;simp;grind
  ·rw[z2mi,zc6];unfold z35;simp;grind
  ·rw[z2mj,zc6];unfold z35;simp;grind
  ·rw[z2mk,zc6];unfold z35;simp;grind
  ·rw[z2ml,zc6];unfold z35;simp;grind
  ·rw[z2mm,zc6];unfold z35;simp;grind
  ·rw[z2mn,zc6];unfold z35;simp;grind
  ·rw[z2ko,zc6];unfold z35;simp;grind
  ·rw[z2kp,zc6];unfold z35;simp;grind
  ·rw[z2kq,zc6];unfold z35;simp;grind
  ·rw[z2kr,zc6];unfold z35;simp;grind
def z1eb:FnC Un:=fnF1 (dS .rel) fun r=>([ztv r],z91 (z35 r))
theorem z21x:FnOK 65 z1eb:=fnK1 zr (M:=z1dq) rfl trivial trivial trivial trivial trivial Tryz.func65 fun r=>GiF.r fun w o=>z1rm r (wfA_ w 0) (obA_ o 0)
def zuv(t:Term)(env:List Int):Bool:=(zhs t).2.2 &&decide (¬(t.kids.length:Int)<(zhs t).1)&&decide (¬(t.kids.length:Int)>(zhs t).2.1)&&decide ((t.sub.length:Int)=zju t)&&ztt t env
def z10d(r:Rel):Bool:=decide (¬z3q r.op<0)&&decide ((r.kids.length:Int)=z3q r.op)&& !z35 r
def z1bs(a:Agg):Bool:=((a.name.toList==(ByteArray.mk #[99,111,117,110,116]).toList)||(a.name.toList==(ByteArray.mk #[115,117,109]).toList)||(a.name.toList==(ByteArray.mk #[109,105,110]).toList)||(a.name.toList==(ByteArray.mk #[109,97,120]).toList))&&decide (a.t.length≤1)&&(decide (a.t.length≠0)||((a.name.toList==(ByteArray.mk #[99,111,117,110,116]).toList)&& !a.distinct))
mutual
def zdv:Term→List Int→Bool
 | .mk op v depth at_ name kids sub type,env=>zuv (.mk op v depth at_ name kids sub type) env&&z55 kids env&&(decide (sub.length≠1)||(zdw sub env&&(op==27||z27 (sub.getD 0 za)==1)))
def z55:List Term→List Int→Bool
 |[],_=>true
 |t::l,env=>zdv t env&&z55 l env
def z1bt:Agg→List Int→Bool
 | .mk name distinct t,env=>z1bs (.mk name distinct t)&&z55 t env
def z10e:List Agg→List Int→Bool
 |[],_=>true
 |a::l,env=>z1bt a env&&z10e l env
def zl7:Rel→List Int→Bool
  | .mk op table cols kids terms aggs keys limit skip all rows,env=>z10d (.mk op table cols kids terms aggs keys limit skip all rows)&&zdw kids env&&decide ((cols.length:Int)=z27 (.mk op table cols kids terms aggs keys limit skip all rows))&&
    (if op=1 then !(table.toList==(ByteArray.mk #[]).toList)
     else if op=2 then znp rows cols.length
     else if op=3∨op=6 then decide (terms.length=1)&&z55 terms (z8v (.mk op table cols kids terms aggs keys limit skip all rows)::env)
     else if op=4 then z55 terms (z8v (.mk op table cols kids terms aggs keys limit skip all rows)::env)
     else if op=5 then decide (terms.length≤1)&&z55 terms (z8v (.mk op table cols kids terms aggs keys limit skip all rows)::env)
     else if op=7 then z55 terms (z8v (.mk op table cols kids terms aggs keys limit skip all rows)::env)&&z10e aggs (z8v (.mk op table cols kids terms aggs keys limit skip all rows)::env)
     else if op=9∨op=10∨op=11 then z27 (kids.getD 0 za)==z27 (kids.getD 1 za)
     else if op=12 then zuu keys (z27 (.mk op table cols kids terms aggs keys limit skip all rows))
     else if op=13 then decide (-1≤limit∧limit≤1000000000000000∧0≤skip∧skip≤1000000000000000)
     else true)
def zdw:List Rel→List Int→Bool
 |[],_=>true
 |r::l,env=>zl7 r env&&zdw l env
end
def zdx(r:Rel)(env:List Int):Bool:=
 if r.op=1 then !(r.table.toList==(ByteArray.mk #[]).toList)
 else if r.op=2 then znp r.rows r.cols.length
 else if r.op=3∨r.op=6 then decide (r.terms.length=1)&&z55 r.terms (z8v r::env)
 else if r.op=4 then z55 r.terms (z8v r::env)
 else if r.op=5 then decide (r.terms.length≤1)&&z55 r.terms (z8v r::env)
 else if r.op=7 then z55 r.terms (z8v r::env)&&z10e r.aggs (z8v r::env)
 else if r.op=9∨r.op=10∨r.op=11 then z27 (r.kids.getD 0 za)==z27 (r.kids.getD 1 za)
 else if r.op=12 then zuu r.keys (z27 r)
 else if r.op=13 then decide (-1≤r.limit∧r.limit≤1000000000000000∧0≤r.skip∧r.skip≤1000000000000000)
 else true
theorem z1vl(t:Term)(env:List Int):zdv t env=(zuv t env&&z55 t.kids env&&(decide (t.sub.length≠1)||(zdw t.sub env&&(t.op==27||z27 (t.sub.getD 0 za)==1)))):=by cases t;rfl
theorem z21y(a:Agg)(env:List Int):z1bt a env=(z1bs a&&z55 a.t env):=by cases a;rfl
theorem z21z(r:Rel)(env:List Int):zl7 r env=(z10d r&&zdw r.kids env&&decide ((r.cols.length:Int)=z27 r)&&zdx r env):=by cases r;rfl
theorem zed:∀(l:List Term)(env:List Int),z55 l env=l.all fun t=>zdv t env
 |[],_=>rfl
 |t::l,env=>by simp only[z55,y1g,zed l env]
theorem z131:∀(l:List Agg)(env:List Int),z10e l env=l.all fun t=>z1bt t env
 |[],_=>rfl
 |t::l,env=>by simp only[z10e,y1g,z131 l env]
theorem zsr:∀(l:List Rel)(env:List Int),zdw l env=l.all fun t=>zl7 t env
 |[],_=>rfl
 |t::l,env=>by simp only[zdw,y1g,zsr l env]
def z17k(r:Rel):Prop:=(r.op=9∨r.op=10∨r.op=11)→2≤r.kids.length
def za3(t:Term)(env:List Int):Bool:=zdv t env
def zc7(l:List Term)(env:List Int):Bool:=z55 l env
def z132(l:List Agg)(env:List Int):Bool:=z10e l env
def z1ho(r:Rel)(env:List Int):Bool:=zdx r env
def z9k(r:Rel)(env:List Int):Bool:=zl7 r env
def zop(m:Nat):FnC Un:=fnF2 (dS .term) (dL .int) fun t env=>z2k (3*t.ht) m ([z2m env t.ht],z91 (za3 t env))
def zss(m:Nat):FnC Un:=fnF2 (dL .term) (dL .int) fun l env=>z2k (3*htTs l+1) m ([z2m env (htTs l)],z91 (zc7 l env))
def zyr(m:Nat):FnC Un:=fnF2 (dL .agg) (dL .int) fun l env=>z2k (3*htAs l) m ([z2m env (htAs l)],z91 (z132 l env))
def zys(m:Nat):FnC Un:=fnF2 (dS .rel) (dL .int) fun r env=>z2k (3*r.ht+1) m ([z2m env r.ht,z17k r],z91 (z1ho r env))
def zst(m:Nat):FnC Un:=fnF2 (dS .rel) (dL .int) fun r env=>z2k (3*r.ht+2) m ([z2m env r.ht],z91 (z9k r env))
def zsu(m:Nat):Mc Un:=mcF_ [(56,z21t),(57,z1lf),(58,z1vj),(18,zop m),(33,zst m),(19,zhr)] [] [] [] []
def z133:Nat→NS:=nsF_ [(5,{ts:=bl 83 278,bs:=bl 83 4,nm:=[],cs:=true})] true
def z7j(t:Term)(env:List Int)(v0:Int):S Un:=(st 83 83 332 0 [(1,al .int env),(2,ax 2),(4,ab false),(8,ai v0)] [(2,bg .term t)] [])
def zoq(m:Nat):S Un→Option (EX Un):=lpF_ (zsu m) z133 Tryz.f18 [1,1,1,0,1,2,2] 5
def zht(m:Nat):Exit→S Un→Option (RF Un):=cxF_ (zsu m) z133 Tryz.f18 [1,1,1,0,1,2] [.d]
def z1ec(m:Nat)(t:Term)(env:List Int):Option (RF Un):=fnF_ (zsu m) z133 Tryz.f18 0 [.d] [.d (.agg (enc Ty.term t)),.d (.v (.dat (U:=Un) Ty.int env))]
theorem z26n(m:Nat)(t:Term)(env:List Int):z1ec m t env=cndO (!(zhs (Term.ids t)).snd.snd) (some (z91 (false))) (cndO (decide ((↑t.kids.length:Int)<(zhs (Term.ids t)).fst)) (some (z91 (false))) (cndO (decide ((↑t.kids.length:Int)>(zhs (Term.ids t)).snd.fst)) (some (z91 (false))) (cndO ((↑t.sub.length:Int) !=zju (Term.ids t)) (some (z91 (false))) (cndO (!ztt (Term.ids t) env) (some (z91 (false))) ((zoq m (z7j t env (0:Int))).bind (zd (zht m))))))):=by kernel_rfl
theorem z1ed(m:Nat)(t:Term)(env:List Int)(v0:Int):zoq m (z7j t env v0)=cndO (decide (v0<(↑t.kids.length:Int))) (obO (0≤v0∧v0<(↑t.kids.length:Int)) (obO ((3:Nat)*(Term.ids (t.kids.getD v0.toNat zb)).ht<m) (obO (z2m env (Term.ids (t.kids.getD v0.toNat zb)).ht) (cndO (!za3 (Term.ids (t.kids.getD v0.toNat zb)) env) (some (.ret,(z7j t env v0))) (zoq m (z7j t env (IntKind.i64.wrap (v0+1)))))))) (some (.exit 0,(z7j t env v0))):=lpQ_ (by kernel_rfl)
theorem z1lm(m:Nat)(t:Term)(env:List Int)(v0:Int):zht m .ret (z7j t env v0)=some (z91 (false)):=by kernel_rfl
theorem z1rn(m:Nat)(t:Term)(env:List Int)(v0:Int):zht m (.exit 0) (z7j t env v0)=cndO ((↑t.sub.length:Int)==(1:Int)) (obO ((0:Int)≤(0:Int)∧(0:Int)<(↑t.sub.length:Int)) (obO ((3:Nat)*(Rel.ids (t.sub.getD 0 za)).ht+(2:Nat)<m) (obO (z2m env (Rel.ids (t.sub.getD 0 za)).ht) (cndO (z9k (Rel.ids (t.sub.getD 0 za)) env) (cndO (t.op==27) (some (z91 (true))) (obO ((0:Int)≤(0:Int)∧(0:Int)<(↑t.sub.length:Int)) (some (z91 (z2w (Rel.ids (t.sub.getD 0 za))==1))))) (some (z91 (false))))))) (some (z91 (true))):=by kernel_rfl
theorem z26o(m:Nat)(t:Term)(env:List Int)(hm:3*t.ht<m+1)(h:env.length+t.ht≤8000000)(i:Int):zht m (.exit 0) (z7j t env i)=some (z91 (decide (t.sub.length≠1)||(zdw t.sub env&&(t.op==27||z27 (t.sub.getD 0 za)==1)))):=by
 rw[z1rn,z8];by_cases h1:t.sub.length=1
 ·obtain⟨s,hs⟩:∃s,t.sub=[s]:=by
   match hk:t.sub,h1 with
   |[s],_=>simp
  have hht:s.ht<t.ht:=Term.ht_sub (by grind);have hg:t.sub.getD 0 za=s:=by grind
  rw[if_pos (by grind),hg,decide_eq_false (fun e=>e h1),y3m];simp only[Rel.ids_eq];rw[z6 (by omega),z6 (by omega),z6 (show z2m env s.ht by grind[z2m])];have hr:zdw t.sub env=z9k s env:=by rw[hs];simp only[zdw,Bool.and_true];rfl
  rw[hr,za2];cases z9k s env
  ·rfl
  ·rw[z8,if_pos rfl,y1c,z8];cases t.op==27
   all_goals simp_all[if_neg,z6,y3m]
 grind
theorem z1xu(m:Nat)(t:Term)(env:List Int)(_ht:WS .term t)(_he:WL .int env)(hm:3*t.ht<m+1)(h:z2m env t.ht):z1ec m t env=some (z91 (za3 t env)):=by
 have hk:WL .term t.kids:=_ht.term_kids
 have lp:=z2t (L:=zoq m) (st:=fun i=>z7j t env i) (C:=zht m) (e:=.exit 0) (fun b=>some (z91 (b&&(decide (t.sub.length≠1)||(zdw t.sub env&&(t.op==27||z27 (t.sub.getD 0 za)==1)))))) (d:=zb) (fun k=>za3 k env) hk.len
  (fun i x hi hx hmem=>by
   have hht:=Term.ht_kid hmem;rw[z1ed];simp only[z8,hi,decide_true,if_true,and_true,y5,hx,Term.ids_eq]
   grind[z6,z2m,za3])
  (by rw[z1ed];simp[z8]) (fun i=>by rw[z1lm,y1q]) (fun i=>by rw[z26o m t env hm h,y1c])
 have e:za3 t env=(zuv t env&&(t.kids.all (fun k=>za3 k env)&&(decide (t.sub.length≠1)||(zdw t.sub env&&(t.op==27||z27 (t.sub.getD 0 za)==1))))):=by
  show zdv t env=_;rw[z1vl,zed,y3n];rfl
 rw[z26n,e];simp only[Term.ids_eq];unfold zuv;generalize zhs t=o;cases o.2.2
 ·rfl
 simp only[z8,decide_eq_true_eq,y49,y1c];grind
abbrev zkd(m:Nat):Prop:=FnOK 18 (zop m)∧FnOK 114 (zss m)∧FnOK 115 (zyr m)∧FnOK 66 (zys m)∧FnOK 33 (zst m)
theorem z220(m:Nat)(hG:zkd m):FnOK 18 (zop (m+1)):=fnK2 zr zx (M:=(zsu m)) rfl ⟨z2em,z26g,z2at,hG.1,hG.2.2.2.2,zl3,trivial⟩ trivial trivial trivial trivial Tryz.func18 fun t env=>GiF.r fun w o=>z1xu m t env (wfA_ w 0) (wfA_ w 1) (obA_ o 0) (obA_ o 1)
def zwp(m:Nat):Mc Un:=mcF_ [(18,zop m)] [] [] [] []
def z17l:Nat→NS:=nsF_ [(2,{ts:=bl 19 51,bs:=bl 19 0,nm:=[],cs:=true})] true
def zb6(l:List Term)(env:List Int)(v0:Int):S Un:=(st 19 19 76 0 [(0,al .term l),(1,al .int env),(4,ab false),(5,ai v0)] [] [])
def zsv(m:Nat):S Un→Option (EX Un):=lpF_ (zwp m) z17l Tryz.f114 [1,0,1,2,2] 2
def z134(m:Nat):Exit→S Un→Option (RF Un):=cxF_ (zwp m) z17l Tryz.f114 [1,0,1,2] [.d]
def z1ln(m:Nat)(l:List Term)(env:List Int):Option (RF Un):=fnF_ (zwp m) z17l Tryz.f114 0 [.d] [.d (.v (.dat (U:=Un) Ty.term l)),.d (.v (.dat (U:=Un) Ty.int env))]
theorem z2av(m:Nat)(l:List Term)(env:List Int):z1ln m l env=(zsv m (zb6 l env (0:Int))).bind (zd (z134 m)):=by kernel_rfl
theorem z1lo(m:Nat)(l:List Term)(env:List Int)(v0:Int):zsv m (zb6 l env v0)=cndO (decide (v0<(↑l.length:Int))) (obO (0≤v0∧v0<(↑l.length:Int)) (obO ((3:Nat)*(Term.ids (l.getD v0.toNat zb)).ht<m) (obO (z2m env (Term.ids (l.getD v0.toNat zb)).ht) (cndO (!za3 (Term.ids (l.getD v0.toNat zb)) env) (some (.ret,(zb6 l env v0))) (zsv m (zb6 l env (IntKind.i64.wrap (v0+1)))))))) (some (.exit 0,(zb6 l env v0))):=lpQ_ (by kernel_rfl)
theorem z1ro(m:Nat)(l:List Term)(env:List Int)(v0:Int):z134 m .ret (zb6 l env v0)=some (z91 (false)):=by kernel_rfl
theorem z1xv(m:Nat)(l:List Term)(env:List Int)(v0:Int):z134 m (.exit 0) (zb6 l env v0)=some (z91 (true)):=by kernel_rfl
theorem z221(m:Nat)(l:List Term)(env:List Int)(hl:WL .term l)(_he:WL .int env)(hm:3*htTs l+1<m+1)(h:z2m env (htTs l)):z1ln m l env=some (z91 (zc7 l env)):=by
 have e:zc7 l env=l.all fun t=>za3 t env:=zed l env;rw[z2av,e]
 exact z2t (L:=zsv m) (st:=fun i=>zb6 l env i) (fun b=>some (z91 b)) (d:=zb) (fun t=>za3 t env) hl.len
  (fun i x hi hx hmem=>by
   have hht:=zbl hmem;rw[z1lo];simp only[z8,hi,decide_true,if_true,and_true,y5,hx,Term.ids_eq]
   grind[z6,z2m,za3])
  (by rw[z1lo];simp[z8]) (fun i=>z1ro _ _ _ _) (fun i=>z1xv _ _ _ _)
theorem z26p(m:Nat)(hG:zkd m):FnOK 114 (zss (m+1)):=fnK2 zx zx (M:=(zwp m)) rfl ⟨hG.1,trivial⟩ trivial trivial trivial trivial Tryz.func114 fun l env=>GiF.r fun w o=>z221 m l env (wfA_ w 0) (wfA_ w 1) (obA_ o 0) (obA_ o 1)
def zsw(m:Nat):Mc Un:=mcF_ [(114,zss m)] [] [] [] []
def z135:Nat→NS:=nsF_ [(2,{ts:=bl 61 51,bs:=bl 61 0,nm:=[],cs:=true})] true
def z3r(l:List Agg)(env:List Int)(v0:Int):S Un:=(st 61 61 244 0 [(0,al .agg l),(1,al .int env),(4,ab false),(5,ai v0)] [] [])
def zhu(m:Nat):S Un→Option (EX Un):=lpF_ (zsw m) z135 Tryz.f115 [1,0,1,2,2] 2
def zyt(m:Nat):Exit→S Un→Option (RF Un):=cxF_ (zsw m) z135 Tryz.f115 [1,0,1,2] [.d]
def z1ee(m:Nat)(l:List Agg)(env:List Int):Option (RF Un):=fnF_ (zsw m) z135 Tryz.f115 0 [.d] [.d (.v (.dat (U:=Un) Ty.agg l)),.d (.v (.dat (U:=Un) Ty.int env))]
theorem z26q(m:Nat)(l:List Agg)(env:List Int):z1ee m l env=(zhu m (z3r l env (0:Int))).bind (zd (zyt m)):=by kernel_rfl
def zor(m:Nat)(l:List Agg)(env:List Int)(v0:Int):Option (EX Un):=obO ((3:Nat)*htTs (Agg.t (l.getD v0.toNat zq))+(1:Nat)<m) (obO (z2m env (htTs (Agg.t (l.getD v0.toNat zq)))) (cndO (!zc7 (Agg.t (l.getD v0.toNat zq)) env) (some (.ret,(z3r l env v0))) (zhu m (z3r l env (IntKind.i64.wrap (v0+1))))))
def zhv(m:Nat)(l:List Agg)(env:List Int)(v0:Int):Option (EX Un):=cndO (decide ((↑(Agg.t (l.getD v0.toNat zq)).length:Int)>(1:Int))) (some (.ret,(z3r l env v0))) (cndO ((↑(Agg.t (l.getD v0.toNat zq)).length:Int)==(0:Int)) (cndO (!(Agg.name (l.getD v0.toNat zq)).toList ==(ByteArray.mk #[99,111,117,110,116]).toList) (some (.ret,(z3r l env v0))) (cndO (Agg.distinct (l.getD v0.toNat zq)) (some (.ret,(z3r l env v0))) (zor m l env v0))) (zor m l env v0))
theorem z1ef(m:Nat)(l:List Agg)(env:List Int)(v0:Int):zhu m (z3r l env v0)=cndO (decide (v0<(↑l.length:Int))) (obO (0≤v0∧v0<(↑l.length:Int)) (cndO (!(Agg.name (l.getD v0.toNat zq)).toList ==(ByteArray.mk #[99,111,117,110,116]).toList) (cndO (!(Agg.name (l.getD v0.toNat zq)).toList ==(ByteArray.mk #[115,117,109]).toList) (cndO (!(Agg.name (l.getD v0.toNat zq)).toList ==(ByteArray.mk #[109,105,110]).toList) (cndO (!(Agg.name (l.getD v0.toNat zq)).toList ==(ByteArray.mk #[109,97,120]).toList) (some (.ret,(z3r l env v0))) (zhv m l env v0)) (zhv m l env v0)) (zhv m l env v0)) (zhv m l env v0))) (some (.exit 0,(z3r l env v0))):=lpQ_ (by kernel_rfl)
theorem z1lp(m:Nat)(l:List Agg)(env:List Int)(v0:Int):zyt m .ret (z3r l env v0)=some (z91 (false)):=by kernel_rfl
theorem z1rp(m:Nat)(l:List Agg)(env:List Int)(v0:Int):zyt m (.exit 0) (z3r l env v0)=some (z91 (true)):=by kernel_rfl
theorem z1xw(m:Nat)(l:List Agg)(env:List Int)(hl:WL .agg l)(_he:WL .int env)(hm:3*htAs l<m+1)(h:z2m env (htAs l)):z1ee m l env=some (z91 (z132 l env)):=by
 have e:z132 l env=l.all fun t=>z1bt t env:=z131 l env;rw[z26q,e]
 exact z2t (L:=zhu m) (st:=fun i=>z3r l env i) (fun b=>some (z91 b)) (d:=zq) (fun t=>z1bt t env) hl.len
  (fun i x hi hx hmem=>by
   have hht:=z12t hmem;have hax:x.ht=htTs x.t+1:=by cases x;rfl
   have key:zor m l env (i:Int)=if zc7 x.t env=true then zhu m (z3r l env (IntKind.i64.wrap ((i:Int)+1)))else some (.ret,z3r l env (i:Int)):=by
    unfold zor;grind[Int.toNat_natCast,z6,z2m,htTs,z8,zc7]
   have e2:z1bt x env=(z1bs x&&zc7 x.t env):=z21y x env;rw[z1ef,e2];unfold zhv;simp only[y5,hx,key];unfold z1bs;generalize zc7 x.t env=q;generalize(x.name.toList==(ByteArray.mk #[99,111,117,110,116]).toList)=n1;generalize(x.name.toList==(ByteArray.mk #[115,117,109]).toList)=n2;generalize(x.name.toList==(ByteArray.mk #[109,105,110]).toList)=n3;generalize(x.name.toList==(ByteArray.mk #[109,97,120]).toList)=n4;rw[z8,if_pos (decide_eq_true hi),z6 (by omega)];by_cases c1:x.t.length≤1
   ·have d1:decide ((x.t.length:Int)>1)=false:=decide_eq_false (by omega);rw[d1,decide_eq_true c1];by_cases c0:x.t.length=0
    ·have d0:((x.t.length:Int)==0)=true:=by grind
     rw[d0,decide_eq_false (fun e=>e c0)];cases n1<;>cases n2<;>cases n3<;>cases n4<;>cases x.distinct<;>cases q<;>rfl
    ·have d0:((x.t.length:Int)==0)=false:=by grind
     rw[d0,decide_eq_true c0];cases n1<;>cases n2<;>cases n3<;>cases n4<;>cases q<;>rfl
   ·have d1:decide ((x.t.length:Int)>1)=true:=decide_eq_true (by omega);rw[d1,decide_eq_false c1]
    cases n1<;>cases n2<;>cases n3<;>cases n4<;>rfl)
  (by rw[z1ef];simp[z8]) (fun i=>z1lp _ _ _ _) (fun i=>z1rp _ _ _ _)
theorem z222(m:Nat)(hG:zkd m):FnOK 115 (zyr (m+1)):=fnK2 zx zx (M:=(zsw m)) rfl ⟨hG.2.1,trivial⟩ trivial trivial trivial trivial Tryz.func115 fun l env=>GiF.r fun w o=>z1xw m l env (wfA_ w 0) (wfA_ w 1) (obA_ o 0) (obA_ o 1)
def z1lq(m:Nat):Mc Un:=mcF_ [(112,z21w),(113,z1lj),(114,zss m),(115,zyr m),(19,zhr),(116,z1ll)] [] [] [] []
def z1eg(m:Nat)(r:Rel)(env:List Int):Option (RF Un):=fnF_ (z1lq m) z26d Tryz.f66 0 [.d] [.d (.agg (enc Ty.rel r)),.d (.v (.dat (U:=Un) Ty.int env))]
def zhw(m:Nat)(r:Rel)(env:List Int):Option (RF Un):=obO ((3:Nat)*htTs r.terms+(1:Nat)<m) (obO (z2m (zb5 (Rel.ids r) env) (htTs r.terms)) (some (z91 (zc7 r.terms (zb5 (Rel.ids r) env)))))
def zyu(m:Nat)(r:Rel)(env:List Int):Option (RF Un):=cndO ((↑r.terms.length:Int)==(1:Int)) (zhw m r env) (some (z91 (false)))
def zos(r:Rel):Option (RF Un):=obO ((0:Int)≤(0:Int)∧(0:Int)<(↑r.kids.length:Int)) (obO ((0:Int)≤(1:Int)∧(1:Int)<(↑r.kids.length:Int)) (some (z91 (z2w (Rel.ids (r.kids.getD 0 za))==z2w (Rel.ids (r.kids.getD 1 za))))))
theorem z26r(m:Nat)(r:Rel)(env:List Int):z1eg m r env=obO (z2m env (1:Nat)) (cndO (r.op==1) (some (z91 (!r.table.toList==(ByteArray.mk #[]).toList))) (cndO (r.op==2) (some (z91 (znp r.rows (↑r.cols.length:Int)))) (cndO (r.op==3) (zyu m r env) (cndO (r.op==6) (zyu m r env) (cndO (r.op==4) (zhw m r env) (cndO (r.op==5) (cndO (decide ((↑r.terms.length:Int)≤(1:Int))) (zhw m r env) (some (z91 (false)))) (cndO (r.op==7) (obO ((3:Nat)*htTs r.terms+(1:Nat)<m) (obO (z2m (zb5 (Rel.ids r) env) (htTs r.terms)) (cndO (zc7 r.terms (zb5 (Rel.ids r) env)) (obO ((3:Nat)*htAs r.aggs<m) (obO (z2m (zb5 (Rel.ids r) env) (htAs r.aggs)) (some (z91 (z132 r.aggs (zb5 (Rel.ids r) env)))))) (some (z91 (false)))))) (cndO (r.op==9) (zos r) (cndO (r.op==10) (zos r) (cndO (r.op==11) (zos r) (cndO (r.op==12) (some (z91 (zuu r.keys (z2w (Rel.ids r))))) (cndO (r.op==13) (cndO (decide (r.limit≥(-1:Int))) (cndO (decide (r.limit≤1000000000000000)) (cndO (decide (r.skip≥0)) (some (z91 (decide (r.skip≤1000000000000000)))) (some (z91 (false)))) (some (z91 (false)))) (some (z91 (false)))) (some (z91 (true))))))))))))))):=by kernel_rfl
theorem z1xx(m:Nat)(r:Rel)(env:List Int)(_hr:WS .rel r)(_he:WL .int env)(hm:3*r.ht+1<m+1)(h:z2m env r.ht)(hk:z17k r):z1eg m r env=some (z91 (z1ho r env)):=by
 have hh:htTs r.terms+1≤r.ht∧htAs r.aggs+1≤r.ht:=by cases r;grind[Rel.ht,Rel.terms_mk,Rel.aggs_mk]
 have o1:z2m env 1:=by grind[z2m]
 have o2:z2m (zb5 r env) (htTs r.terms):=by grind[z2m,zb5,List.length_cons]
 have o3:z2m (zb5 r env) (htAs r.aggs):=by grind[z2m,zb5,List.length_cons]
 have t1:zhw m r env=some (z91 (z55 r.terms (z8v r::env))):=by
  unfold zhw;simp only[Rel.ids_eq];rw[z6 (by omega),z6 o2];rfl
 rw[z26r,z6 o1];unfold zyu zos;simp only[z10c,Rel.ids_eq,za2];simp only[z8,y1h,beq_iff_eq,decide_eq_true_eq];show _=some (z91 (zdx r env));unfold zdx;by_cases h1:r.op=1
 ·grind
 rw[if_neg h1,if_neg h1];by_cases h2:r.op=2
 ·grind
 rw[if_neg h2,if_neg h2];by_cases h3:r.op=3∨r.op=6
 ·by_cases hl:r.terms.length=1
  all_goals grind
 rw[if_neg (by omega),if_neg h3];by_cases h4:r.op=4
 ·grind
 rw[if_neg h4,if_neg h4];by_cases h5:r.op=5
 ·grind
 rw[if_neg h5,if_neg h5];by_cases h7:r.op=7
 ·rw[if_pos h7,if_pos h7,z6 (by omega),z6 o2];have e:zc7 r.terms (zb5 r env)=z55 r.terms (z8v r::env):=rfl;rw[e];cases z55 r.terms (z8v r::env)
  ·rfl
  ·rw[if_pos rfl,z6 (by omega),z6 o3];rfl
 rw[if_neg h7,if_neg h7];by_cases h9:r.op=9∨r.op=10∨r.op=11
 ·have:=hk h9;rw[if_pos (by omega),if_pos h9,z6 (by omega),z6 (by omega)]
 grind
theorem z223(m:Nat)(hG:zkd m):FnOK 66 (zys (m+1)):=fnK2 zr zx (M:=(z1lq m)) rfl ⟨z2ep,z26j,hG.2.1,hG.2.2.1,zl3,z26l,trivial⟩ trivial trivial trivial trivial Tryz.func66 fun r env=>GiF.r fun w o=>z1xx m r env (wfA_ w 0) (wfA_ w 1) (obA_ o 0) (obA_ o 1) (obA_ o 2)
def zwq(m:Nat):Mc Un:=mcF_ [(59,z12y),(65,z1eb),(33,zst m),(19,zhr),(66,zys m)] [] [] [] []
def z17m:Nat→NS:=nsF_ [(4,{ts:=bl 49 54,bs:=bl 49 4,nm:=[],cs:=true})] true
def z8w(r:Rel)(env:List Int)(v0:Int):S Un:=(st 49 49 196 0 [(1,al .int env),(2,ax 2),(4,ab false),(5,ai v0)] [(2,bg .rel r)] [])
def zsx(m:Nat):S Un→Option (EX Un):=lpF_ (zwq m) z17m Tryz.f33 [1,1,0,1,2,2] 4
def zl9(m:Nat):Exit→S Un→Option (RF Un):=cxF_ (zwq m) z17m Tryz.f33 [1,1,0,1,2] [.d]
def z1lr(m:Nat)(r:Rel)(env:List Int):Option (RF Un):=fnF_ (zwq m) z17m Tryz.f33 0 [.d] [.d (.agg (enc Ty.rel r)),.d (.v (.dat (U:=Un) Ty.int env))]
theorem z2ax(m:Nat)(r:Rel)(env:List Int):z1lr m r env=cndO (decide (zfi r.op<0)) (some (z91 (false))) (cndO ((↑r.kids.length:Int) !=zfi r.op) (some (z91 (false))) (obO (ztv (Rel.ids r)) (cndO (z35 (Rel.ids r)) (some (z91 (false))) ((zsx m (z8w r env (0:Int))).bind (zd (zl9 m)))))):=by kernel_rfl
theorem z1ls(m:Nat)(r:Rel)(env:List Int)(v0:Int):zsx m (z8w r env v0)=cndO (decide (v0<(↑r.kids.length:Int))) (obO (0≤v0∧v0<(↑r.kids.length:Int)) (obO ((3:Nat)*(Rel.ids (r.kids.getD v0.toNat za)).ht+(2:Nat)<m) (obO (z2m env (Rel.ids (r.kids.getD v0.toNat za)).ht) (cndO (!z9k (Rel.ids (r.kids.getD v0.toNat za)) env) (some (.ret,(z8w r env v0))) (zsx m (z8w r env (IntKind.i64.wrap (v0+1)))))))) (some (.exit 0,(z8w r env v0))):=lpQ_ (by kernel_rfl)
theorem z1rq(m:Nat)(r:Rel)(env:List Int)(v0:Int):zl9 m .ret (z8w r env v0)=some (z91 (false)):=by kernel_rfl
theorem z1xy(m:Nat)(r:Rel)(env:List Int)(v0:Int):zl9 m (.exit 0) (z8w r env v0)=cndO ((↑r.cols.length:Int)==z2w (Rel.ids r)) (obO ((3:Nat)*(Rel.ids r).ht+(1:Nat)<m) (obO (z2m env (Rel.ids r).ht) (obO (z17k (Rel.ids r)) (some (z91 (z1ho (Rel.ids r) env)))))) (some (z91 (false))):=by kernel_rfl
theorem z2ay(m:Nat)(r:Rel)(env:List Int)(hm:3*r.ht+2<m+1)(h:z2m env r.ht)(hk:z17k r)(i:Int):zl9 m (.exit 0) (z8w r env i)=some (z91 (decide ((r.cols.length:Int)=z27 r)&&zdx r env)):=by
 rw[z1xy,z8];simp only[Rel.ids_eq,za2];by_cases h1:(r.cols.length:Int)=z27 r
 ·rw[if_pos (by grind),z6 (by omega),z6 h,z6 hk,decide_eq_true h1,y1c];rfl
 grind
theorem z224(m:Nat)(r:Rel)(env:List Int)(_hr:WS .rel r)(_he:WL .int env)(hm:3*r.ht+2<m+1)(h:z2m env r.ht):z1lr m r env=some (z91 (z9k r env)):=by
 have hkl:WL .rel r.kids:=_hr.rel_kids;have e:z9k r env=(z10d r&&(r.kids.all (fun k=>z9k k env)&&(decide ((r.cols.length:Int)=z27 r)&&zdx r env))):=by
  show zl7 r env=_;rw[z21z,zsr,y3n,y3n];rfl
 rw[z2ax,e];simp only[Rel.ids_eq,z8,decide_eq_true_eq,z1dz];unfold z10d;by_cases c1:z3q r.op<0
 ·grind
 by_cases c2:(r.kids.length:Int)=z3q r.op
 ·have hok:z17k r:=fun h9=>by
   have:z3q r.op=2:=by
    rcases h9 with h9|h9|h9<;>rw[h9]<;>rfl
   omega
  have lp:=z2t (L:=zsx m) (st:=fun i=>z8w r env i) (C:=zl9 m) (e:=.exit 0) (fun b=>some (z91 (b&&(decide ((r.cols.length:Int)=z27 r)&&zdx r env)))) (d:=za) (fun k=>z9k k env) hkl.len
   (fun i x hi hx hmem=>by
    have hht:=Rel.ht_kid hmem;rw[z1ls];simp only[z8,hi,decide_true,if_true,and_true,y5,hx,Rel.ids_eq]
    grind[z6,z2m,z9k])
   (by rw[z1ls];simp[z8]) (fun i=>by rw[z1rq,y1q]) (fun i=>by simp_all[z2ay,y1c])
  rw[if_neg (by grind),decide_eq_true c2,z6 (show ztv r by grind[ztv]),lp];grind
 grind
theorem z26s(m:Nat)(hG:zkd m):FnOK 33 (zst (m+1)):=fnK2 zr zx (M:=(zwq m)) rfl ⟨z1e0,z21x,hG.2.2.2.2,zl3,hG.2.2.2.1,trivial⟩ trivial trivial trivial trivial Tryz.func33 fun r env=>GiF.r fun w o=>z224 m r env (wfA_ w 0) (wfA_ w 1) (obA_ o 0) (obA_ o 1)
theorem zak:∀m,zkd m
 |0=>⟨fnZ2,fnZ2,fnZ2,fnZ2,fnZ2⟩
 |m+1=>⟨z220 m (zak m),z26p m (zak m),z222 m (zak m),z223 m (zak m),z26s m (zak m)⟩
def z1vm:FnC Un:=fnF2 (dS .rel) (dL .int) fun r env=>([z2m env r.ht],z91 (z9k r env))
theorem z2az:FnOK 33 z1vm:=fnA2 fun m=>(zak m).2.2.2.2
end
end B
namespace B
open Go Go.RowKit
set_option maxRecDepth 100000
noncomputable section
attribute [local irreducible] awp ctxK zu z1a retQ z1m awf ctxF z1k
def zrk(r:List Term):RF Un:=([.c (.sl (U:=Un) Ty.term r false)],[])
def zrl:Nat→NS:=nsF_ [(3,{ts:=bl 25 26,bs:=bl 25 2,nm:=[(.sl 3,100)],cs:=true})] true
def z9l(r:Rel)(v0:Int)(v1:List Term):S Un:=(st 25 25 101 0 [(1,ax 1),(3,ao 100),(4,ai v0)] [(1,bg .rel r)] [(100,some ⟨(0:Nat),Ty.term,v1,some (0:Nat),true⟩)])
def zgm:S Un→Option (EX Un):=lpF_ z1dq zrl Tryz.f75 [1,1,0,1,2,2] 3
def z10f:Exit→S Un→Option (RF Un):=cxF_ z1dq zrl Tryz.f75 [1,1,0,1,2] [.d]
def z10g(r:Rel):Option (RF Un):=fnF_ z1dq zrl Tryz.f75 1 [.d] [.d (.agg (enc Ty.rel r))]
theorem z1rr(r:Rel):z10g r=obO ((0+r.terms.length)*(128:Nat)≤zh) ((zgm (z9l r (0:Int) r.terms)).bind (zd z10f)):=by kernel_rfl
theorem z10h(r:Rel)(v0:Int)(v1:List Term):zgm (z9l r v0 v1)=cndO (decide (v0<(↑r.aggs.length:Int))) (obO (0≤v0∧v0<(↑r.aggs.length:Int)) (obO ((v1.length+(Agg.t (r.aggs.getD v0.toNat zq)).length)*(128:Nat)≤zh) (zgm (z9l r (IntKind.i64.wrap (v0+1)) (v1++Agg.t (r.aggs.getD v0.toNat zq)))))) (some (.exit 0,(z9l r v0 v1))):=lpQ_ (by kernel_rfl)
theorem z1ck(r:Rel)(v0:Int)(v1:List Term):z10f (.exit 0) (z9l r v0 v1)=some (zrk (v1)):=by kernel_rfl
def z8b:List Agg→List Term
 |[]=>[]
 |a::l=>a.t++z8b l
theorem z1lt:∀(l:List Agg)(n:List Term),l.foldl (fun n a=>n++a.t) n=n++z8b l
 |[],n=>by simp[z8b]
 |a::l,n=>by rw[yt,z1lt l,z8b,y11]
theorem z17n:∀l:List Agg,szTs (z8b l)≤szAs l
 |[]=>y7 _
 |a::l=>by
  have:=z17n l;have h:=a.sz_eq;grind[z8b,zyg,szAs]
theorem z1vn:∀l:List Agg,htTs (z8b l)≤htAs l
 |[]=>y7 _
 | .mk n d t::l=>by
  have:=z1vn l;have h:∀a b:List Term,htTs (a++b)=max (htTs a) (htTs b):=fun a b=>by
   induction a with
   |nil=>rfl
   |cons x a ih=>simp_all[y15,htTs]
  grind[z8b,htAs,Agg.ht,Agg.t_mk]
def z10(r:Rel):List Term:=r.terms++z8b r.aggs
theorem zot(r:Rel):(z10 r).length≤r.sz:=by
 have h:=z5v (z10 r);have h2:=z17n r.aggs;have h3:=r.sz_eq;grind[z10,zyg]
theorem z92{r:Rel}{t:Term}(h:t∈z10 r):t.ht<r.ht∧t.sz<r.sz:=by
 have h2:=z17n r.aggs;have h3:=r.sz_eq;have h4:=z1vn r.aggs;have h5:htTs r.terms<r.ht∧htAs r.aggs<r.ht:=by cases r;grind[Rel.ht,Rel.terms_mk,Rel.aggs_mk]
 rcases yc.1 h with h|h
 ·exact⟨by have:=zbl h;omega,by have:=zjs h;omega⟩
 ·exact⟨by have:=zbl h;omega,by have:=zjs h;omega⟩
theorem z1hp(r:Rel)(hr:WS .rel r)(h:r.sz≤2000000):z10g r=some (zrk (z10 r)):=by
 have h3:=r.sz_eq;have hl:=z5v r.terms
 obtain⟨lp,_⟩:=z1n (e:=.exit 0) (L:=zgm) (st:=fun(n:List Term) i=>z9l r i n) (l:=r.aggs) (d:=zq) (g:=fun n a=>n++a.t) (fun i n=>n.length+szAs (r.aggs.drop i)≤2000000) (hr.rel_aggs).len
  (fun n i a hi ha hI=>by
   have hd:=zka (d:=zq) (show i<r.aggs.length by omega);rw[hd,ha]at hI;simp only[szAs]at hI;have h1:=a.sz_eq;have h2:=z5v a.t;rw[z10h];simp only[z8,hi,decide_true,if_true,and_true,y5,ha]
   grind[z6,zh])
  (fun n _=>by rw[z10h];simp[z8]) r.terms (by grind)
 rw[z1lt]at lp;rw[z1rr,z6 (by grind[zh])];refine(zg lp).trans ?_;rw[z1ck];rfl
def zrm:FnC Un:=fnF1 (dS .rel) fun r=>([r.sz≤2000000],zrk (z10 r))
theorem z10i:FnOK 75 zrm:=fnK1 zr (M:=z1dq) rfl trivial trivial trivial trivial trivial Tryz.func75 fun r=>GiF.r fun w o=>z1hp r (wfA_ w 0) (obA_ o 0)
def capI(n x:Int):Int:=List.foldl (fun a b=>if b<a then b else a) (IntKind.i64.wrap (n+x)) [(1048576:Int)]
def maxI(n x:Int):Int:=List.foldl (fun a b=>if a<b then b else a) n [x]
mutual
def zla:Term→Int
 | .mk op _ _ _ _ kids sub _=>zfl (zee (if op=2 then 1 else 0) kids) sub
def zee:Int→List Term→Int
 |n,[]=>n
 |n,t::l=>zee (capI n (zla t)) l
def z2eq:Int→Agg→Int
 |n,.mk _ _ t=>zee n t
def z1bu:Int→List Agg→Int
 |n,[]=>n
 |n,a::l=>z1bu (z2eq n a) l
def ztw:Rel→Int
 | .mk _ _ _ kids terms aggs _ _ _ _ _=>z1bu (zee (zfl 0 kids) terms) aggs
def zfl:Int→List Rel→Int
 |n,[]=>n
 |n,r::l=>zfl (capI n (ztw r)) l
end
theorem z6i:∀(l:List Term)(n:Int),l.foldl (fun n t=>capI n (zla t)) n=zee n l
 |[],n=>by rfl
 |t::l,n=>by rw[yt,z6i l,zee]
theorem zrn:∀(l:List Rel)(n:Int),l.foldl (fun n t=>capI n (ztw t)) n=zfl n l
 |[],n=>by rfl
 |t::l,n=>by rw[yt,zrn l,zfl]
theorem z17o:∀(l:List Agg)(n:Int),zee n (z8b l)=z1bu n l
 |[],n=>by rfl
 | .mk a b t::l,n=>by
  rw[z8b,z1bu,←z17o l,←z6i,y2c,z6i,z6i,z2eq,Agg.t_mk]
theorem z2er(t:Term):zla t=zfl (zee (if t.op=2 then 1 else 0) t.kids) t.sub:=by cases t;rfl
theorem z2b0(r:Rel):ztw r=zee (zfl 0 r.kids) (z10 r):=by
 unfold z10;rw[←z6i,y2c,z6i,z6i,z17o];cases r;rfl
def zfm(t:Term):Int:=zla t
def zlb(r:Rel):Int:=ztw r
theorem zlc{t k:Term}(h:k∈t.kids):k.sz<t.sz:=by have:=zjs h;have:=t.sz_eq;omega
theorem zld{t:Term}{k:Rel}(h:k∈t.sub):k.sz<t.sz:=by have:=z1hd h;have:=t.sz_eq;omega
theorem z9m{t k:Rel}(h:k∈t.kids):k.sz<t.sz:=by have:=z1hd h;have:=t.sz_eq;omega
def zle(m:Nat):FnC Un:=fnF1 (dS .term) fun t=>z2k (2*t.ht) m ([t.sz≤2000000],z2b (zfm t))
def zio(m:Nat):FnC Un:=fnF1 (dS .rel) fun r=>z2k (2*r.ht+1) m ([r.sz≤2000000],z2b (zlb r))
def zef(m:Nat):Mc Un:=mcF_ [(76,zle m),(133,zio m)] [] [] [] []
def zhx:Nat→NS:=nsF_ [(5,{ts:=bl 42 26,bs:=bl 42 2,nm:=[],cs:=true}),(9,{ts:=bl 42 42,bs:=bl 42 2,nm:=[],cs:=true})] true
def z7u(t:Term)(v0:Int)(v1:Int):S Un:=(st 42 42 168 0 [(1,ax 1),(3,ai v0),(4,ai v1)] [(1,bg .term t)] [])
def zc8(t:Term)(v0:Int)(v2:Int):S Un:=(st 42 42 168 0 [(1,ax 1),(3,ai v0),(5,ai v2)] [(1,bg .term t)] [])
def zc9(m:Nat):S Un→Option (EX Un):=lpF_ (zef m) zhx Tryz.f76 [1,1,1,0,1,2,2] 5
def zlf(m:Nat):S Un→Option (EX Un):=lpF_ (zef m) zhx Tryz.f76 [1,1,1,1,0,1,2,2] 9
def zlg(m:Nat):Exit→S Un→Option (RF Un):=cxF_ (zef m) zhx Tryz.f76 [1,1,1,0,1,2] [.d]
def z17p(m:Nat):Exit→S Un→Option (RF Un):=cxF_ (zef m) zhx Tryz.f76 [1,1,1,1,0,1,2] [.d]
def zux(m:Nat)(t:Term):Option (RF Un):=fnF_ (zef m) zhx Tryz.f76 0 [.d] [.d (.agg (enc Ty.term t))]
theorem z225(m:Nat)(t:Term):zux m t=cndO (t.op==2) ((zc9 m (z7u t (1:Int) (0:Int))).bind (zd (zlg m))) ((zc9 m (z7u t (0:Int) (0:Int))).bind (zd (zlg m))):=by kernel_rfl
theorem z17q(m:Nat)(t:Term)(v0:Int)(v1:Int):zc9 m (z7u t v0 v1)=cndO (decide (v1<(↑t.kids.length:Int))) (obO (0≤v1∧v1<(↑t.kids.length:Int)) (obO ((2:Nat)*(Term.ids (t.kids.getD v1.toNat zb)).ht<m) (obO ((Term.ids (t.kids.getD v1.toNat zb)).sz≤(2000000:Nat)) (zc9 m (z7u t (List.foldl (fun a b=>if b<a then b else a) (IntKind.i64.wrap (v0+zfm (Term.ids (t.kids.getD v1.toNat zb)))) [(1048576:Int)]) (IntKind.i64.wrap (v1+1))))))) (some (.exit 0,(z7u t v0 v1))):=lpQ_ (by kernel_rfl)
theorem z1lu(m:Nat)(t:Term)(v0:Int)(v1:Int):zlg m (.exit 0) (z7u t v0 v1)=(zlf m (zc8 t v0 (0:Int))).bind (zd (z17p m)):=by kernel_rfl
theorem z17r(m:Nat)(t:Term)(v0:Int)(v2:Int):zlf m (zc8 t v0 v2)=cndO (decide (v2<(↑t.sub.length:Int))) (obO (0≤v2∧v2<(↑t.sub.length:Int)) (obO ((2:Nat)*(Rel.ids (t.sub.getD v2.toNat za)).ht+(1:Nat)<m) (obO ((Rel.ids (t.sub.getD v2.toNat za)).sz≤(2000000:Nat)) (zlf m (zc8 t (List.foldl (fun a b=>if b<a then b else a) (IntKind.i64.wrap (v0+zlb (Rel.ids (t.sub.getD v2.toNat za)))) [(1048576:Int)]) (IntKind.i64.wrap (v2+1))))))) (some (.exit 2,(zc8 t v0 v2))):=lpQ_ (by kernel_rfl)
theorem z1lv(m:Nat)(t:Term)(v0:Int)(v2:Int):z17p m (.exit 2) (zc8 t v0 v2)=some (z2b (v0)):=by kernel_rfl
theorem z1rs(m:Nat)(t:Term)(ht:WS .term t)(hm:2*t.ht<m+1)(h:t.sz≤2000000):zux m t=some (z2b (zfm t)):=by
 obtain⟨lp,_⟩:=z1n (e:=.exit 0) (L:=zc9 m) (st:=fun(n:Int) i=>z7u t n i) (l:=t.kids) (d:=zb) (g:=fun n k=>capI n (zla k)) (fun _ _=>True) (ht.term_kids).len
  (fun n i k hi hk _=>by
   have hmem:k∈t.kids:=by grind
   have h1:=Term.ht_kid hmem;have h2:=zlc hmem;refine⟨trivial,?_⟩;rw[z17q];simp only[z8,hi,decide_true,if_true,and_true,y5,hk,Term.ids_eq];rw[z6 (by omega),z6 (by omega),z6 (by omega)]
   rfl)
  (fun n _=>by rw[z17q];simp[z8]) (if t.op=2 then 1 else 0) trivial
 rw[z6i]at lp
 obtain⟨lq,_⟩:=z1n (e:=.exit 2) (L:=zlf m) (st:=fun(n:Int) i=>zc8 t n i) (l:=t.sub) (d:=za) (g:=fun n k=>capI n (ztw k)) (fun _ _=>True) (ht.term_sub).len
  (fun n i k hi hk _=>by
   have hmem:k∈t.sub:=by grind
   have h1:=Term.ht_sub hmem;have h2:=zld hmem;refine⟨trivial,?_⟩;rw[z17r];simp only[z8,hi,decide_true,if_true,and_true,y5,hk,Rel.ids_eq];rw[z6 (by omega),z6 (by omega),z6 (by omega)]
   rfl)
  (fun n _=>by rw[z17r];simp[z8]) (zee (if t.op=2 then 1 else 0) t.kids) trivial
 rw[zrn]at lq;have e:zux m t=(zc9 m (z7u t (if t.op=2 then 1 else 0) (0:Int))).bind (zd (zlg m)):=by
  rw[z225,z8];grind
 grind[zg,trans,z1lu,z1lv,zfm,z2er]
abbrev z1hq(m:Nat):Prop:=FnOK 76 (zle m)∧FnOK 133 (zio m)
theorem z1xz(m:Nat)(hG:z1hq m):FnOK 76 (zle (m+1)):=fnK1 zr (M:=(zef m)) rfl ⟨hG.1,hG.2,trivial⟩ trivial trivial trivial trivial Tryz.func76 fun t=>GiF.r fun w o=>z1rs m t (wfA_ w 0) (obA_ o 0) (obA_ o 1)
def zca(m:Nat):Mc Un:=mcF_ [(133,zio m),(75,zrm),(76,zle m)] [] [] [] []
def zfn:Nat→NS:=nsF_ [(3,{ts:=bl 40 26,bs:=bl 40 2,nm:=[],cs:=true}),(8,{ts:=bl 40 104,bs:=bl 40 0,nm:=[],cs:=true})] true
def zal(r:Rel)(v0:Int)(v1:Int):S Un:=(st 40 40 160 0 [(1,ax 1),(3,ai v0),(4,ai v1)] [(1,bg .rel r)] [])
def zam(r:Rel)(v0:Int)(v2:Int):S Un:=(st 40 40 160 0 [(3,ai v0),(5,al .term (z10 (Rel.ids r))),(6,ai v2)] [] [])
def zip(m:Nat):S Un→Option (EX Un):=lpF_ (zca m) zfn Tryz.f133 [1,1,0,1,2,2] 3
def ziq(m:Nat):S Un→Option (EX Un):=lpF_ (zca m) zfn Tryz.f133 [1,1,1,1,0,1,2,2] 8
def z14k(m:Nat):Exit→S Un→Option (RF Un):=cxF_ (zca m) zfn Tryz.f133 [1,1,0,1,2] [.d]
def z14l(m:Nat):Exit→S Un→Option (RF Un):=cxF_ (zca m) zfn Tryz.f133 [1,1,1,1,0,1,2] [.d]
def z14m(m:Nat)(r:Rel):Option (RF Un):=fnF_ (zca m) zfn Tryz.f133 0 [.d] [.d (.agg (enc Ty.rel r))]
theorem z1y0(m:Nat)(r:Rel):z14m m r=(zip m (zal r (0:Int) (0:Int))).bind (zd (z14k m)):=by kernel_rfl
theorem z14n(m:Nat)(r:Rel)(v0:Int)(v1:Int):zip m (zal r v0 v1)=cndO (decide (v1<(↑r.kids.length:Int))) (obO (0≤v1∧v1<(↑r.kids.length:Int)) (obO ((2:Nat)*(Rel.ids (r.kids.getD v1.toNat za)).ht+(1:Nat)<m) (obO ((Rel.ids (r.kids.getD v1.toNat za)).sz≤(2000000:Nat)) (zip m (zal r (List.foldl (fun a b=>if b<a then b else a) (IntKind.i64.wrap (v0+zlb (Rel.ids (r.kids.getD v1.toNat za)))) [(1048576:Int)]) (IntKind.i64.wrap (v1+1))))))) (some (.exit 0,(zal r v0 v1))):=lpQ_ (by kernel_rfl)
theorem z1hr(m:Nat)(r:Rel)(v0:Int)(v1:Int):z14k m (.exit 0) (zal r v0 v1)=obO ((Rel.ids r).sz≤(2000000:Nat)) ((ziq m (zam r v0 (0:Int))).bind (zd (z14l m))):=by kernel_rfl
theorem z14o(m:Nat)(r:Rel)(v0:Int)(v2:Int):ziq m (zam r v0 v2)=cndO (decide (v2<(↑(z10 (Rel.ids r)).length:Int))) (obO (0≤v2∧v2<(↑(z10 (Rel.ids r)).length:Int)) (obO ((2:Nat)*(Term.ids ((z10 (Rel.ids r)).getD v2.toNat zb)).ht<m) (obO ((Term.ids ((z10 (Rel.ids r)).getD v2.toNat zb)).sz≤(2000000:Nat)) (ziq m (zam r (List.foldl (fun a b=>if b<a then b else a) (IntKind.i64.wrap (v0+zfm (Term.ids ((z10 (Rel.ids r)).getD v2.toNat zb)))) [(1048576:Int)]) (IntKind.i64.wrap (v2+1))))))) (some (.exit 2,(zam r v0 v2))):=lpQ_ (by kernel_rfl)
theorem z1hs(m:Nat)(r:Rel)(v0:Int)(v2:Int):z14l m (.exit 2) (zam r v0 v2)=some (z2b (v0)):=by kernel_rfl
theorem z1lw(m:Nat)(r:Rel)(hr:WS .rel r)(hm:2*r.ht+1<m+1)(h:r.sz≤2000000):z14m m r=some (z2b (zlb r)):=by
 obtain⟨lp,_⟩:=z1n (e:=.exit 0) (L:=zip m) (st:=fun(n:Int) i=>zal r n i) (l:=r.kids) (d:=za) (g:=fun n k=>capI n (ztw k)) (fun _ _=>True) (hr.rel_kids).len
  (fun n i k hi hk _=>by
   have hmem:k∈r.kids:=by grind
   have h1:=Rel.ht_kid hmem;have h2:=z9m hmem;refine⟨trivial,?_⟩;rw[z14n];simp only[z8,hi,decide_true,if_true,and_true,y5,hk,Rel.ids_eq];rw[z6 (by omega),z6 (by omega),z6 (by omega)]
   rfl)
  (fun n _=>by rw[z14n];simp[z8]) 0 trivial
 rw[zrn]at lp;have hlen:=zot r
 obtain⟨lq,_⟩:=z1n (e:=.exit 2) (L:=ziq m) (st:=fun(n:Int) i=>zam r n i) (l:=z10 r) (d:=zb) (g:=fun n k=>capI n (zla k)) (fun _ _=>True) (by omega)
  (fun n i k hi hk _=>by
   have hmem:k∈z10 r:=by grind
   obtain⟨h1,h2⟩:=z92 hmem;refine⟨trivial,?_⟩;rw[z14o];simp only[Rel.ids_eq,z8,hi,decide_true,if_true,and_true,y5,hk,Term.ids_eq];rw[z6 (by omega),z6 (by omega),z6 (by omega)]
   rfl)
  (fun n _=>by rw[z14o];simp[z8,Rel.ids_eq]) (zfl 0 r.kids) trivial
 rw[z6i]at lq;rw[z1y0];refine(zg lp).trans ?_;rw[z1hr,Rel.ids_eq,z6 h];grind[zg,trans,z1hs,zlb,z2b0]
theorem z1rt(m:Nat)(hG:z1hq m):FnOK 133 (zio (m+1)):=fnK1 zr (M:=(zca m)) rfl ⟨hG.2,z10i,hG.1,trivial⟩ trivial trivial trivial trivial Tryz.func133 fun r=>GiF.r fun w o=>z1lw m r (wfA_ w 0) (obA_ o 0) (obA_ o 1)
theorem zuy:∀m,z1hq m
 |0=>⟨fnZ1,fnZ1⟩
 |m+1=>⟨z1xz m (zuy m),z1rt m (zuy m)⟩
def z1eh:FnC Un:=fnF1 (dS .term) fun t=>([t.sz≤2000000],z2b (zfm t))
theorem z226:FnOK 76 z1eh:=fnA1 fun m=>(zuy m).1
def z2b1(n:Int)(l:List Term):Int:=l.foldl (fun n t=>maxI n (zla t)) n
def z2b2(op n most:Int):Int:=if op=4∨op=7 then List.foldl (fun a b=>if b<a then b else a) (IntKind.i64.wrap (n*List.foldl (fun a b=>if b<a then b else a) most [(1048576:Int)])) [(1048576:Int)]else n
mutual
def z136:Term→Int
 | .mk _ _ _ _ _ kids sub _=>zqn (zhy 1 kids) sub
def zhy:Int→List Term→Int
 |n,[]=>n
 |n,t::l=>zhy (maxI n (z136 t)) l
def z2k7:Int→Agg→Int
 |n,.mk _ _ t=>zhy n t
def z1lx:Int→List Agg→Int
 |n,[]=>n
 |n,a::l=>z1lx (z2k7 n a) l
def z1bv:Rel→Int
 | .mk op _ _ kids terms aggs _ _ _ _ _=>z2b2 op (z1lx (zhy (zqn 1 kids) terms) aggs) (z2b1 1 (terms++z8b aggs))
def zqn:Int→List Rel→Int
 |n,[]=>n
 |n,r::l=>zqn (maxI n (z1bv r)) l
end
theorem z7k:∀(l:List Term)(n:Int),l.foldl (fun n t=>maxI n (z136 t)) n=zhy n l
 |[],n=>by rfl
 |t::l,n=>by rw[yt,z7k l,zhy]
theorem zyv:∀(l:List Rel)(n:Int),l.foldl (fun n t=>maxI n (z1bv t)) n=zqn n l
 |[],n=>by rfl
 |t::l,n=>by rw[yt,zyv l,zqn]
theorem z1ei:∀(l:List Agg)(n:Int),zhy n (z8b l)=z1lx n l
 |[],n=>by rfl
 | .mk a b t::l,n=>by
  rw[z8b,z1lx,←z1ei l,←z7k,y2c,z7k,z7k,z2k7,Agg.t_mk]
theorem z2id(t:Term):z136 t=zqn (zhy 1 t.kids) t.sub:=by cases t;rfl
theorem z2ie(r:Rel):z1bv r=z2b2 r.op (zhy (zqn 1 r.kids) (z10 r)) (z2b1 1 (z10 r)):=by
 unfold z10;rw[←z7k,y2c,z7k,z7k,z1ei];cases r;rfl
theorem z1vo{α:Type}(f g:Int→α→Int):∀(l:List α)(a b:Int),l.foldl (fun(p:Int×Int) x=>(f p.1 x,g p.2 x)) (a,b)=(l.foldl f a,l.foldl g b)
 |[],_,_=>rfl
 |x::l,a,b=>by rw[yt,z1vo f g l];rfl
def zhz(t:Term):Int:=z136 t
def zd4(r:Rel):Int:=z1bv r
def zgn(m:Nat):FnC Un:=fnF1 (dS .term) fun t=>z2k (2*t.ht) m ([t.sz≤2000000],z2b (zhz t))
def zlh(m:Nat):FnC Un:=fnF1 (dS .rel) fun r=>z2k (2*r.ht+1) m ([r.sz≤2000000],z2b (zd4 r))
def zan(m:Nat):Mc Un:=mcF_ [(77,zgn m),(40,zlh m)] [] [] [] []
def zdy:Nat→NS:=nsF_ [(3,{ts:=bl 37 26,bs:=bl 37 2,nm:=[],cs:=true}),(7,{ts:=bl 37 42,bs:=bl 37 2,nm:=[],cs:=true})] true
def z9n(t:Term)(v0:Int)(v1:Int):S Un:=(st 37 37 148 0 [(1,ax 1),(3,ai v0),(4,ai v1)] [(1,bg .term t)] [])
def z9o(t:Term)(v0:Int)(v2:Int):S Un:=(st 37 37 148 0 [(1,ax 1),(3,ai v0),(5,ai v2)] [(1,bg .term t)] [])
def zgo(m:Nat):S Un→Option (EX Un):=lpF_ (zan m) zdy Tryz.f77 [1,1,0,1,2,2] 3
def zgp(m:Nat):S Un→Option (EX Un):=lpF_ (zan m) zdy Tryz.f77 [1,1,1,0,1,2,2] 7
def z10j(m:Nat):Exit→S Un→Option (RF Un):=cxF_ (zan m) zdy Tryz.f77 [1,1,0,1,2] [.d]
def z10k(m:Nat):Exit→S Un→Option (RF Un):=cxF_ (zan m) zdy Tryz.f77 [1,1,1,0,1,2] [.d]
def z10l(m:Nat)(t:Term):Option (RF Un):=fnF_ (zan m) zdy Tryz.f77 0 [.d] [.d (.agg (enc Ty.term t))]
theorem z1ru(m:Nat)(t:Term):z10l m t=(zgo m (z9n t (1:Int) (0:Int))).bind (zd (z10j m)):=by kernel_rfl
theorem z10m(m:Nat)(t:Term)(v0:Int)(v1:Int):zgo m (z9n t v0 v1)=cndO (decide (v1<(↑t.kids.length:Int))) (obO (0≤v1∧v1<(↑t.kids.length:Int)) (obO ((2:Nat)*(Term.ids (t.kids.getD v1.toNat zb)).ht<m) (obO ((Term.ids (t.kids.getD v1.toNat zb)).sz≤(2000000:Nat)) (zgo m (z9n t (List.foldl (fun a b=>if a<b then b else a) v0 [zhz (Term.ids (t.kids.getD v1.toNat zb))]) (IntKind.i64.wrap (v1+1))))))) (some (.exit 0,(z9n t v0 v1))):=lpQ_ (by kernel_rfl)
theorem z1cl(m:Nat)(t:Term)(v0:Int)(v1:Int):z10j m (.exit 0) (z9n t v0 v1)=(zgp m (z9o t v0 (0:Int))).bind (zd (z10k m)):=by kernel_rfl
theorem z10n(m:Nat)(t:Term)(v0:Int)(v2:Int):zgp m (z9o t v0 v2)=cndO (decide (v2<(↑t.sub.length:Int))) (obO (0≤v2∧v2<(↑t.sub.length:Int)) (obO ((2:Nat)*(Rel.ids (t.sub.getD v2.toNat za)).ht+(1:Nat)<m) (obO ((Rel.ids (t.sub.getD v2.toNat za)).sz≤(2000000:Nat)) (zgp m (z9o t (List.foldl (fun a b=>if a<b then b else a) v0 [zd4 (Rel.ids (t.sub.getD v2.toNat za))]) (IntKind.i64.wrap (v2+1))))))) (some (.exit 2,(z9o t v0 v2))):=lpQ_ (by kernel_rfl)
theorem z1cm(m:Nat)(t:Term)(v0:Int)(v2:Int):z10k m (.exit 2) (z9o t v0 v2)=some (z2b (v0)):=by kernel_rfl
theorem z1ht(m:Nat)(t:Term)(ht:WS .term t)(hm:2*t.ht<m+1)(h:t.sz≤2000000):z10l m t=some (z2b (zhz t)):=by
 obtain⟨lp,_⟩:=z1n (e:=.exit 0) (L:=zgo m) (st:=fun(n:Int) i=>z9n t n i) (l:=t.kids) (d:=zb) (g:=fun n k=>maxI n (z136 k)) (fun _ _=>True) (ht.term_kids).len
  (fun n i k hi hk _=>by
   have hmem:k∈t.kids:=by grind
   have h1:=Term.ht_kid hmem;have h2:=zlc hmem;refine⟨trivial,?_⟩;rw[z10m];simp only[z8,hi,decide_true,if_true,and_true,y5,hk,Term.ids_eq];rw[z6 (by omega),z6 (by omega),z6 (by omega)]
   rfl)
  (fun n _=>by rw[z10m];simp[z8]) 1 trivial
 rw[z7k]at lp
 obtain⟨lq,_⟩:=z1n (e:=.exit 2) (L:=zgp m) (st:=fun(n:Int) i=>z9o t n i) (l:=t.sub) (d:=za) (g:=fun n k=>maxI n (z1bv k)) (fun _ _=>True) (ht.term_sub).len
  (fun n i k hi hk _=>by
   have hmem:k∈t.sub:=by grind
   have h1:=Term.ht_sub hmem;have h2:=zld hmem;refine⟨trivial,?_⟩;rw[z10n];simp only[z8,hi,decide_true,if_true,and_true,y5,hk,Rel.ids_eq];rw[z6 (by omega),z6 (by omega),z6 (by omega)]
   rfl)
  (fun n _=>by rw[z10n];simp[z8]) (zhy 1 t.kids) trivial
 rw[zyv]at lq;rw[z1ru];grind[zg,trans,z1cl,z1cm,zhz,z2id]
abbrev z1hu(m:Nat):Prop:=FnOK 77 (zgn m)∧FnOK 40 (zlh m)
theorem z1ly(m:Nat)(hG:z1hu m):FnOK 77 (zgn (m+1)):=fnK1 zr (M:=(zan m)) rfl ⟨hG.1,hG.2,trivial⟩ trivial trivial trivial trivial Tryz.func77 fun t=>GiF.r fun w o=>z1ht m t (wfA_ w 0) (obA_ o 0) (obA_ o 1)
def zeh(m:Nat):Mc Un:=mcF_ [(40,zlh m),(75,zrm),(76,z1eh),(77,zgn m)] [] [] [] []
def zi0:Nat→NS:=nsF_ [(3,{ts:=bl 59 58,bs:=bl 59 2,nm:=[],cs:=true}),(8,{ts:=bl 59 218,bs:=bl 59 2,nm:=[],cs:=true})] true
def z5e(r:Rel):=z10 (Rel.mk r.op r.table r.cols r.kids r.terms r.aggs r.keys r.limit r.skip r.all r.rows)
def zcb(r:Rel)(v0:Int)(v1:Int):S Un:=(st 59 59 236 0 [(1,ax 1),(3,ai v0),(4,ai (1:Int)),(5,ai v1)] [(1,bg .rel r)] [])
def zcc(r:Rel)(v0:Int)(v2:Int)(v3:Int):S Un:=(st 59 59 236 0 [(1,ax 1),(3,ai v0),(4,ai v2),(6,al .term (z5e r)),(7,ai v3)] [(1,bg .rel r)] [])
def zli(m:Nat):S Un→Option (EX Un):=lpF_ (zeh m) zi0 Tryz.f40 [1,1,0,1,2,2] 3
def zlj(m:Nat):S Un→Option (EX Un):=lpF_ (zeh m) zi0 Tryz.f40 [1,1,1,1,0,1,2,2] 8
def z17s(m:Nat):Exit→S Un→Option (RF Un):=cxF_ (zeh m) zi0 Tryz.f40 [1,1,0,1,2] [.d]
def z17t(m:Nat):Exit→S Un→Option (RF Un):=cxF_ (zeh m) zi0 Tryz.f40 [1,1,1,1,0,1,2] [.d]
def z17u(m:Nat)(r:Rel):Option (RF Un):=fnF_ (zeh m) zi0 Tryz.f40 0 [.d] [.d (.agg (enc Ty.rel r))]
theorem z227(m:Nat)(r:Rel):z17u m r=(zli m (zcb r (1:Int) (0:Int))).bind (zd (z17s m)):=by kernel_rfl
theorem z17v(m:Nat)(r:Rel)(v0:Int)(v1:Int):zli m (zcb r v0 v1)=cndO (decide (v1<(↑r.kids.length:Int))) (obO (0≤v1∧v1<(↑r.kids.length:Int)) (obO ((2:Nat)*(Rel.ids (r.kids.getD v1.toNat za)).ht+(1:Nat)<m) (obO ((Rel.ids (r.kids.getD v1.toNat za)).sz≤(2000000:Nat)) (zli m (zcb r (List.foldl (fun a b=>if a<b then b else a) v0 [zd4 (Rel.ids (r.kids.getD v1.toNat za))]) (IntKind.i64.wrap (v1+1))))))) (some (.exit 0,(zcb r v0 v1))):=lpQ_ (by kernel_rfl)
theorem z1lz(m:Nat)(r:Rel)(v0:Int)(v1:Int):z17s m (.exit 0) (zcb r v0 v1)=obO ((Rel.ids r).sz≤(2000000:Nat)) ((zlj m (zcc r v0 (1:Int) (0:Int))).bind (zd (z17t m))):=by kernel_rfl
theorem z17w(m:Nat)(r:Rel)(v0:Int)(v2:Int)(v3:Int):zlj m (zcc r v0 v2 v3)=cndO (decide (v3<(↑(z5e r).length:Int))) (obO (0≤v3∧v3<(↑(z5e r).length:Int)) (obO ((Term.ids ((z5e r).getD v3.toNat zb)).sz≤(2000000:Nat)) (obO (0≤v3∧v3<(↑(z5e r).length:Int)) (obO ((2:Nat)*(Term.ids ((z5e r).getD v3.toNat zb)).ht<m) (obO ((Term.ids ((z5e r).getD v3.toNat zb)).sz≤(2000000:Nat)) (zlj m (zcc r (List.foldl (fun a b=>if a<b then b else a) v0 [zhz (Term.ids ((z5e r).getD v3.toNat zb))]) (List.foldl (fun a b=>if a<b then b else a) v2 [zfm (Term.ids ((z5e r).getD v3.toNat zb))]) (IntKind.i64.wrap (v3+1))))))))) (some (.exit 2,(zcc r v0 v2 v3))):=lpQ_ (by kernel_rfl)
theorem z1m0(m:Nat)(r:Rel)(v0:Int)(v2:Int)(v3:Int):z17t m (.exit 2) (zcc r v0 v2 v3)=cndO (r.op==4) (some (z2b (List.foldl (fun a b=>if b<a then b else a) (IntKind.i64.wrap (v0*List.foldl (fun a b=>if b<a then b else a) v2 [(1048576:Int)])) [(1048576:Int)]))) (cndO (r.op==7) (some (z2b (List.foldl (fun a b=>if b<a then b else a) (IntKind.i64.wrap (v0*List.foldl (fun a b=>if b<a then b else a) v2 [(1048576:Int)])) [(1048576:Int)]))) (some (z2b (v0)))):=by kernel_rfl
theorem z1rv(m:Nat)(r:Rel)(hr:WS .rel r)(hm:2*r.ht+1<m+1)(h:r.sz≤2000000):z17u m r=some (z2b (zd4 r)):=by
 obtain⟨lp,_⟩:=z1n (e:=.exit 0) (L:=zli m) (st:=fun(n:Int) i=>zcb r n i) (l:=r.kids) (d:=za) (g:=fun n k=>maxI n (z1bv k)) (fun _ _=>True) (hr.rel_kids).len
  (fun n i k hi hk _=>by
   have hmem:k∈r.kids:=by grind
   have h1:=Rel.ht_kid hmem;have h2:=z9m hmem;refine⟨trivial,?_⟩;rw[z17v];simp only[z8,hi,decide_true,if_true,and_true,y5,hk,Rel.ids_eq];rw[z6 (by omega),z6 (by omega),z6 (by omega)]
   rfl)
  (fun n _=>by rw[z17v];simp[z8]) 1 trivial
 rw[zyv]at lp;have hlen:=zot r;have hc:z5e r=z10 r:=by rfl
 obtain⟨lq,_⟩:=z1n (e:=.exit 2) (L:=zlj m) (st:=fun(n:Int×Int) i=>zcc r n.1 n.2 i) (l:=z10 r) (d:=zb) (g:=fun n k=>(maxI n.1 (z136 k),maxI n.2 (zla k))) (fun _ _=>True) (by omega)
  (fun n i k hi hk _=>by
   have hmem:k∈z10 r:=by grind
   obtain⟨h1,h2⟩:=z92 hmem;refine⟨trivial,?_⟩;rw[z17w];simp only[hc,z8,hi,decide_true,if_true,and_true,y5,hk,Term.ids_eq];rw[z6 (by omega),z6 (by omega),z6 (by omega),z6 (by omega),z6 (by omega)]
   rfl)
  (fun n _=>by grind[z17w,z8]) (zqn 1 r.kids,1) trivial
 rw[z1vo (fun n k=>maxI n (z136 k)) (fun n k=>maxI n (zla k)),z7k]at lq;rw[z227];refine(zg lp).trans ?_;rw[z1lz,Rel.ids_eq,z6 h];refine(zg lq).trans ?_;rw[z1m0,zd4,z2ie];unfold z2b2 z2b1;simp only[z8,beq_iff_eq];grind
theorem z1y1(m:Nat)(hG:z1hu m):FnOK 40 (zlh (m+1)):=fnK1 zr (M:=(zeh m)) rfl ⟨hG.2,z10i,z226,hG.1,trivial⟩ trivial trivial trivial trivial Tryz.func40 fun r=>GiF.r fun w o=>z1rv m r (wfA_ w 0) (obA_ o 0) (obA_ o 1)
theorem zuz:∀m,z1hu m
 |0=>⟨fnZ1,fnZ1⟩
 |m+1=>⟨z1ly m (zuz m),z1y1 m (zuz m)⟩
def z1ej:FnC Un:=fnF1 (dS .rel) fun r=>([r.sz≤2000000],z2b (zd4 r))
theorem z228:FnOK 40 z1ej:=fnA1 fun m=>(zuz m).2
end
end B
end Go.Proofs.YtjfpbchdcbhfgaaGreat
