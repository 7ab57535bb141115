/- Part 10 of the proof: Slight7 Slight8 Lnla Lscalar Lcompare Slcmp Svcmp Svord. -/
import Derived.Lib.Bytealg
import Derived.Lib.Strings
import Derived.Lib.Walk
import Derived.Test.YtjfpbchdcbhfgaaGreatNgr9
set_option linter.unusedVariables false
set_option linter.unusedSimpArgs false
namespace Go.Proofs.YtjfpbchdcbhfgaaGreat
namespace B
open Go Go.RowKit
set_option maxRecDepth 100000
noncomputable section
attribute [local irreducible] awp ctxK zx z1f retQ z1l awf ctxF z1k
mutual
def tyT:Term→Prop
 | .mk op _ depth at_ _ kids sub _=>(op=2→0≤depth∧0≤at_)∧tyTs kids∧tyRs sub
def tyTs:List Term→Prop
 |[]=>True
 |t::l=>tyT t∧tyTs l
def tyA:Agg→Prop
 | .mk _ _ t=>tyTs t
def tyAs:List Agg→Prop
 |[]=>True
 |a::l=>tyA a∧tyAs l
def tyR:Rel→Prop
 | .mk op _ _ kids terms aggs _ _ _ _ _=>((op=9∨op=10∨op=11)→2≤kids.length)∧tyRs kids∧tyTs terms∧tyAs aggs
def tyRs:List Rel→Prop
 |[]=>True
 |r::l=>tyR r∧tyRs l
end
theorem z2bx(t:Term):tyT t↔((t.op=2→0≤t.depth∧0≤t.at_)∧tyTs t.kids∧tyRs t.sub):=by cases t;rfl
theorem z2by(r:Rel):tyR r↔(((r.op=9∨r.op=10∨r.op=11)→2≤r.kids.length)∧tyRs r.kids∧tyTs r.terms∧tyAs r.aggs):=by cases r;rfl
theorem z2bz(a:Agg):tyA a↔tyTs a.t:=by cases a;rfl
theorem z11z:∀{l:List Term},tyTs l→∀t∈l,tyT t
 |x::l,h,t,ht=>by
  rcases yf.1 ht with rfl|ht
  ·exact h.1
  ·exact z11z h.2 t ht
theorem z1gc:∀{l:List Rel},tyRs l→∀t∈l,tyR t
 |x::l,h,t,ht=>by
  rcases yf.1 ht with rfl|ht
  ·exact h.1
  ·exact z1gc h.2 t ht
theorem z1zr:∀{l:List Agg},tyAs l→∀a∈l,tyA a
 |x::l,h,t,ht=>by
  rcases yf.1 ht with rfl|ht
  ·exact h.1
  ·exact z1zr h.2 t ht
noncomputable def endT(t:Term)(env:List (List Int))(l:List Int):Bool:=
 if t.op=1 then t.v.kind==0||t.v.kind==t.type
 else if t.op=2 then decide (t.depth<(env.length:Int))&&(decide (t.at_<((env.getD t.depth.toNat []).length:Int))&&(env.getD t.depth.toNat []).getD t.at_.toNat 0==t.type)
 else if t.op=24 then(zmw t.name l).2 ==0&&(zmw t.name l).1 ==t.type
 else if t.op=27 then t.type==1
 else if t.op=26 then(t.sub.length:Int)==1&&(((Rel.cols (t.sub.getD 0 za)).length:Int)==1&&((Rel.cols (t.sub.getD 0 za)).getD 0 z43).type ==t.type)
 else if t.op=28 then(t.sub.length:Int)==1&&(((Rel.cols (t.sub.getD 0 za)).length:Int)==1&&((l.length:Int)==1&&((z5u (l.getD 0 0) ((Rel.cols (t.sub.getD 0 za)).getD 0 z43).type).2 &&t.type==1)))
 else(zzc t.op l).2 ==0&&(zzc t.op l).1 ==t.type
noncomputable def endR(r:Rel):Bool:=(zfh r).2 &&zvf (zfh r).1 (z1i r.cols)
mutual
noncomputable def tydT:Term→List (List Int)→Bool
 | .mk op v depth at_ name kids sub type,env=>z1a8 kids env&&z1l4 sub env&&endT (.mk op v depth at_ name kids sub type) env (kids.map Term.type)
noncomputable def z1a8:List Term→List (List Int)→Bool
 |[],_=>true
 |t::l,env=>tydT t env&&z1a8 l env
noncomputable def tydA:Agg→List (List Int)→Bool
 | .mk _ _ t,env=>z1a8 t env
noncomputable def z1xd:List Agg→List (List Int)→Bool
 |[],_=>true
 |a::l,env=>tydA a env&&z1xd l env
noncomputable def tydR:Rel→List (List Int)→Bool
 | .mk op table cols kids terms aggs keys limit skip all rows,env=>z1l4 kids env&&(rows.all (fun x=>z8m x cols)&&(z1a8 terms (z2b (.mk op table cols kids terms aggs keys limit skip all rows)::env)&&(z1xd aggs (z2b (.mk op table cols kids terms aggs keys limit skip all rows)::env)&&endR (.mk op table cols kids terms aggs keys limit skip all rows))))
noncomputable def z1l4:List Rel→List (List Int)→Bool
 |[],_=>true
 |r::l,env=>tydR r env&&z1l4 l env
end
theorem zvh(env:List (List Int)):∀l:List Term,z1a8 l env=l.all fun t=>tydT t env
 |[]=>rfl
 |t::l=>by simp only[z1a8,y1i,zvh env l]
theorem z178(env:List (List Int)):∀l:List Rel,z1l4 l env=l.all fun t=>tydR t env
 |[]=>rfl
 |t::l=>by simp only[z1l4,y1i,z178 env l]
theorem z1tg(env:List (List Int)):∀l:List Agg,z1xd l env=l.all fun a=>a.t.all fun t=>tydT t env
 |[]=>rfl
 | .mk _ _ t::l=>by simp only[z1xd,tydA,y1i,z1tg env l,zvh,Agg.t_mk]
theorem z2hr(t:Term)(env:List (List Int)):tydT t env=(t.kids.all (fun k=>tydT k env)&&t.sub.all (fun k=>tydR k env)&&endT t env (t.kids.map Term.type)):=by cases t;simp only[tydT,zvh,z178,Term.kids_mk,Term.sub_mk]
theorem z2hs(r:Rel)(env:List (List Int)):tydR r env=(r.kids.all (fun k=>tydR k env)&&(r.rows.all (fun x=>z8m x r.cols)&&(r.terms.all (fun t=>tydT t (z2b r::env))&&(r.aggs.all (fun a=>a.t.all fun t=>tydT t (z2b r::env))&&endR r)))):=by
 cases r;simp only[tydR,zvh,z178,z1tg,Rel.kids_mk,Rel.terms_mk,Rel.aggs_mk,Rel.rows_mk,Rel.cols_mk]
noncomputable def zb6(t:Term)(env:List (List Int)):Bool:=tydT t env
noncomputable def z98(r:Rel)(env:List (List Int)):Bool:=tydR r env
def zld(m:Nat):FnC Un:=fnF2 (dS .term) (dL .ints) fun t env=>z2m (2*t.ht) m ([t.sz≤2000000,clT t≤2000000000,tyT t,env.length+t.ht≤8000000],z8z (zb6 t env))
def zle(m:Nat):FnC Un:=fnF2 (dS .rel) (dL .ints) fun r env=>z2m (2*r.ht+1) m ([r.sz≤2000000,clR r≤2000000000,tyR r,env.length+r.ht≤8000000],z8z (z98 r env))
def ze9(m:Nat):Mc Un:=mcF_ [(24,zld m),(42,zle m),(60,z1kv),(61,zs0),(62,z1zl)] [] [] [] []
def zho:Nat→NS:=nsF_ [(3,{ts:=bl 198 118,bs:=bl 198 4,nm:=[(.sl 5,792)],cs:=true}),(9,{ts:=bl 198 182,bs:=bl 198 4,nm:=[(.sl 5,793)],cs:=true})] true
def z7w(t:Term)(env:List (List Int))(v0:Int)(v1:List Int):S Un:=(st 198 198 794 0 [(1,al .ints env),(2,ax 2),(4,ab false),(5,ao 792),(6,ai v0)] [(2,bg .term t)] [(792,some ⟨(0:Nat),Ty.int,v1,some (0:Nat),true⟩)])
def z6l(t:Term)(env:List (List Int))(v1:List Int)(v2:Int):S Un:=(st 198 198 794 0 [(1,al .ints env),(2,ax 2),(4,ab false),(5,ao 793),(7,ai v2)] [(2,bg .term t)] [(793,some ⟨(0:Nat),Ty.int,v1,some (0:Nat),true⟩)])
def zlf(m:Nat):S Un→Option (EX Un):=lpF_ (ze9 m) zho Tryz.f24 [1,1,0,1,2,2] 3
def zlg(m:Nat):S Un→Option (EX Un):=lpF_ (ze9 m) zho Tryz.f24 [1,1,1,0,1,2,2] 9
def zlh(m:Nat):Exit→S Un→Option (RF Un):=cxF_ (ze9 m) zho Tryz.f24 [1,1,0,1,2] [.d]
def zfi(m:Nat):Exit→S Un→Option (RF Un):=cxF_ (ze9 m) zho Tryz.f24 [1,1,1,0,1,2] [.d]
def z179(m:Nat)(t:Term)(env:List (List Int)):Option (RF Un):=fnF_ (ze9 m) zho Tryz.f24 2 [.d] [.d (.agg (enc Ty.term t)),.d (.v (.dat (U:=Un) Ty.ints env))]
theorem z1zs(m:Nat)(t:Term)(env:List (List Int)):z179 m t env=(zlf m (z7w t env (0:Int) ([]))).bind (ze (zlh m)):=by kernel_rfl
theorem z17a(m:Nat)(t:Term)(env:List (List Int))(v0:Int)(v1:List Int):zlf m (z7w t env v0 v1)=cndO (decide (v0<(↑t.kids.length:Int))) (obO (0≤v0∧v0<(↑t.kids.length:Int)) (obO ((2:Nat)*(Term.ids (t.kids.getD v0.toNat zb)).ht<m) (obO ((Term.ids (t.kids.getD v0.toNat zb)).sz≤(2000000:Nat)) (obO (clT (Term.ids (t.kids.getD v0.toNat zb))≤(2000000000:Nat)) (obO (tyT (Term.ids (t.kids.getD v0.toNat zb))) (obO (env.length+(Term.ids (t.kids.getD v0.toNat zb)).ht≤(8000000:Nat)) (cndO (!zb6 (Term.ids (t.kids.getD v0.toNat zb)) env) (some (.ret,(z7w t env v0 v1))) (obO (0≤v0∧v0<(↑t.kids.length:Int)) (obO ((v1.length+[Term.type (t.kids.getD v0.toNat zb)].length)*(8:Nat)≤zi) (zlf m (z7w t env (IntKind.i64.wrap (v0+1)) (v1++[Term.type (t.kids.getD v0.toNat zb)])))))))))))) (some (.exit 0,(z7w t env v0 v1))):=lpQ_ (by kernel_rfl)
theorem z1gd(m:Nat)(t:Term)(env:List (List Int))(v0:Int)(v1:List Int):zlh m .ret (z7w t env v0 v1)=some (z8z (false)):=by kernel_rfl
theorem z1l5(m:Nat)(t:Term)(env:List (List Int))(v0:Int)(v1:List Int):zlh m (.exit 0) (z7w t env v0 v1)=(zlg m (z6l t env v1 (0:Int))).bind (ze (zfi m)):=by kernel_rfl
theorem z17b(m:Nat)(t:Term)(env:List (List Int))(v1:List Int)(v2:Int):zlg m (z6l t env v1 v2)=cndO (decide (v2<(↑t.sub.length:Int))) (obO (0≤v2∧v2<(↑t.sub.length:Int)) (obO ((2:Nat)*(Rel.ids (t.sub.getD v2.toNat za)).ht+(1:Nat)<m) (obO ((Rel.ids (t.sub.getD v2.toNat za)).sz≤(2000000:Nat)) (obO (clR (Rel.ids (t.sub.getD v2.toNat za))≤(2000000000:Nat)) (obO (tyR (Rel.ids (t.sub.getD v2.toNat za))) (obO (env.length+(Rel.ids (t.sub.getD v2.toNat za)).ht≤(8000000:Nat)) (cndO (!z98 (Rel.ids (t.sub.getD v2.toNat za)) env) (some (.ret,(z6l t env v1 v2))) (zlg m (z6l t env v1 (IntKind.i64.wrap (v2+1))))))))))) (some (.exit 2,(z6l t env v1 v2))):=lpQ_ (by kernel_rfl)
theorem z1ge(m:Nat)(t:Term)(env:List (List Int))(v1:List Int)(v2:Int):zfi m .ret (z6l t env v1 v2)=some (z8z (false)):=by kernel_rfl
theorem z1l6(m:Nat)(t:Term)(env:List (List Int))(v1:List Int)(v2:Int):zfi m (.exit 2) (z6l t env v1 v2)=cndO (t.op==1) (cndO (t.v.kind==0) (some (z8z (true))) (some (z8z (t.v.kind==t.type)))) (cndO (t.op==2) (cndO (decide (t.depth<(↑env.length:Int))) (obO (0≤t.depth∧t.depth<(↑env.length:Int)) (cndO (decide (t.at_<(↑(List.length (env.getD t.depth.toNat [])):Int))) (obO (0≤t.depth∧t.depth<(↑env.length:Int)) (obO (0≤t.at_∧t.at_<(↑(List.length (env.getD t.depth.toNat [])):Int)) (some (z8z (List.getD (env.getD t.depth.toNat []) t.at_.toNat (0:Int)==t.type))))) (some (z8z (false))))) (some (z8z (false)))) (cndO (t.op==24) (cndO ((zmw t.name v1).snd ==0) (some (z8z ((zmw t.name v1).fst ==t.type))) (some (z8z (false)))) (cndO (t.op==27) (some (z8z (t.type==1))) (cndO (t.op==26) (cndO ((↑t.sub.length:Int)==(1:Int)) (obO ((0:Int)≤(0:Int)∧(0:Int)<(↑t.sub.length:Int)) (cndO ((↑(Rel.cols (t.sub.getD 0 za)).length:Int)==(1:Int)) (obO ((0:Int)≤(0:Int)∧(0:Int)<(↑t.sub.length:Int)) (obO ((0:Int)≤(0:Int)∧(0:Int)<(↑(Rel.cols (t.sub.getD 0 za)).length:Int)) (some (z8z (((Rel.cols (t.sub.getD 0 za)).getD 0 z43).type ==t.type))))) (some (z8z (false))))) (some (z8z (false)))) (cndO (t.op==28) (cndO ((↑t.sub.length:Int) !=(1:Int)) (some (z8z (false))) (obO ((0:Int)≤(0:Int)∧(0:Int)<(↑t.sub.length:Int)) (cndO ((↑(Rel.cols (t.sub.getD 0 za)).length:Int) !=(1:Int)) (some (z8z (false))) (cndO ((↑v1.length:Int) !=(1:Int)) (some (z8z (false))) (obO ((0:Int)≤(0:Int)∧(0:Int)<(↑v1.length:Int)) (obO ((0:Int)≤(0:Int)∧(0:Int)<(↑t.sub.length:Int)) (obO ((0:Int)≤(0:Int)∧(0:Int)<(↑(Rel.cols (t.sub.getD 0 za)).length:Int)) (cndO ((z5u (v1.getD 0 (0:Int)) ((Rel.cols (t.sub.getD 0 za)).getD 0 z43).type).snd) (some (z8z (t.type==1))) (some (z8z (false))))))))))) (obO (v1.length≤(2000000:Nat)) (cndO ((zzc t.op v1).snd ==0) (some (z8z ((zzc t.op v1).fst ==t.type))) (some (z8z (false)))))))))):=by kernel_rfl
theorem zvi{α β:Type}{L:S Un→Option (EX Un)}{st:Int→S Un}{C:Exit→S Un→Option β}(R:Bool→Option β){l:List α}{d:α}{e:Exit}(q:α→Bool)(hl:l.length≤9223372036854775807)
  (step:∀(i:Nat)(x:α),(i:Int)<(l.length:Int)→l.getD i d=x→x∈l→L (st i)=if q x=true then L (st (IntKind.i64.wrap ((i:Int)+1)))else some (.ret,st i))
  (stop:L (st (l.length:Int))=some (e,st (l.length:Int)))(r1:∀i:Int,C .ret (st i)=R false)(r2:C e (st (l.length:Int))=R true):(L (st 0)).bind (ze C)=R (l.all q):=by
 have key:∀(k i:Nat),i+k=l.length→(L (st i)).bind (ze C)=R ((l.drop i).all q):=by
  intro k
  induction k with
  |zero=>
   intro i hi;obtain rfl:i=l.length:=by omega
   rw[stop,y49];exact r2
  |succ k ih=>
   intro i hi;have hlt:i<l.length:=by omega
   rw[step i l[i] (by omega) (by rw[yd,y9 hlt];rfl) (y21 hlt),y1u hlt,y1i];cases hq:q l[i]
   ·rw[if_neg (by decide)];exact r1 _
   ·rw[if_pos rfl,z1u (by omega),y1c];exact ih (i+1) (by omega)
 exact key l.length 0 (by omega)
theorem z9p{R:Bool→RF Un}{a x:Bool}{X:Option (RF Un)}(h:a=true→X=some (R x)):cndO a X (some (R false))=some (R (a&&x)):=by
 cases a
 ·rfl
 ·exact h rfl
theorem z2jj{R:Bool→RF Un}{a x:Bool}{X:Option (RF Un)}(h:a=false→X=some (R x)):cndO a (some (R true)) X=some (R (a||x)):=by
 cases a
 ·exact h rfl
 ·rfl
theorem z120{R:Bool→RF Un}{a b x:Bool}{X:Option (RF Un)}(e:a=!b)(h:b=true→X=some (R x)):cndO a (some (R false)) X=some (R (b&&x)):=by
 subst e;cases b
 ·rfl
 ·exact h rfl
theorem zzd{R:Bool→RF Un}{a:Bool}{p:Prop}[Decidable p]{x y:Bool}{X Y:Option (RF Un)}(e:(a=true)↔p)(hx:p→X=some (R x))(hy:Y=some (R y)):cndO a X Y=some (R (if p then x else y)):=by
 cases a
 ·rw[if_neg (fun c=>Bool.false_ne_true (e.2 c))];exact hy
 ·rw[if_pos (e.1 rfl)];exact hx (e.1 rfl)
theorem z2ht(m:Nat)(t:Term)(env:List (List Int))(l:List Int)(i:Int)(h:l.length≤2000000)(hy:t.op=2→0≤t.depth∧0≤t.at_):zfi m (.exit 2) (z6l t env l i)=some (z8z (endT t env l)):=by
 rw[z1l6];unfold endT;have q:∀k:Int,((t.op==k)=true)↔t.op=k:=fun k=>beq_iff_eq;refine zzd (q 1) (fun _=>z2jj fun _=>rfl) (zzd (q 2) (fun c=>?_) (zzd (q 24) (fun _=>z9p fun _=>rfl) (zzd (q 27) (fun _=>rfl) (zzd (q 26) (fun _=>z9p fun c=>?_) (zzd (q 28) (fun _=>z120 rfl fun c=>?_) ?_)))))
 ·refine z9p fun c1=>?_;rw[decide_eq_true_eq]at c1;rw[z6 ⟨(hy c).1,c1⟩];refine z9p fun c2=>?_;rw[decide_eq_true_eq]at c2;rw[z6 ⟨(hy c).1,c1⟩,z6 ⟨(hy c).2,c2⟩]
 ·rw[beq_iff_eq]at c;rw[z6 (by omega)];refine z9p fun c2=>?_;rw[beq_iff_eq]at c2;rw[z6 (by omega),z6 (by omega)]
 ·rw[beq_iff_eq]at c;rw[z6 (by omega)];refine z120 rfl fun c2=>z120 rfl fun c3=>?_;rw[beq_iff_eq]at c2 c3;rw[z6 (by omega),z6 (by omega),z6 (by omega)];exact z9p fun _=>rfl
 ·rw[z6 h];exact z9p fun _=>rfl
theorem z1q4(m:Nat)(t:Term)(env:List (List Int))(ht:WS .term t)(_he:WL .ints env)(hm:2*t.ht<m+1)(h:t.sz≤2000000)(hc:clT t≤2000000000)(hy:tyT t)(hl:env.length+t.ht≤8000000):z179 m t env=some (z8z (zb6 t env)):=by
 obtain⟨y1,y2,y3⟩:=(z2bx t).1 hy;have c0:=z1zq t;have h3:=t.sz_eq;have hkl:=z5t t.kids
 have l2:=zvi (L:=zlg m) (st:=fun i=>z6l t env (t.kids.map Term.type) i) (C:=zfi m) (e:=.exit 2) (fun b=>some (z8z (b&&endT t env (t.kids.map Term.type)))) (l:=t.sub) (d:=za) (fun r=>tydR r env) (ht.term_sub).len
  (fun i k hi hk hmem=>by
   have h1:=Term.ht_sub hmem;have h2:=zkk hmem;have h4:=zfd hmem;rw[z17b];simp only[z8,hi,decide_true,if_true,and_true,y5,hk,Rel.ids_eq];rw[z6 (by omega),z6 (by omega),z6 (by omega),z6 (by omega),z6 (z1gc y3 k hmem),z6 (by omega)];unfold z98
   cases tydR k env<;>rfl)
  (by rw[z17b];simp[z8]) (fun i=>by rw[y1v];exact z1ge _ _ _ _ _)
  (by rw[y1c];exact z2ht m t env _ _ (by rw[yq];omega) y1)
 rw[z1zs,zb6,z2hr,y3o]
 exact zvi (L:=zlf m) (st:=fun i=>z7w t env i ((t.kids.take i.toNat).map Term.type)) (C:=zlh m) (e:=.exit 0) (fun b=>some (z8z (b&&(t.sub.all (fun r=>tydR r env)&&endT t env (t.kids.map Term.type))))) (l:=t.kids) (d:=zb) (fun t=>tydT t env) (ht.term_kids).len
  (fun i k hi hk hmem=>by
   have h1:=Term.ht_kid hmem;have h2:=zkj hmem;have h4:=zja hmem;have hil:i<t.kids.length:=by omega
   have e:(t.kids.take (i+1)).map Term.type=(t.kids.take i).map Term.type++[k.type]:=by
    rw[y3c,y3d,←hk,yd,y9 hil];rfl
   rw[z17a,z3s hil (ht.term_kids).len];simp only[z8,hi,decide_true,if_true,and_true,y5,hk,Term.ids_eq];rw[z6 (by omega),z6 (by omega),z6 (by omega),z6 (by omega),z6 (z11z y2 k hmem),z6 (by omega),z6 (by omega),z6 (by unfold zi;rw[yq,yw,yg];omega),←e];unfold zb6
   cases tydT k env<;>rfl)
  (by rw[z17a];simp[z8]) (fun i=>by rw[y1v];exact z1gd _ _ _ _ _) (by
   rw[y1c,z1l5,y5,y36]
   exact l2)
abbrev z1gf(m:Nat):Prop:=FnOK 24 (zld m)∧FnOK 42 (zle m)
theorem z1vv(m:Nat)(hG:z1gf m):FnOK 24 (zld (m+1)):=fnK2 zr z11 (M:=(ze9 m)) rfl ⟨hG.1,hG.2,z24e,zxi,z2bs,trivial⟩ trivial trivial trivial trivial Tryz.func24 fun t env=>GiF.r fun w o=>z1q4 m t env (wfA_ w 0) (wfA_ w 1) (obA_ o 0) (obA_ o 1) (obA_ o 2) (obA_ o 3) (obA_ o 4)
def z4w(m:Nat):Mc Un:=mcF_ [(42,zle m),(79,z1g2),(80,zxr),(24,zld m),(81,z1l3),(25,zoi),(31,z1dg)] [] [] [] []
def z3p:Nat→NS:=nsF_ [(2,{ts:=bl 107 54,bs:=bl 107 4,nm:=[],cs:=true}),(7,{ts:=bl 107 86,bs:=bl 107 4,nm:=[],cs:=true}),(13,{ts:=bl 107 404,bs:=bl 107 4,nm:=[(.sl 7,428)],cs:=true}),(18,{ts:=bl 107 660,bs:=bl 107 4,nm:=[(.sl 7,429)],cs:=true}),(21,{ts:=bl 107 1684,bs:=bl 107 4,nm:=[(.sl 7,430)],cs:=true})] true
def zli(r:Rel):=zfh (Rel.mk r.op r.table r.cols r.kids r.terms r.aggs r.keys r.limit r.skip r.all r.rows)
def z7x(r:Rel)(env:List (List Int))(v0:Int):S Un:=(st 107 107 431 0 [(1,al .ints env),(2,ax 2),(4,ab false),(5,ai v0)] [(2,bg .rel r)] [])
def z7y(r:Rel)(env:List (List Int))(v1:Int):S Un:=(st 107 107 431 0 [(1,al .ints env),(2,ax 2),(4,ab false),(6,ai v1)] [(2,bg .rel r)] [])
def z6w(r:Rel)(env:List (List Int))(v2:Int):S Un:=(st 107 107 431 0 [(2,ax 2),(4,ab false),(7,ao 428),(8,ai v2)] [(2,bg .rel r)] [(428,some ⟨(0:Nat),Ty.ints,z2b (Rel.ids r)::env,some (0:Nat),true⟩)])
def z4x(r:Rel)(env:List (List Int))(v3:Int):S Un:=(st 107 107 431 0 [(2,ax 2),(4,ab false),(7,ao 429),(9,ai v3)] [(2,bg .rel r)] [(429,some ⟨(0:Nat),Ty.ints,z2b (Rel.ids r)::env,some (0:Nat),true⟩)])
def z6x(r:Rel)(env:List (List Int))(v3:Int)(v4:Int):S Un:=(st 107 107 431 0 [(2,ax 2),(4,ab false),(7,ao 430),(9,ai v3),(10,ai v4)] [(2,bg .rel r)] [(430,some ⟨(0:Nat),Ty.ints,z2b (Rel.ids r)::env,some (0:Nat),true⟩)])
def zlj(m:Nat):S Un→Option (EX Un):=lpF_ (z4w m) z3p Tryz.f42 [1,0,1,2,2] 2
def zlk(m:Nat):S Un→Option (EX Un):=lpF_ (z4w m) z3p Tryz.f42 [1,1,0,1,2,2] 7
def zif(m:Nat):S Un→Option (EX Un):=lpF_ (z4w m) z3p Tryz.f42 [1,1,1,1,0,1,2,2] 13
def zar(m:Nat):S Un→Option (EX Un):=lpF_ (z4w m) z3p Tryz.f42 [1,1,1,1,1,0,1,2,2] 18
noncomputable def z13k:Code:=sub (sub (zk Tryz.f42) [1,1,1,1,1,0,1,2,2]) [1,0,2,1,2,2]
def zig(m:Nat):S Un→Option (EX Un):=z1k (z3p 21) (fun s Q=>awf (z4w m) z3p z13k s Q)
def zll(m:Nat):Exit→S Un→Option (RF Un):=cxF_ (z4w m) z3p Tryz.f42 [1,0,1,2] [.d]
def zlm(m:Nat):Exit→S Un→Option (RF Un):=cxF_ (z4w m) z3p Tryz.f42 [1,1,0,1,2] [.d]
def zih(m:Nat):Exit→S Un→Option (RF Un):=cxF_ (z4w m) z3p Tryz.f42 [1,1,1,1,0,1,2] [.d]
def zii(m:Nat):Exit→S Un→Option (RF Un):=cxF_ (z4w m) z3p Tryz.f42 [1,1,1,1,1,0,1,2] [.d]
def zij(m:Nat):Exit→S Un→Option (EX Un):=ctxF (z4w m) z3p (sub (zk Tryz.f42) [1,1,1,1,1,0,1,2,2]) [1,0,2,1,2] (zc3 (z3p 18) (zar m))
def z17c(m:Nat)(r:Rel)(env:List (List Int)):Option (RF Un):=fnF_ (z4w m) z3p Tryz.f42 3 [.d] [.d (.agg (enc Ty.rel r)),.d (.v (.dat (U:=Un) Ty.ints env))]
theorem z1zt(m:Nat)(r:Rel)(env:List (List Int)):z17c m r env=(zlj m (z7x r env (0:Int))).bind (ze (zll m)):=by kernel_rfl
theorem z17d(m:Nat)(r:Rel)(env:List (List Int))(v0:Int):zlj m (z7x r env v0)=cndO (decide (v0<(↑r.kids.length:Int))) (obO (0≤v0∧v0<(↑r.kids.length:Int)) (obO ((2:Nat)*(Rel.ids (r.kids.getD v0.toNat za)).ht+(1:Nat)<m) (obO ((Rel.ids (r.kids.getD v0.toNat za)).sz≤(2000000:Nat)) (obO (clR (Rel.ids (r.kids.getD v0.toNat za))≤(2000000000:Nat)) (obO (tyR (Rel.ids (r.kids.getD v0.toNat za))) (obO (env.length+(Rel.ids (r.kids.getD v0.toNat za)).ht≤(8000000:Nat)) (cndO (!z98 (Rel.ids (r.kids.getD v0.toNat za)) env) (some (.ret,(z7x r env v0))) (zlj m (z7x r env (IntKind.i64.wrap (v0+1))))))))))) (some (.exit 0,(z7x r env v0))):=lpQ_ (by kernel_rfl)
theorem z1gg(m:Nat)(r:Rel)(env:List (List Int))(v0:Int):zll m .ret (z7x r env v0)=some (z8z (false)):=by kernel_rfl
theorem z1l7(m:Nat)(r:Rel)(env:List (List Int))(v0:Int):zll m (.exit 0) (z7x r env v0)=(zlk m (z7y r env (0:Int))).bind (ze (zlm m)):=by kernel_rfl
theorem z17e(m:Nat)(r:Rel)(env:List (List Int))(v1:Int):zlk m (z7y r env v1)=cndO (decide (v1<(↑r.rows.length:Int))) (obO (0≤v1∧v1<(↑r.rows.length:Int)) (cndO (!z8m (r.rows.getD v1.toNat []) r.cols) (some (.ret,(z7y r env v1))) (zlk m (z7y r env (IntKind.i64.wrap (v1+1)))))) (some (.exit 2,(z7y r env v1))):=lpQ_ (by kernel_rfl)
theorem z1gh(m:Nat)(r:Rel)(env:List (List Int))(v1:Int):zlm m .ret (z7y r env v1)=some (z8z (false)):=by kernel_rfl
theorem z1l8(m:Nat)(r:Rel)(env:List (List Int))(v1:Int):zlm m (.exit 2) (z7y r env v1)=obO (clR (Rel.ids r)≤(2000000000:Nat)) (obO (([z2b (Rel.ids r)].length+env.length)*(24:Nat)≤zi) ((zif m (z6w r env (0:Int))).bind (ze (zih m)))):=by kernel_rfl
theorem z13l(m:Nat)(r:Rel)(env:List (List Int))(v2:Int):zif m (z6w r env v2)=cndO (decide (v2<(↑r.terms.length:Int))) (obO (0≤v2∧v2<(↑r.terms.length:Int)) (obO ((2:Nat)*(Term.ids (r.terms.getD v2.toNat zb)).ht<m) (obO ((Term.ids (r.terms.getD v2.toNat zb)).sz≤(2000000:Nat)) (obO (clT (Term.ids (r.terms.getD v2.toNat zb))≤(2000000000:Nat)) (obO (tyT (Term.ids (r.terms.getD v2.toNat zb))) (obO ((z2b (Rel.ids r)::env).length+(Term.ids (r.terms.getD v2.toNat zb)).ht≤(8000000:Nat)) (cndO (!zb6 (Term.ids (r.terms.getD v2.toNat zb)) (z2b (Rel.ids r)::env)) (some (.ret,(z6w r env v2))) (zif m (z6w r env (IntKind.i64.wrap (v2+1))))))))))) (some (.exit 4,(z6w r env v2))):=lpQ_ (by kernel_rfl)
theorem z1b0(m:Nat)(r:Rel)(env:List (List Int))(v2:Int):zih m .ret (z6w r env v2)=some (z8z (false)):=by kernel_rfl
theorem z1gi(m:Nat)(r:Rel)(env:List (List Int))(v2:Int):zih m (.exit 4) (z6w r env v2)=(zar m (z4x r env (0:Int))).bind (ze (zii m)):=by kernel_rfl
theorem z13m(m:Nat)(r:Rel)(env:List (List Int))(v3:Int):zar m (z4x r env v3)=cndO (decide (v3<(↑r.aggs.length:Int))) ((zig m (z6x r env v3 (0:Int))).bind (ze (zij m))) (some (.exit 6,(z4x r env v3))):=lpQ_ (by kernel_rfl)
theorem z1gj(m:Nat)(r:Rel)(env:List (List Int))(v3:Int):zii m (.exit 6) (z4x r env v3)=obO (z176 (Rel.ids r)) (cndO ((zli r).snd) (obO (r.cols.length≤(2000000000:Nat)) (some (z8z (zvf (zli r).fst (z1i r.cols))))) (some (z8z (false)))):=by kernel_rfl
theorem z13n(m:Nat)(r:Rel)(env:List (List Int))(v3:Int)(v4:Int):zig m (z6x r env v3 v4)=obO (0≤v3∧v3<(↑r.aggs.length:Int)) (cndO (decide (v4<(↑(Agg.t (r.aggs.getD v3.toNat zo)).length:Int))) (obO (0≤v3∧v3<(↑r.aggs.length:Int)) (obO (0≤v4∧v4<(↑(Agg.t (r.aggs.getD v3.toNat zo)).length:Int)) (obO ((2:Nat)*(Term.ids ((Agg.t (r.aggs.getD v3.toNat zo)).getD v4.toNat zb)).ht<m) (obO ((Term.ids ((Agg.t (r.aggs.getD v3.toNat zo)).getD v4.toNat zb)).sz≤(2000000:Nat)) (obO (clT (Term.ids ((Agg.t (r.aggs.getD v3.toNat zo)).getD v4.toNat zb))≤(2000000000:Nat)) (obO (tyT (Term.ids ((Agg.t (r.aggs.getD v3.toNat zo)).getD v4.toNat zb))) (obO ((z2b (Rel.ids r)::env).length+(Term.ids ((Agg.t (r.aggs.getD v3.toNat zo)).getD v4.toNat zb)).ht≤(8000000:Nat)) (cndO (!zb6 (Term.ids ((Agg.t (r.aggs.getD v3.toNat zo)).getD v4.toNat zb)) (z2b (Rel.ids r)::env)) (some (.ret,(z6x r env v3 v4))) (zig m (z6x r env v3 (IntKind.i64.wrap (v4+1)))))))))))) (some (.exit 8,(z6x r env v3 v4)))):=(zbh (z3p 21) z13k _).trans (by kernel_rfl)
theorem z1b1(m:Nat)(r:Rel)(env:List (List Int))(v3:Int)(v4:Int):zij m .ret (z6x r env v3 v4)=some (.ret,(z4x r env v3)):=by kernel_rfl
theorem z1b2(m:Nat)(r:Rel)(env:List (List Int))(v3:Int):zii m .ret (z4x r env v3)=some (z8z (false)):=by kernel_rfl
theorem z1gk(m:Nat)(r:Rel)(env:List (List Int))(v3:Int)(v4:Int):zij m (.exit 8) (z6x r env v3 v4)=zar m (z4x r env (IntKind.i64.wrap (v3+1))):=by kernel_rfl
theorem z1q5(m:Nat)(r:Rel)(env:List (List Int))(hr:WS .rel r)(_he:WL .ints env)(hm:2*r.ht+1<m+1)(h:r.sz≤2000000)(hc:clR r≤2000000000)(hy:tyR r)(hl:env.length+r.ht≤8000000):z17c m r env=some (z8z (z98 r env)):=by
 obtain⟨y1,y2,y3,y4⟩:=(z2by r).1 hy;obtain⟨p1,p2⟩:=ztl r;have c0:=zfc r;have h3:=r.sz_eq;have hcr:zli r=zfh r:=by unfold zli;exact congrArg zfh (by cases r;rfl)
 have l4:=z2w (L:=zar m) (st:=fun i=>z4x r env i) (C:=zii m) (e:=.exit 6) (fun b=>some (z8z (b&&endR r))) (l:=r.aggs) (d:=zo) (fun a=>a.t.all fun t=>tydT t (z2b r::env)) (hr.rel_aggs).len
  (fun i k hi hk hmem=>by
   have hka:=z1g9 hmem;rw[z2bt]at hka
   have li:=z2w (L:=zig m) (st:=fun j=>z6x r env i j) (C:=zij m) (e:=.exit 8) (fun b=>if b=true then zar m (z4x r env (IntKind.i64.wrap ((i:Int)+1)))else some (.ret,z4x r env i)) (l:=k.t) (d:=zb) (fun t=>tydT t (z2b r::env)) (by have:=z5t k.t;have:=zms hmem;have:=k.sz_eq;omega)
    (fun j t hj ht htm=>by
     obtain⟨h1,h2⟩:=p2 k hmem t htm;have h4:=zja htm;rw[z13n];simp only[hk,z8,hi,hj,decide_true,if_true,and_true,y5,ht,Term.ids_eq,Rel.ids_eq];rw[z6 (by omega),z6 (by omega),z6 (by omega),z6 (by omega),z6 (by omega),z6 (by omega),z6 (z11z ((z2bz k).1 (z1zr y4 k hmem)) t htm),z6 (by rw[yt];omega)];unfold zb6
     cases tydT t (z2b r::env)<;>rfl)
    (by rw[z13n];simp only[z8,y5,hk,decide_eq_true_eq];rw[z6 (by omega),if_neg (by omega)]) (fun j=>z1b1 _ _ _ _ _) (fun j=>z1gk _ _ _ _ _)
   rw[z13m];simp only[z8,hi,decide_true,if_true]
   exact li)
  (by rw[z13m];simp[z8]) (fun i=>by rw[y1v];exact z1b2 _ _ _ _) (fun i=>by
   rw[y1c,z1gj,hcr,Rel.ids_eq,z6 (show z176 r from⟨y1,h,hc⟩),z6 (show r.cols.length≤2000000000 by omega)];unfold endR
   cases(zfh r).2<;>rfl)
 have l3:=z2w (L:=zif m) (st:=fun i=>z6w r env i) (C:=zih m) (e:=.exit 4) (fun b=>some (z8z (b&&(r.aggs.all (fun a=>a.t.all fun t=>tydT t (z2b r::env))&&endR r)))) (l:=r.terms) (d:=zb) (fun t=>tydT t (z2b r::env)) (hr.rel_terms).len
  (fun i k hi hk hmem=>by
   obtain⟨h1,h2⟩:=p1 k hmem;have h4:=zja hmem;rw[z13l];simp only[z8,hi,decide_true,if_true,and_true,y5,hk,Term.ids_eq,Rel.ids_eq];rw[z6 (by omega),z6 (by omega),z6 (by omega),z6 (by omega),z6 (z11z y3 k hmem),z6 (by rw[yt];omega)];unfold zb6
   cases tydT k (z2b r::env)<;>rfl)
  (by rw[z13l];simp[z8]) (fun i=>by rw[y1v];exact z1b0 _ _ _ _) (fun i=>by rw[y1c];exact(z1gi _ _ _ _).trans l4)
 have l2:=z2w (L:=zlk m) (st:=fun i=>z7y r env i) (C:=zlm m) (e:=.exit 2) (fun b=>some (z8z (b&&(r.terms.all (fun t=>tydT t (z2b r::env))&&(r.aggs.all (fun a=>a.t.all fun t=>tydT t (z2b r::env))&&endR r))))) (l:=r.rows) (d:=[]) (fun x=>z8m x r.cols) (hr.rel_rows).len
  (fun i k hi hk hmem=>by
   rw[z17e];simp only[z8,hi,decide_true,if_true,and_true,y5,hk];rw[z6 (by omega)]
   cases z8m k r.cols<;>rfl)
  (by rw[z17e];simp[z8]) (fun i=>by rw[y1v];exact z1gh _ _ _ _) (fun i=>by
   rw[y1c,z1l8,Rel.ids_eq,z6 hc,z6 (by unfold zi;rw[yg];omega)]
   exact l3)
 rw[z1zt,z98,z2hs]
 exact z2w (L:=zlj m) (st:=fun i=>z7x r env i) (C:=zll m) (e:=.exit 0) (fun b=>some (z8z (b&&(r.rows.all (fun x=>z8m x r.cols)&&(r.terms.all (fun t=>tydT t (z2b r::env))&&(r.aggs.all (fun a=>a.t.all fun t=>tydT t (z2b r::env))&&endR r)))))) (l:=r.kids) (d:=za) (fun t=>tydR t env) (hr.rel_kids).len
  (fun i k hi hk hmem=>by
   have h1:=Rel.ht_kid hmem;have h2:=z9j hmem;have h4:=zfd hmem;rw[z17d];simp only[z8,hi,decide_true,if_true,and_true,y5,hk,Rel.ids_eq];rw[z6 (by omega),z6 (by omega),z6 (by omega),z6 (by omega),z6 (z1gc y2 k hmem),z6 (by omega)];unfold z98
   cases tydR k env<;>rfl)
  (by rw[z17d];simp[z8]) (fun i=>by rw[y1v];exact z1gg _ _ _ _) (fun i=>by rw[y1c];exact(z1l7 _ _ _ _).trans l2)
theorem z1vw(m:Nat)(hG:z1gf m):FnOK 42 (zle (m+1)):=fnK2 zr z11 (M:=(z4w m)) rfl ⟨hG.2,z1tc,z172,hG.1,z24h,ztp,z1zo,trivial⟩ trivial trivial trivial trivial Tryz.func42 fun r env=>GiF.r fun w o=>z1q5 m r env (wfA_ w 0) (wfA_ w 1) (obA_ o 0) (obA_ o 1) (obA_ o 2) (obA_ o 3) (obA_ o 4)
theorem ztr:∀m,z1gf m
 |0=>⟨fnZ2,fnZ2⟩
 |m+1=>⟨z1vv m (ztr m),z1vw m (ztr m)⟩
def z1di:FnC Un:=fnF2 (dS .rel) (dL .ints) fun r env=>([r.sz≤2000000,clR r≤2000000000,tyR r,env.length+r.ht≤8000000],z8z (z98 r env))
theorem z1zu:FnOK 42 z1di:=fnA2 fun m=>(ztr m).2
end
end B
namespace B
open Go Go.RowKit
set_option maxRecDepth 100000
noncomputable section
attribute [local irreducible] awp ctxK zx z1f retQ z1l awf ctxF z1k
def z1dj:Mc Un:=mcF_ [(29,z16g)] [] [] [] []
def z17f(r:Rel)(db:List Data):Option (RF Un):=fnF_ z1dj z23g Tryz.f22 0 [.d] [.d (.agg (enc Ty.rel r)),.d (.v (.dat (U:=Un) Ty.data db))]
theorem z1zv(r:Rel)(db:List Data):z17f r db=obO ((Rel.ids r).sz≤(2000000:Nat)) (some (z8z (decide ((z7j (Rel.ids r) db).snd >20000)))):=by kernel_rfl
def zpm(r:Rel)(db:List Data):Bool:=decide ((z7j r db).2 >20000)
theorem z1q6(r:Rel)(db:List Data)(_hr:WS .rel r)(_hd:WL .data db)(h:r.sz≤2000000):z17f r db=some (z8z (zpm r db)):=by
 rw[z1zv,Rel.ids_eq,z6 h];rfl
def z1dk:FnC Un:=fnF2 (dS .rel) (dL .data) fun r db=>([r.sz≤2000000],z8z (zpm r db))
theorem z1zw:FnOK 22 z1dk:=fnK2 zr z11 (M:=z1dj) rfl ⟨z1vg,trivial⟩ trivial trivial trivial trivial Tryz.func22 fun r db=>GiF.r fun w o=>z1q6 r db (wfA_ w 0) (wfA_ w 1) (obA_ o 0)
def zea:Mc Un:=mcF_ [(40,z1cp),(28,z1ka),(33,z1t5),(41,z1kl),(42,z1di),(22,z1dk)] [] [] [] []
def z99:Nat→NS:=nsF_ [(5,{ts:=bl 84 118,bs:=bl 84 4,nm:=[],cs:=true}),(9,{ts:=bl 84 246,bs:=bl 84 4,nm:=[],cs:=true})] true
def z6m(r:Rel)(db:List Data)(v0:Int)(v1:Int):S Un:=(st 84 84 336 0 [(1,al .data db),(2,ax 2),(4,ab false),(5,ai v0),(6,ai v1)] [(2,bg .rel r)] [])
def z6n(r:Rel)(db:List Data)(v0:Int)(v1:Int)(v2:Int):S Un:=(st 84 84 336 0 [(1,al .data db),(2,ax 2),(4,ab false),(5,ai (IntKind.i64.wrap (v0+(↑(db.getD v1.toNat z38).rows.length:Int)))),(6,ai v1),(7,ai v2)] [(2,bg .rel r)] [])
def zdc(r:Rel)(db:List Data)(v0:Int)(v1:Int):S Un:=(st 84 84 336 0 [(1,al .data db),(2,ax 2),(4,ab false),(5,ai (IntKind.i64.wrap (v0+(↑(db.getD v1.toNat z38).rows.length:Int)))),(6,ai v1)] [(2,bg .rel r)] [])
def zcl:S Un→Option (EX Un):=lpF_ zea z99 Tryz.f11 [1,1,1,0,1,2,2] 5
noncomputable def z17g:Code:=sub (sub (zk Tryz.f11) [1,1,1,0,1,2,2]) [1,0,2,1,1,2,2]
def zln:S Un→Option (EX Un):=z1k (z99 9) (fun s Q=>awf zea z99 z17g s Q)
def zfj:Exit→S Un→Option (RF Un):=cxF_ zea z99 Tryz.f11 [1,1,1,0,1,2] [.d]
def zlo:Exit→S Un→Option (EX Un):=ctxF zea z99 (sub (zk Tryz.f11) [1,1,1,0,1,2,2]) [1,0,2,1,1,2] (zc3 (z99 5) zcl)
def z17h(r:Rel)(db:List Data):Option (RF Un):=fnF_ zea z99 Tryz.f11 0 [.d] [.d (.agg (enc Ty.rel r)),.d (.v (.dat (U:=Un) Ty.data db))]
theorem z1zx(r:Rel)(db:List Data):z17h r db=obO ((Rel.ids r).sz≤(2000000:Nat)) (cndO (decide (zd2 (Rel.ids r)>1000)) (some (z8z (false))) ((zcl (z6m r db (0:Int) (0:Int))).bind (ze zfj))):=by kernel_rfl
theorem z17i(r:Rel)(db:List Data)(v0:Int)(v1:Int):zcl (z6m r db v0 v1)=cndO (decide (v1<(↑db.length:Int))) (cndO (decide (v1<5)) (obO (0≤v1∧v1<(↑db.length:Int)) ((zln (z6n r db v0 v1 (0:Int))).bind (ze zlo))) (some (.exit 0,(z6m r db v0 v1)))) (some (.exit 0,(z6m r db v0 v1))):=lpQ_ (by kernel_rfl)
theorem z1l9(r:Rel)(db:List Data)(v0:Int)(v1:Int):zfj (.exit 0) (z6m r db v0 v1)=cndO (decide (v0≤12)) (cndO (decide ((↑db.length:Int)≤(4:Int))) (obO ((Rel.ids r).sz≤(2000000:Nat)) (cndO (decide (zf8 (Rel.ids r)≤24)) (obO (z2o [] (Rel.ids r).ht) (cndO (z9h (Rel.ids r) []) (obO ((Rel.ids r).sz≤(2000000:Nat)) (cndO (zbr (Rel.ids r) db) (obO ((Rel.ids r).sz≤(2000000:Nat)) (obO (clR (Rel.ids r)≤(2000000000:Nat)) (obO (tyR (Rel.ids r)) (obO (0+(Rel.ids r).ht≤(8000000:Nat)) (cndO (z98 (Rel.ids r) []) (obO ((Rel.ids r).sz≤(2000000:Nat)) (some (z8z (!zpm (Rel.ids r) db)))) (some (z8z (false)))))))) (some (z8z (false))))) (some (z8z (false))))) (some (z8z (false))))) (some (z8z (false)))) (some (z8z (false))):=by kernel_rfl
theorem z17j(r:Rel)(db:List Data)(v0:Int)(v1:Int)(v2:Int):zln (z6n r db v0 v1 v2)=obO (0≤v1∧v1<(↑db.length:Int)) (cndO (decide (v2<(↑(db.getD v1.toNat z38).rows.length:Int))) (cndO (decide (v2<9)) (obO (0≤v1∧v1<(↑db.length:Int)) (obO (0≤v2∧v2<(↑(db.getD v1.toNat z38).rows.length:Int)) (cndO (decide ((↑(List.length ((db.getD v1.toNat z38).rows.getD v2.toNat [])):Int)>(6:Int))) (some (.ret,(z6n r db v0 v1 v2))) (zln (z6n r db v0 v1 (IntKind.i64.wrap (v2+1))))))) (some (.exit 2,(z6n r db v0 v1 v2)))) (some (.exit 2,(z6n r db v0 v1 v2)))):=(zbh (z99 9) z17g _).trans (by kernel_rfl)
theorem z1gl(r:Rel)(db:List Data)(v0:Int)(v1:Int)(v2:Int):zlo .ret (z6n r db v0 v1 v2)=some (.ret,(zdc r db v0 v1)):=by kernel_rfl
theorem z1gm(r:Rel)(db:List Data)(v0:Int)(v1:Int):zfj .ret (zdc r db v0 v1)=some (z8z (false)):=by kernel_rfl
theorem z1la(r:Rel)(db:List Data)(v0:Int)(v1:Int)(v2:Int):zlo (.exit 2) (z6n r db v0 v1 v2)=zcl (z6m r db (IntKind.i64.wrap (v0+(↑(db.getD v1.toNat z38).rows.length:Int))) (IntKind.i64.wrap (v1+1))):=by kernel_rfl
theorem z2c0{α β:Type}{L:S Un→Option (EX Un)}{st er:Int→S Un}{C:Exit→S Un→Option β}(R:Bool→Option β){l:List α}{d:α}{e:Exit}(q:α→Bool)(hl:l.length≤9223372036854775807)
  (step:∀(i:Nat)(x:α),(i:Int)<(l.length:Int)→l.getD i d=x→x∈l→L (st i)=if q x=true then L (st (IntKind.i64.wrap ((i:Int)+1)))else some (.ret,er i))
  (stop:L (st (l.length:Int))=some (e,st (l.length:Int)))(r1:∀i:Int,C .ret (er i)=R false)(r2:C e (st (l.length:Int))=R true):(L (st 0)).bind (ze C)=R (l.all q):=by
 have key:∀(k i:Nat),i+k=l.length→(L (st i)).bind (ze C)=R ((l.drop i).all q):=by
  intro k
  induction k with
  |zero=>
   intro i hi;obtain rfl:i=l.length:=by omega
   rw[stop,y49];exact r2
  |succ k ih=>
   intro i hi;have hlt:i<l.length:=by omega
   rw[step i l[i] (by omega) (by grind) (y21 hlt),y1u hlt,y1i];cases hq:q l[i]
   ·exact r1 _
   ·rw[if_pos rfl,z1u (by omega),y1c];grind
 exact key l.length 0 (by omega)
theorem z1th{α:Type}{l:List α}{n i:Nat}{d x:α}(h:(i:Int)<((l.take n).length:Int))(hx:(l.take n).getD i d=x):l.getD i d=x∧i<l.length∧i<n:=by
 grind
def sumD(n:Int)(d:Data):Int:=IntKind.i64.wrap (n+(d.rows.length:Int))
def z28d(d:Data):Bool:=(d.rows.take 9).all fun x=>!decide ((x.length:Int)>6)
noncomputable def z17k(r:Rel)(db:List Data)(n:Int):Bool:=decide (n≤12)&&(decide ((db.length:Int)≤4)&&(decide (zf8 r≤24)&&(z9h r []&&(zbr r db&&(z98 r []&& !zpm r db)))))
noncomputable def zpn(r:Rel)(db:List Data):Bool:=!decide (zd2 r>1000)&&((db.take 5).all z28d&&z17k r db ((db.take 5).foldl sumD 0))
mutual
theorem z28e:∀t:Term,t.ht≤t.sz
 | .mk op v depth at_ name kids sub type=>by
  have:=zon kids;have:=z121 sub;simp only[Term.ht,Term.sz];omega
theorem zon:∀l:List Term,htTs l≤szTs l
 |[]=>y6 _
 |t::l=>by
  have:=z28e t;have:=zon l;simp only[htTs,szTs];omega
theorem z2c1:∀a:Agg,a.ht≤a.sz
 | .mk name distinct t=>by
  have:=zon t;simp only[Agg.ht,Agg.sz];omega
theorem z1lb:∀l:List Agg,htAs l≤szAs l
 |[]=>y6 _
 |t::l=>by
  have:=z2c1 t;have:=z1lb l;simp only[htAs,szAs];omega
theorem z17l:∀r:Rel,r.ht≤r.sz
 | .mk op table cols kids terms aggs keys limit skip all rows=>by
  have:=z121 kids;have:=zon terms;have:=z1lb aggs;simp only[Rel.ht,Rel.sz];omega
theorem z121:∀l:List Rel,htRs l≤szRs l
 |[]=>y6 _
 |t::l=>by
  have:=z17l t;have:=z121 l;simp only[htRs,szRs];omega
end
theorem z56{r:Rel}{env:List Int}(h:zke r env=true):((r.kids.length:Int)=z3n r.op∧0≤z3n r.op)∧(∀k∈r.kids,zke k env=true)∧(r.cols.length:Int)=z29 r∧(∀t∈r.terms,zdn t (z8s r::env)=true)∧(∀a∈r.aggs,∀t∈a.t,zdn t (z8s r::env)=true)∧zdp r env=true:=by
 rw[z1z1,yp,yp,yp,zrm,y19]at h;obtain⟨⟨⟨h1,h2⟩,h4⟩,h3⟩:=h;unfold zyu at h1;simp at h1;obtain⟨⟨h5,h6⟩,h7⟩:=h1;refine⟨⟨h6,h5⟩,h2,by grind,?_,?_,h3⟩
 ·intro t ht;unfold z37 at h7;have e:r.op=3∨r.op=4∨r.op=5∨r.op=6∨r.op=7:=by
   grind
  grind[zdp,ze1,zdn,z8s,List.all_eq_true]
 ·intro a ha t ht;unfold z37 at h7;have e:r.op=7:=by
   grind
  unfold zdp at h3;rw[if_neg (by omega),if_neg (by omega),if_neg (by omega),if_neg (by omega),if_neg (by omega),if_pos e,yp,z11k]at h3;have q:=y19.1 h3.2 a ha;simp_all[z1z0,yp,ze1,y19]
theorem z122{t:Term}{env:List Int}(h:zdn t env=true):ztg t env=true∧(∀k∈t.kids,zdn k env=true)∧(∀k∈t.sub,zke k env=true):=by
 rw[z1t4,yp,yp,ze1,zrm,y19,y1f,yp,decide_eq_true_eq,y19]at h;have hs:(t.sub.length:Int)=zj6 t:=by
  simp_all[ztg,yp,decide_eq_true_eq]
 grind[List.length_pos_of_mem,zj6]
theorem z2fc:∀(n:Nat),(∀(t:Term)(env:List Int),t.ht<n→zdn t env=true→tyT t)∧(∀(r:Rel)(env:List Int),r.ht<n→zke r env=true→tyR r):=by
 have ts:∀(l:List Term),(∀t∈l,tyT t)→tyTs l:=by
  intro l
  induction l with
  |nil=>intro _;trivial
  |cons t l ih=>intro h;exact⟨h t yy,ih fun x hx=>h x (y11 _ hx)⟩
 have rs:∀(l:List Rel),(∀t∈l,tyR t)→tyRs l:=by
  intro l
  induction l with
  |nil=>intro _;trivial
  |cons t l ih=>intro h;exact⟨h t yy,ih fun x hx=>h x (y11 _ hx)⟩
 have as_:∀(l:List Agg),(∀t∈l,tyA t)→tyAs l:=by
  intro l
  induction l with
  |nil=>intro _;trivial
  |cons t l ih=>intro h;exact⟨h t yy,ih fun x hx=>h x (y11 _ hx)⟩
 intro n
 induction n with
 |zero=>simp
 |succ n ih=>
  constructor
  ·intro t env hn h;obtain⟨h1,h2,h3⟩:=z122 h;refine(z2bx t).2 ⟨fun c=>?_,ts _ fun k hk=>ih.1 k env (by have:=Term.ht_kid hk;omega) (h2 k hk),rs _ fun k hk=>ih.2 k env (by have:=Term.ht_sub hk;omega) (h3 k hk)⟩;unfold ztg zsm at h1;grind
  ·intro r env hn h;obtain⟨p1,p2⟩:=ztl r;obtain⟨⟨h1,_⟩,h2,_,h3,h4,_⟩:=z56 h;refine(z2by r).2 ⟨fun c=>?_,rs _ fun k hk=>ih.2 k env (by have:=Rel.ht_kid hk;omega) (h2 k hk),ts _ fun t ht=>ih.1 t _ (by grind) (h3 t ht),as_ _ fun a ha=>(z2bz a).2 (ts _ fun t ht=>ih.1 t _ (by grind) (h4 a ha t ht))⟩;grind[z3n]
theorem z2fd{r:Rel}{env:List Int}(h:zke r env=true):tyR r:=(z2fc (r.ht+1)).2 r env (y3a _) h
theorem z28f(r:Rel)(db:List Data)(n:Int)(i:Int)(h:r.sz≤2000000)(hh:r.ht≤2000000)(hc:clR r≤2000000000):zfj (.exit 0) (z6m r db n i)=some (z8z (z17k r db n)):=by
 rw[z1l9,Rel.ids_eq];refine z9p fun _=>z9p fun _=>?_;rw[z6 h];refine z9p fun _=>?_;rw[z6 (by grind[z2o,List.length_nil])];refine z9p fun c=>?_;rw[z6 h];refine z9p fun _=>?_;rw[z6 h,z6 hc,z6 (z2fd c),z6 (by omega)];refine z9p fun _=>?_;rw[z6 h]
theorem z1q7(r:Rel)(db:List Data)(_hr:WS .rel r)(hd:WL .data db)(h:r.sz≤2000000)(hc:clR r≤2000000000):z17h r db=some (z8z (zpn r db)):=by
 have hh:=z17l r;have hlt:(db.take 5).length≤5:=by grind
 have key:=z2c0 (L:=zcl) (st:=fun i=>z6m r db (((db.take 5).take i.toNat).foldl sumD 0) i) (er:=fun i=>zdc r db (((db.take 5).take i.toNat).foldl sumD 0) i) (C:=zfj) (e:=.exit 0) (fun b=>some (z8z (b&&z17k r db ((db.take 5).foldl sumD 0)))) (l:=db.take 5) (d:=z38) z28d (by omega)
  (fun i d hi hd hmem=>by
   obtain⟨g1,g2,g3⟩:=z1th hi hd;have hil:i<(db.take 5).length:=by omega
   have e:((db.take 5).take (i+1)).foldl sumD 0=sumD (((db.take 5).take i).foldl sumD 0) d:=by
    rw[y3c,y2d,←hd,yd,y9 hil];rfl
   have li:=fun(n:Int)=>zvi (L:=zln) (st:=fun j=>z6n r db n i j) (C:=zlo) (e:=.exit 2) (fun b=>if b=true then zcl (z6m r db (sumD n d) (IntKind.i64.wrap ((i:Int)+1)))else some (.ret,zdc r db n i)) (l:=d.rows.take 9) (d:=[]) (fun x=>!decide ((x.length:Int)>6)) (by grind)
    (fun j x hj hx _=>by
     obtain⟨f1,f2,f3⟩:=z1th hj hx;rw[z17j];simp only[g1,f1,y5];rw[z6 (by omega),z8,if_pos (by grind),z8,if_pos (by grind),z6 (by omega),z6 (by omega)]
     cases decide ((x.length:Int)>6)<;>rfl)
    (by
     rw[z17j];simp only[g1,y5,z8,decide_eq_true_eq];rw[z6 (by omega),yw]
     grind)
    (fun j=>z1gl _ _ _ _ _) (by rw[z1la,y5,g1];rfl)
   rw[z17i,z3s hil (by omega)];simp;rw[z8,if_pos (by grind),z8,if_pos (by grind),z6 (by omega),e];refine(li _).trans ?_
   rw[z3s hil (by omega)];rfl)
  (by
   rw[z17i];simp only[z8,decide_eq_true_eq,yw]
   grind)
  (fun i=>by simp[y1v,z1gm])
  (by rw[y1c,y5,y36];grind[z28f])
 rw[z1zx,Rel.ids_eq,z6 h];refine(z120 (x:=(db.take 5).all z28d&&z17k r db ((db.take 5).foldl sumD 0)) (by simp) fun _=>key)
def zxw:FnC Un:=fnF2 (dS .rel) (dL .data) fun r db=>([r.sz≤2000000,clR r≤2000000000],z8z (zpn r db))
theorem z1zy:FnOK 11 zxw:=fnK2 zr z11 (M:=zea) rfl ⟨z1za,z23z,z280,z245,z1zu,z1zw,trivial⟩ trivial trivial trivial trivial Tryz.func11 fun r db=>GiF.r fun w o=>z1q7 r db (wfA_ w 0) (wfA_ w 1) (obA_ o 0) (obA_ o 1)
end
end B
namespace B
open Go Go.RowKit
theorem z2hu{n x:Int}(h1:0≤n)(h2:n≤1048576)(h3:0≤x)(h4:x≤1048576):capI n x=if 1048576<n+x then 1048576 else n+x:=by
 grind[capI,z1u]
theorem zas(a b:Int):minI a b=if b<a then b else a:=rfl
theorem zjp(a b:Int):maxI a b=if a<b then b else a:=rfl
theorem capF{α:Type}(f:α→Int):∀(l:List α)(n:Int),(∀x∈l,0≤f x∧f x≤1048576)→0≤n→n≤1048576→
  n≤l.foldl (fun n x=>capI n (f x)) n∧l.foldl (fun n x=>capI n (f x)) n≤1048576∧(l.foldl (fun n x=>capI n (f x)) n≤20000→∀x∈l,f x≤20000)
 |[],n,_,h1,h2=>⟨y29 _,h2,fun _ x hx=>absurd hx (by simp)⟩
 |y::l,n,hf,h1,h2=>by
  have hy:=hf y yy;have e:=z2hu h1 h2 hy.1 hy.2;obtain⟨g1,g2,g3⟩:=capF f l (if 1048576<n+f y then 1048576 else n+f y) (fun x hx=>hf x (y11 _ hx)) (by omega) (by omega);grind
theorem addF{α:Type}(f:α→Int):∀(l:List α)(n:Int),(∀x∈l,0≤f x∧f x≤1048576)→0≤n→n+l.length*1048576≤4611686018427387904→
  n≤l.foldl (fun n x=>addI n (f x)) n∧l.foldl (fun n x=>addI n (f x)) n≤n+l.length*1048576∧(∀x∈l,n+f x≤l.foldl (fun n x=>addI n (f x)) n)
 |[],n,_,h1,h2=>⟨y29 _,by simp,fun x hx=>absurd hx (by simp)⟩
 |y::l,n,hf,h1,h2=>by
  have hy:=hf y yy;rw[yt]at h2 ⊢;have e:addI n (f y)=n+f y:=by grind[addI,z1u]
  obtain⟨g1,g2,g3⟩:=addF f l (n+f y) (fun x hx=>hf x (y11 _ hx)) (by omega) (by omega);grind
theorem z2hv(db:List Data)(r:Rel):zru db (zks db 1 r.terms) r.aggs=(z10 r).foldl (fun n t=>addI n (wghT db t)) 1:=by
 have key:∀(l:List Agg)(n:Int),zru db n l=(z88 l).foldl (fun n t=>addI n (wghT db t)) n:=by
  intro l
  induction l with
  |nil=>simp[zru,z88,y2e]
  |cons a l ih=>simp_all[zru,z88,y2d,z26a,zkt]
 simp_all[z10,y2d,zkt]
def ioW(op held rl:Int)(rows:List Int):Int×Int:=
 if op=1 then(held,held)
 else if rows.length=0 then(rl,rl)
 else if rows.length=1 then(rows.getD 0 0,maxI (rows.getD 0 0) 1)
 else if op=5∨op=6 then(IntKind.i64.wrap (rows.getD 0 0*maxI (rows.getD 1 0) 1),IntKind.i64.wrap (rows.getD 0 0*maxI (rows.getD 1 0) 1))
 else(IntKind.i64.wrap (rows.getD 0 0+rows.getD 1 0),IntKind.i64.wrap (rows.getD 0 0+rows.getD 1 0))
theorem z2c2(op held rl n:Int)(rows:List Int)(asks:Int):z16e op held rl n rows asks=(minI (ioW op held rl rows).2 1048576,minI (addI n (IntKind.i64.wrap (minI (ioW op held rl rows).1 1048576*minI asks 1048576))) 1048576):=by
 grind[z16e,ioW]
def ioR(db:List Data)(r:Rel):Int×Int:=ioW r.op (zbp r.table db) r.rows.length (r.kids.map fun k=>(wghR db k).1)
def askR(db:List Data)(r:Rel):Int:=(z10 r).foldl (fun n t=>addI n (wghT db t)) 1
def kidR(db:List Data)(r:Rel):Int:=r.kids.foldl (fun n k=>addI n (wghR db k).2) 0
theorem z26c(db:List Data)(r:Rel):wghR db r=(minI (ioR db r).2 1048576,minI (addI (kidR db r) (IntKind.i64.wrap (minI (ioR db r).1 1048576*minI (askR db r) 1048576))) 1048576):=by
 rw[z26b,z2hv,z2c2];rfl
def zcm:List Data→Nat
 |[]=>0
 |d::l=>d.rows.length+zcm l
theorem z1a9(table:ByteArray):∀(db:List Data)(n:Int),0≤n→n+zcm db≤4611686018427387904→n≤db.foldl (zkr table) n∧db.foldl (zkr table) n≤n+zcm db∧∀d∈db,(d.table.toList==table.toList)=true→n+d.rows.length≤db.foldl (zkr table) n
 |[],n,_,_=>⟨y29 _,by grind,fun d hd=>absurd hd (by simp)⟩
 |y::l,n,h1,h2=>by
  simp only[zcm]at h2 ⊢;rw[yu];unfold zkr;by_cases c:(y.table.toList==table.toList)=true
  ·have e:addI n y.rows.length=n+y.rows.length:=by grind[addI,z1u]
   rw[if_pos c,e];obtain⟨g1,g2,g3⟩:=z1a9 table l (n+y.rows.length) (by omega) (by omega);refine⟨by unfold zkr at g1;omega,by unfold zkr at g2;omega,fun d hd hc=>?_⟩;rcases yf.1 hd with rfl|hd
   ·exact g1
   ·have:=g3 d hd hc;unfold zkr at this;omega
  ·rw[if_neg c];obtain⟨g1,g2,g3⟩:=z1a9 table l n h1 (by omega);refine⟨g1,by unfold zkr at g2;omega,fun d hd hc=>?_⟩;rcases yf.1 hd with rfl|hd
   ·grind
   ·exact g3 d hd hc
theorem zfk(db:List Data)(r:Rel)(i:Nat)(h:i<r.kids.length):(r.kids.map fun k=>(wghR db k).1).getD i 0=(wghR db (r.kids.getD i za)).1:=by
 grind
theorem z1aa{a b:Int}(ha:0≤a)(ha2:a≤1048576)(hb:0≤b)(hb2:b≤1048576):0≤a*b∧a*b≤1099511627776:=by
 refine⟨Int.mul_nonneg ha hb,?_⟩;have h1:=y4q ha2 hb;omega
theorem z2c3(db:List Data)(hd:zcm db≤2000000)(r:Rel)(hr:r.rows.length≤2000000)(hk:∀k∈r.kids,0≤(wghR db k).1∧(wghR db k).1≤1048576):0≤(ioR db r).1∧(ioR db r).1≤1099511627776∧0≤(ioR db r).2∧(ioR db r).2≤1099511627776:=by
 have hh:=z1a9 r.table db 0 (by omega) (by omega);have hg:∀i,0≤(r.kids.map fun k=>(wghR db k).1).getD i 0∧(r.kids.map fun k=>(wghR db k).1).getD i 0≤1048576:=fun i=>by
  grind
 have g0:=hg 0;have g1:=hg 1;unfold ioR ioW zbp;generalize(r.kids.map fun k=>(wghR db k).1).getD 1 0=b at*;have hm:0≤maxI b 1∧maxI b 1≤1048576:=by grind[zjp]
 have hp:=z1aa g0.1 g0.2 hm.1 hm.2;grind[z1u,maxI]
theorem z2c4(db:List Data)(hd:zcm db≤2000000):∀n:Nat,(∀t:Term,t.ht<n→t.sz≤2000000→0≤wghT db t∧wghT db t≤1048576)∧
  (∀r:Rel,r.ht<n→r.sz≤2000000→(0≤(wghR db r).1∧(wghR db r).1≤1048576)∧0≤(wghR db r).2∧(wghR db r).2≤1048576):=by
 intro n
 induction n with
 |zero=>simp
 |succ n ih=>
  constructor
  ·intro t hn hs;rw[z1pi,←zrv,←zrw];obtain⟨a1,a2,_⟩:=capF (fun k=>wghT db k) t.kids 0 (fun k hk=>ih.1 k (by have:=Term.ht_kid hk;omega) (by have:=zkj hk;omega)) (by omega) (by omega);obtain⟨b1,b2,_⟩:=capF (fun k=>(wghR db k).2) t.sub _ (fun k hk=>(ih.2 k (by have:=Term.ht_sub hk;omega) (by have:=zkk hk;omega)).2) a1 a2;omega
  ·intro r hn hs;have h3:=r.sz_eq;have hkl:=z11d r.kids;have hrl:r.rows.length≤2000000:=by omega
   have hk:=fun k(hk:k∈r.kids)=>ih.2 k (by have:=Rel.ht_kid hk;omega) (by have:=z9j hk;omega);have hio:=z2c3 db hd r hrl fun k h=>(hk k h).1;have htl:=znu r;obtain⟨a1,a2,_⟩:=addF (fun k=>wghT db k) (z10 r) 1 (fun t ht=>ih.1 t (by have:=(z90 ht).1;omega) (by have:=(z90 ht).2;omega)) (by omega) (by omega);obtain⟨b1,b2,_⟩:=addF (fun k=>(wghR db k).2) r.kids 0 (fun k h=>(hk k h).2) (by omega) (by omega);rw[z26c];have hp:=z1aa (a:=minI (ioR db r).1 1048576) (b:=minI (askR db r) 1048576) (by grind[zas]) (by grind[zas]) (by grind[askR,zas]) (by grind[zas]);grind[addI,kidR,z1u,zas]
theorem z26d{db:List Data}(hd:zcm db≤2000000){t:Term}(h:t.sz≤2000000):0≤wghT db t∧wghT db t≤1048576:=(z2c4 db hd (t.ht+1)).1 t (y3a _) h
theorem z5x{db:List Data}(hd:zcm db≤2000000){r:Rel}(h:r.sz≤2000000):(0≤(wghR db r).1∧(wghR db r).1≤1048576)∧0≤(wghR db r).2∧(wghR db r).2≤1048576:=(z2c4 db hd (r.ht+1)).2 r (y3a _) h
theorem z1lc{db:List Data}(hd:zcm db≤2000000){t:Term}(h:t.sz≤2000000)(hw:wghT db t≤20000):(∀k∈t.kids,wghT db k≤20000)∧∀k∈t.sub,(wghR db k).2≤20000:=by
 rw[z1pi,←zrv,←zrw]at hw;obtain⟨a1,a2,a3⟩:=capF (fun k=>wghT db k) t.kids 0 (fun k hk=>z26d hd (by have:=zkj hk;omega)) (by omega) (by omega);obtain⟨b1,b2,b3⟩:=capF (fun k=>(wghR db k).2) t.sub _ (fun k hk=>(z5x hd (by have:=zkk hk;omega)).2) a1 a2;grind
theorem zvj{db:List Data}(hd:zcm db≤2000000){r:Rel}(h:r.sz≤2000000)(hw:(wghR db r).2≤20000):(∀k∈r.kids,(wghR db k).2≤20000)∧0≤(ioR db r).1∧(ioR db r).1≤20000∧(1≤(ioR db r).1→∀t∈z10 r,wghT db t≤20000)∧(wghR db r).1=minI (ioR db r).2 1048576:=by
 have h3:=r.sz_eq;have hkl:=z11d r.kids;have hk:=fun k(hk:k∈r.kids)=>z5x hd (r:=k) (by have:=z9j hk;omega);have hio:=z2c3 db hd r (by omega) fun k h=>(hk k h).1;have htl:=znu r;obtain⟨a1,a2,a3⟩:=addF (fun k=>wghT db k) (z10 r) 1 (fun t ht=>z26d hd (by have:=(z90 ht).2;omega)) (by omega) (by omega);obtain⟨b1,b2,b3⟩:=addF (fun k=>(wghR db k).2) r.kids 0 (fun k h=>(hk k h).2) (by omega) (by omega);change 1≤askR db r at a1;change∀x∈_,_≤askR db r at a3;change 0≤kidR db r at b1;change kidR db r≤_ at b2;change∀x∈_,_≤kidR db r at b3;have q1:0≤minI (ioR db r).1 1048576∧minI (ioR db r).1 1048576≤1048576:=by grind[zas]
 have q2:1≤minI (askR db r) 1048576∧minI (askR db r) 1048576≤1048576:=by grind[zas]
 have hp:=z1aa q1.1 q1.2 (by omega:0≤minI (askR db r) 1048576) q2.2;have hp1:=Int.mul_le_mul_of_nonneg_left q2.1 q1.1;rw[z26c]at hw ⊢;dsimp only at hw ⊢;have hp2:1≤minI (ioR db r).1 1048576→minI (askR db r) 1048576≤minI (ioR db r).1 1048576*minI (askR db r) 1048576:=fun hi=>by
  have:=y4q hi (show 0≤minI (askR db r) 1048576 by omega);omega
 generalize hpe:minI (ioR db r).1 1048576*minI (askR db r) 1048576=p at*;unfold addI at hw;rw[z1u (show-9223372036854775808≤p∧p≤9223372036854775807 by omega),z1u (by omega),zas]at hw;rw[zas]at q1 hp1 hp2;rw[zas]at q2 hp2;grind
end B
namespace B
open Go Go.RowKit
set_option maxRecDepth 1000000
theorem zvk{f:FuncId}{args:List (D Un)}{v:Value}(hv:oneC v=true)
  (h:∀(w:World)(vs:List Value),(∀St,All2 (DRel Tryz.prog En St w) vs args→Calls Tryz.prog f vs.toArray w fun e w'=>e=.returned v∧w'=w)):Contract Tryz.prog En f args [.c (.s v)] []:=by
 intro w St vs hbd hvs hld;refine(h w vs St hvs).mono ?_;rintro e w' ⟨rfl,rfl⟩;let gg:G:={β:=fun _=>0,lb:=fun _=>False,ω:=fun _ _=>none,tk:=fun _=>(none,0)};exact⟨_,rfl,Ext.refl _,gg,fun _ h=>h,fun b o x _ h=>by simp[gg]at h,fun b o x h=>by simp[gg]at h,⟨rfl,hv⟩,fun k o h=>by simp at h⟩
theorem zts{St:Nat→Nat→Prop}{w:World}{v:Value}{s:ByteArray}(h:DRel Tryz.prog En St w v (.d (.v (cs s)))):v=.string s∧s.size≤9223372036854775807:=by
 have h':VRel En St w v (.s (.string s)):=h;cases h' with|s _ h=>exact⟨rfl,oneC_str.1 h⟩
theorem ztt{St:Nat→Nat→Prop}{w:World}{v:Value}{k:IntKind}{n:Int}(h:DRel Tryz.prog En St w v (.d (.v (.s (.int k n))))):v=.int k n∧k.min≤n∧n≤k.max:=by
 have h':VRel En St w v (.s (.int k n)):=h;cases h' with|s _ h=>exact⟨rfl,of_decide_eq_true h⟩
end B
namespace B
open Go Go.RowKit
set_option maxRecDepth 1000000
theorem z1b3(a b:ByteArray)(w:World):
  Calls Tryz.prog 229 #[.string a,.string b] w fun e w'=>e=.returned (.int .i64 (Lib.compareBytes a.data.toList b.data.toList))∧w'=w:=by
 have mixed:Tryz.prog.follows .mixedOrders=true:=by kernel_rfl
 go_enter Tryz.func229,Tryz.ntmps229
 go_wp2
 rw[run_callFunc_extern Tryz.func245 (by kernel_rfl) (by kernel_rfl) (by kernel_rfl) (e:=Extern.BytealgCompare.compare) (by kernel_rfl),Lib.run_compareString];simp only[Result.andThen];rw[Oper.upon_value]
 go_wp2
 go_ret;exact⟨rfl,rfl⟩
theorem zvl:∀(a b:List UInt8),Lib.compareBytes a b=cmpL a b
 |[],[]=>rfl
 |[],_::_=>rfl
 |_::_,[]=>rfl
 |x::a,y::b=>by
  have hlt:∀p q:UInt8,(p<q)=((p.toNat:Int)<q.toNat):=fun p q=>by simp[UInt8.lt_iff_toNat_lt]
  simp only[Lib.compareBytes,cmpL,cmpI,hlt];by_cases h:x=y
  ·subst h;simp[zvl a b]
  ·have hne:x.toNat≠y.toNat:=fun e=>h (UInt8.toNat_inj.1 e);rw[if_neg h];by_cases h1:(x.toNat:Int)<y.toNat
   ·rw[if_pos h1,if_pos h1]
   ·rw[if_neg h1,if_neg h1,if_pos (by omega),if_pos (by omega)]
theorem z1ld:∀(a b:List UInt8),-1≤cmpL a b∧cmpL a b≤1
 |[],[]=>by simp[cmpL]
 |[],_::_=>by simp[cmpL]
 |_::_,[]=>by simp[cmpL]
 |x::a,y::b=>by
  simp only[cmpL,cmpI];have:=z1ld a b
  repeat' split
  all_goals omega
def z5v:FnC Un:=fun args=>match args with
 |[x0,x1]=>(dStr x0).bind fun a=>(dStr x1).bind fun b=>some ([],[.c (.s (.int .i64 (cmpS a b)))],[])
 |_=>none
theorem zhp:FnOK 229 z5v:=by
 intro args ob rs os h hob;unfold z5v at h;split at h
 ·rename_i x0 x1;simp only[y7,y8,ym]at h;obtain⟨s,e0,t,e1,rfl,rfl,rfl⟩:=h;obtain rfl:=z4l e0;obtain rfl:=z4l e1;refine⟨?_,zj Tryz.func229 (by kernel_rfl) (by kernel_rfl)⟩;have hr:=z1ld s.toList t.toList;refine zvk (oneC_i64.2 (by unfold cmpS;omega)) fun w vs St hvs=>?_
  match vs,hvs with
  |[v0,v1],⟨h0,h1,_⟩=>
   obtain⟨rfl,-⟩:=zts h0;obtain⟨rfl,-⟩:=zts h1;refine(z1b3 s t w).mono ?_;rintro e w' ⟨rfl,rfl⟩;refine⟨?_,rfl⟩;rw[zvl];unfold cmpS;rw[ByteArray.toList_eq,ByteArray.toList_eq]
 ·simp at h
end B
namespace B
open Go Go.RowKit
set_option maxRecDepth 100000
noncomputable section
attribute [local irreducible] awp ctxK zx z1f retQ z1l
def z8n:Mc Un:=mcF_ [(229,z5v)] [] [] [] []
theorem z17m(a:ByteArray)(b:ByteArray)(K:List (A Un)→List (Ob Un)→Prop):
  awp z8n z23b (zk Tryz.f194) (z3c Tryz.f194.ntmps 0 [.d (.v (cs a)),.d (.v (cs b))]) (retQ z8n Tryz.f194.results.toList [.d] K)=
(K (zac (cmpS a b)) (zad (cmpS a b))):=by kernel_rfl
def zpo(a:ByteArray)(b:ByteArray):Option (Int):=
 some (cmpS a b)
theorem z14v{a:ByteArray}{b:ByteArray}{r:Int}(h:zpo a b=some r):Runs (awp z8n z23b (zk Tryz.f194) (z3c Tryz.f194.ntmps 0 [.d (.v (cs a)),.d (.v (cs b))]) (retQ z8n Tryz.f194.results.toList [.d] fun rs os=>rs=zac r∧os=zad r)):=by
 rw[z17m a b (fun rs os=>rs=zac r∧os=zad r)];cases h;exact⟨rfl,rfl⟩
def strings_Compare(a:ByteArray)(b:ByteArray):Int:=
 (cmpS a b)
theorem z17n(a:ByteArray)(b:ByteArray):zpo a b=some (strings_Compare a b):=by rfl
def z8o:FnC Un:=fnF2 dStr dStr fun a b=>([],zac (strings_Compare a b),zad (strings_Compare a b))
theorem zpp:FnOK 194 z8o:=fnK2 z4l z4l (M:=z8n) rfl ⟨zhp,trivial⟩ trivial trivial trivial trivial Tryz.func194 fun a b=>fun _ _=>z14v (z17n a b)
theorem z1zz(x:Int)(K:List (A Un)→List (Ob Un)→Prop):
  awp z1bz z23b (zk Tryz.f228) (z3c Tryz.f228.ntmps 0 [.d (.v (.s (.int .i64 x)))]) (retQ z1bz Tryz.f228.results.toList [.d] K)=
(K (zt1 (x !=x)) (zt2 (x !=x))):=by kernel_rfl
def z17o(x:Int):Option (Bool):=
 some (x !=x)
theorem z1vx{x:Int}{r:Bool}(h:z17o x=some r):Runs (awp z1bz z23b (zk Tryz.f228) (z3c Tryz.f228.ntmps 0 [.d (.v (.s (.int .i64 x)))]) (retQ z1bz Tryz.f228.results.toList [.d] fun rs os=>rs=zt1 r∧os=zt2 r)):=by
 rw[z1zz x (fun rs os=>rs=zt1 r∧os=zt2 r)];cases h;exact⟨rfl,rfl⟩
def z5y(x:Int):Bool:=
 (x !=x)
theorem z200(x:Int):z17o x=some (z5y x):=by rfl
def z1dm:FnC Un:=fnF1 (dI .i64) fun x=>([],zt1 (z5y x),zt2 (z5y x))
theorem z201:FnOK 228 z1dm:=fnK1 z1a (M:=z1bz) rfl trivial trivial trivial trivial trivial Tryz.func228 fun x=>fun _ _=>z1vx (z200 x)
def zds:Mc Un:=mcF_ [(228,z1dm)] [] [] [] []
theorem z1q8(x:Int)(y:Int)(K:List (A Un)→List (Ob Un)→Prop):
  awp zds z23b (zk Tryz.f193) (z3c Tryz.f193.ntmps 0 [.d (.v (.s (.int .i64 x))),.d (.v (.s (.int .i64 y)))]) (retQ zds Tryz.f193.results.toList [.d] K)=
(cnd (z5y x)
 (cnd (z5y y)
  (K (zac ((0:Int))) (zad ((0:Int))))
  (K (zac ((-1:Int))) (zad ((-1:Int)))))
 (cnd (z5y y)
  (K (zac ((1:Int))) (zad ((1:Int))))
  (cnd (decide (x<y))
   (K (zac ((-1:Int))) (zad ((-1:Int))))
   (cnd (decide (x>y))
    (K (zac ((1:Int))) (zad ((1:Int))))
    (K (zac ((0:Int))) (zad ((0:Int)))))))):=by kernel_rfl
def zmx(x:Int)(y:Int):Option (Int):=
  if(z5y x)=true then
   if(z5y y)=true then
    some ((0:Int))
   else
    some ((-1:Int))
  else
   if(z5y y)=true then
    some ((1:Int))
   else
    if(decide (x<y))=true then
     some ((-1:Int))
    else
     if(decide (x>y))=true then
      some ((1:Int))
     else
      some ((0:Int))
theorem z1le{x:Int}{y:Int}{r:Int}(h:zmx x y=some r):Runs (awp zds z23b (zk Tryz.f193) (z3c Tryz.f193.ntmps 0 [.d (.v (.s (.int .i64 x))),.d (.v (.s (.int .i64 y)))]) (retQ zds Tryz.f193.results.toList [.d] fun rs os=>rs=zac r∧os=zad r)):=by
 constructor;rw[z1q8 x y (fun rs os=>rs=zac r∧os=zad r)];rcases z1n h with⟨c1,h2⟩|⟨c1,h2⟩
 ·rcases z1n h2 with⟨c3,h4⟩|⟨c3,h4⟩
  ·cases h4;exact(z2d c1 (z2d c3 ⟨rfl,rfl⟩))
  ·cases h4;exact(z2d c1 (z14 (zt c3) ⟨rfl,rfl⟩))
 ·rcases z1n h2 with⟨c5,h6⟩|⟨c5,h6⟩
  ·cases h6;exact(z14 (zt c1) (z2d c5 ⟨rfl,rfl⟩))
  ·rcases z1n h6 with⟨c7,h8⟩|⟨c7,h8⟩
   ·cases h8;exact(z14 (zt c1) (z14 (zt c5) (z2d c7 ⟨rfl,rfl⟩)))
   ·rcases z1n h8 with⟨c9,h10⟩|⟨c9,h10⟩
    ·cases h10;exact(z14 (zt c1) (z14 (zt c5) (z14 (zt c7) (z2d c9 ⟨rfl,rfl⟩))))
    ·cases h10;exact(z14 (zt c1) (z14 (zt c5) (z14 (zt c7) (z14 (zt c9) ⟨rfl,rfl⟩))))
def z3a(x:Int)(y:Int):Int:=
  if(z5y x)=true then
   if(z5y y)=true then
    ((0:Int))
   else
    ((-1:Int))
  else
   if(z5y y)=true then
    ((1:Int))
   else
    if(decide (x<y))=true then
     ((-1:Int))
    else
     if(decide (x>y))=true then
      ((1:Int))
     else
      ((0:Int))
theorem z1q9(x:Int)(y:Int):zmx x y=some (z3a x y):=by grind[zmx,z3a]
def zdt:FnC Un:=fnF2 (dI .i64) (dI .i64) fun x y=>([],zac (z3a x y),zad (z3a x y))
theorem zze:FnOK 193 zdt:=fnK2 z1a z1a (M:=zds) rfl ⟨z201,trivial⟩ trivial trivial trivial trivial Tryz.func193 fun x y=>fun _ _=>z1le (z1q9 x y)
@[simp] theorem z1gn(x y:Int):z3a x y=cmpI x y:=by
 unfold z3a z5y cmpI;simp
@[simp] theorem z123(a b:ByteArray):strings_Compare a b=cmpS a b:=rfl
def z5w:Nat→NS:=nsF_ [(3,{ts:=[false,false,true,true,false,false,true,true,true,false,false,false,false,false,false,false,false,false],bs:=[false,false,false,false,false,false,false,false,false,false,false,false,false,false,false,false,false,false],nm:=[],gb:=[],gs:=[]})] false
def zb7(vals:List Int)(v0:Int):S Un:=(st 18 18 72 0 [(2,AV.one (A.c (C.s (Value.int IntKind.i64 (0:Int))))),(3,AV.one (A.c (C.s (Value.int IntKind.i64 (0:Int))))),(6,AV.one (A.c (C.sl Ty.int vals false))),(7,AV.one (A.c (C.s (Value.int IntKind.i64 (↑vals.length:Int))))),(8,AV.one (A.c (C.s (Value.int IntKind.i64 v0))))] [] [])
def zik(vals:List Int)(v0:Int)(v1:Int):S Un:=(st 18 18 72 0 [(2,AV.one (A.c (C.s (Value.int IntKind.i64 v1)))),(3,AV.one (A.c (C.s (Value.int IntKind.i64 (0:Int))))),(6,AV.one (A.c (C.sl Ty.int vals false))),(7,AV.one (A.c (C.s (Value.int IntKind.i64 (↑vals.length:Int))))),(8,AV.one (A.c (C.s (Value.int IntKind.i64 v0))))] [] [])
theorem z2c5(vals:List Int)(K:List (A Un)→List (Ob Un)→Prop):
  awp z1bz z5w (zk Tryz.f192) (z3c Tryz.f192.ntmps 0 [.d (.v (.dat (U:=Un) Ty.int vals))]) (retQ z1bz Tryz.f192.results.toList [.d] K)=
(zx (z5w 3) (awp z1bz z5w (sub (zk Tryz.f192) [1,1,0,1,2,2])) (ctxK z1bz z5w (zk Tryz.f192) [1,1,0,1,2] (retQ z1bz Tryz.f192.results.toList [.d] K)) (zb7 vals (0:Int))):=by kernel_rfl
theorem z17p(vals:List Int)(v0:Int)(k:Nat)(Q:Exit→S Un→Prop):
  z1f (z5w 3) (awp z1bz z5w (sub (zk Tryz.f192) [1,1,0,1,2,2])) Q (k+1) (zb7 vals v0)=
(cnd (decide (v0<(↑vals.length:Int)))
 (((0:Int)≤v0∧v0<(↑vals.length:Int))∧
 (cnd (vals.getD v0.toNat (0:Int) !=(0:Int))
  (Q .ret (zik vals v0 (vals.getD v0.toNat (0:Int))))
  (z1f (z5w 3) (awp z1bz z5w (sub (zk Tryz.f192) [1,1,0,1,2,2])) Q k (zb7 vals (IntKind.i64.wrap (v0+(1:Int)))))))
 (Q (.exit 0) (zb7 vals v0))):=by kernel_rfl
theorem z1vy(vals:List Int)(v0:Int)(v1:Int)(K:List (A Un)→List (Ob Un)→Prop):
  ctxK z1bz z5w (zk Tryz.f192) [1,1,0,1,2] (retQ z1bz Tryz.f192.results.toList [.d] K) .ret (zik vals v0 v1)=
(K (zac (v1)) (zad (v1))):=by kernel_rfl
theorem z202(vals:List Int)(v0:Int)(K:List (A Un)→List (Ob Un)→Prop):
  ctxK z1bz z5w (zk Tryz.f192) [1,1,0,1,2] (retQ z1bz Tryz.f192.results.toList [.d] K) (.exit 0) (zb7 vals v0)=
(K (zac ((0:Int))) (zad ((0:Int)))):=by kernel_rfl
def zpq(vals:List Int)(v:Int):Option ((Int) ⊕((Int×Int) ⊕(Int))):=
  if(decide (v<(↑vals.length:Int)))=true then
   if(0:Int)≤v∧v<(↑vals.length:Int)then
    if(vals.getD v.toNat (0:Int) !=(0:Int))=true then
     some (.inr (.inl (v,(vals.getD v.toNat (0:Int)))))
    else
     some (.inl (IntKind.i64.wrap (v+(1:Int))))
   else none
  else
   some (.inr (.inr v))
def zjq(vals:List Int)(v:Int):Option ((Int×Int) ⊕(Int)):=zg0 (zpq vals) v
theorem z17q(vals:List Int)(v:Int):zjq vals v=zv5 (zjq vals) (zpq vals v):=z1ff _ _
def zvm(vals:List Int)(r:(Int×Int) ⊕(Int))(Q:Exit→S Un→Prop):Prop:=match r with| .inl x=>Q .ret (zik vals x.1 x.2)| .inr x=>Q (.exit 0) (zb7 vals x)
theorem z1vz{vals:List Int}{x:Int×Int}{Q:Exit→S Un→Prop}(h:Q .ret (zik vals x.1 x.2)):zvm vals (.inl x) Q:=h
theorem z203{vals:List Int}{x:Int}{Q:Exit→S Un→Prop}(h:Q (.exit 0) (zb7 vals x)):zvm vals (.inr x) Q:=h
theorem z13p{vals:List Int}{v:Int}{r:(Int×Int) ⊕(Int)}(h:zjq vals v=some r)(Q:Exit→S Un→Prop)(hQ:zvm vals r Q):zx (z5w 3) (awp z1bz z5w (sub (zk Tryz.f192) [1,1,0,1,2,2])) Q (zb7 vals v):=by
 refine@z1fg _ _ (zpq vals) (fun v=>zx (z5w 3) (awp z1bz z5w (sub (zk Tryz.f192) [1,1,0,1,2,2])) Q (zb7 vals v)) (fun r=>zvm vals r Q) ?_ v r h hQ;intro v o h hI;rcases z1n h with⟨c1,h2⟩|⟨c1,h2⟩
 ·obtain⟨c3,h4⟩:=zyo h2;rcases z1n h4 with⟨c5,h6⟩|⟨c5,h6⟩
  ·cases h6;exact zev 1 (mpr (z17p vals v 0 Q) (z2d c1 (And.intro c3 (z2d c5 hI))))
  ·cases h6;obtain⟨k7,hk8⟩:=z1iy hI;exact zev (k7+1) (mpr (z17p vals v k7 Q) (z2d c1 (And.intro c3 (z14 (zt c5) hk8))))
 ·cases h2;exact zev 1 (mpr (z17p vals v 0 Q) (z14 (zt c1) hI))
def z17r(vals:List Int):Option (Int):=
  (zjq vals (0:Int))>>=fun o9=>match o9 with
   | .inl o10=>
     some (o10.2)
   | .inr o11=>
     some ((0:Int))
theorem z28g{vals:List Int}{r:Int}(h:z17r vals=some r):Runs (awp z1bz z5w (zk Tryz.f192) (z3c Tryz.f192.ntmps 0 [.d (.v (.dat (U:=Un) Ty.int vals))]) (retQ z1bz Tryz.f192.results.toList [.d] fun rs os=>rs=zac r∧os=zad r)):=by
 constructor;rw[z2c5 vals (fun rs os=>rs=zac r∧os=zad r)];obtain⟨o12,ho13,h14⟩:=bind_some h;rcases o12 with o15|o16
 ·cases h14;exact(z13p ho13 _ (z1vz (mpr (z1vy vals o15.1 o15.2 _) ⟨rfl,rfl⟩)))
 ·cases h14;exact(z13p ho13 _ (z203 (mpr (z202 vals o16 _) ⟨rfl,rfl⟩)))
def orL:List Int→Int
 |[]=>0
 |x::r=>if x=0 then orL r else x
def zpr(vals:List Int):Int:=orL vals
@[simp] theorem z2c6(vals:List Int):zpr vals=orL vals:=by rfl
theorem z24j(vals:List Int)(h:WL .int vals):∀(r:List Int)(i:Nat),vals.drop i=r→
  ∃o,zjq vals i=some o∧(match o with| .inl o=>o.2| .inr _=>0)=orL r:=by
 intro r
 induction r with
 |nil=>
  intro i h1;have e1:=drop_nil h1;have hn:¬((i:Int)<vals.length):=by omega
  exact⟨.inr i,by rw[z17q,zpq];simp[hn],rfl⟩
 |cons x r ih=>
  intro i h1;obtain⟨a1,a2,a3,_⟩:=z55 h1;have hp:(i:Int)<vals.length:=by omega
  have hi:(0:Int)≤i:=by omega
  rw[z17q,zpq];simp only[hp,hi,decide_true,if_true,and_self,y5,a2,bne_iff_ne,ne_eq,ite_not,orL];by_cases hx:x=0
  ·rw[if_pos hx,if_pos hx,z1st a1 h.len,z15n];grind
  simp_all
theorem z24k(vals:List Int)(h:WL .int vals):z17r vals=some (zpr vals):=by
 obtain⟨o,ho,e⟩:=z24j vals h _ 0 rfl;unfold z17r zpr;simp at e;rw[←e];have ho':zjq vals 0=some o:=ho;rw[ho'];cases o<;>rfl
def z1go:FnC Un:=fnF1 (dL .int) fun vals=>([],zac (zpr vals),zad (zpr vals))
theorem z2c7:FnOK 192 z1go:=fnK1 z11 (M:=z1bz) rfl trivial trivial trivial trivial trivial Tryz.func192 fun vals=>fun w _=>z28g (z24k vals (wfA_ w 0))
end
end B
namespace B
open Go Go.RowKit
set_option maxRecDepth 100000
noncomputable section
attribute [local irreducible] awp ctxK zx z1f retQ z1l
def cmpV(a b:Val):Int×Bool:=if a.kind=b.kind then(if a.kind=3 then(cmpS a.s b.s,true)else if a.kind=1∨a.kind=2 then(cmpI a.n b.n,true)else(0,false))else(0,false)
def zdu:Mc Un:=mcF_ [(193,zdt),(194,z8o),(192,z1go)] [] [] [] []
theorem z1qa(a:Val)(b:Val)(K:List (A Un)→List (Ob Un)→Prop):
  awp zdu z23b (zk Tryz.f147) (z3c Tryz.f147.ntmps 0 [.d (.agg (enc Ty.val a)),.d (.agg (enc Ty.val b))]) (retQ zdu Tryz.f147.results.toList [.d] K)=
(K (zac (zpr [z3a a.kind b.kind,z3a a.n b.n,strings_Compare a.s b.s])) (zad (zpr [z3a a.kind b.kind,z3a a.n b.n,strings_Compare a.s b.s]))):=by kernel_rfl
def zmy(a:Val)(b:Val):Option (Int):=
 some (zpr [z3a a.kind b.kind,z3a a.n b.n,strings_Compare a.s b.s])
theorem z1lf{a:Val}{b:Val}{r:Int}(h:zmy a b=some r):Runs (awp zdu z23b (zk Tryz.f147) (z3c Tryz.f147.ntmps 0 [.d (.agg (enc Ty.val a)),.d (.agg (enc Ty.val b))]) (retQ zdu Tryz.f147.results.toList [.d] fun rs os=>rs=zac r∧os=zad r)):=by
 rw[z1qa a b (fun rs os=>rs=zac r∧os=zad r)];cases h;exact⟨rfl,rfl⟩
def z3b(a b:Val):Int:=ordV a b
@[simp] theorem z1qb(a b:Val):z3b a b=ordV a b:=by rfl
theorem z1gp(a b:Val)(_ha:WS .val a)(_hb:WS .val b):zmy a b=some (z3b a b):=by
 unfold zmy z3b ordV;simp only[z2c6,z1gn,z123,orL,z15p];grind
def zat:FnC Un:=fun args=>match args with
 |[x0,x1]=>(dS .val x0).bind fun a=>(dS .val x1).bind fun b=>some ([],zac (z3b a b),zad (z3b a b))
 |_=>none
theorem zmz:FnOK 147 zat:=by
 intro args ob rs os h hob;unfold zat at h;split at h
 ·simp only[y7,y8,ym]at h;obtain⟨a,e0,b,e1,rfl,rfl,rfl⟩:=h;obtain rfl:=zr e0;obtain rfl:=zr e1;exact⟨zh1 (M:=zdu) rfl (z4o (l1:=[(193,zdt),(194,z8o),(192,z1go)]) (l2:=[]) (l3:=[]) (l4:=[]) (l5:=[]) ⟨zze,zpp,z2c7,trivial⟩ trivial trivial trivial trivial) Tryz.func147 (by rfl) z23b 0 [.d] (fun hwf=>z1lf (z1gp a b (z42 hwf (a:=.d (.agg (enc Ty.val a))) (ye (i:=0) rfl)) (z42 hwf (a:=.d (.agg (enc Ty.val b))) (ye (i:=1) rfl)))),zj Tryz.func147 (by rfl) (by rfl)⟩
 grind
def z2h:FV Un:=fun args=>match args with
 |[x0,x1]=>(dS .val (.d x0)).bind fun a=>(dS .val (.d x1)).bind fun b=>some ([],[.v (.s (.int .i64 (z3b a b)))])
 |_=>none
theorem zvn:FvOK 147 z2h:=by
 refine⟨zj Tryz.func147 (by rfl) (by rfl),fun args ob rs h hob=>?_⟩;unfold z2h at h;split at h
 ·simp only[y7,y8,ym]at h;obtain⟨a,e0,b,e1,rfl,rfl⟩:=h;simp;rw[zr e0];rw[zr e1];refine Contract.data (zmz _ ([]) _ _ (?_:zat _=some _) (by simp)).1;rfl
 grind
theorem ztw:z2h=z1g ordV:=by
 rfl
def zb8:Mc Un:=mcF_ [(194,z8o),(193,zdt)] [] [] [] []
def z4h(r:Int×Bool):List (A Un):=[.c (.s (.int .i64 r.1)),.c (.s (.bool r.2))]
def z4i(_r:Int×Bool):List (Ob Un):=[]
theorem z1gq(a:Val)(b:Val)(K:List (A Un)→List (Ob Un)→Prop):
  awp zb8 z23b (zk Tryz.f152) (z3c Tryz.f152.ntmps 0 [.d (.agg (enc Ty.val a)),.d (.agg (enc Ty.val b))]) (retQ zb8 Tryz.f152.results.toList [.d,.d] K)=
(cnd (a.kind !=b.kind)
 (K (z4h ((0:Int),false)) (z4i ((0:Int),false)))
 (cnd (decide (a.kind<(1:Int)))
  (K (z4h ((0:Int),false)) (z4i ((0:Int),false)))
  (cnd (decide (a.kind>(3:Int)))
   (K (z4h ((0:Int),false)) (z4i ((0:Int),false)))
   (cnd (a.kind==(3:Int))
    (K (z4h (strings_Compare a.s b.s,true)) (z4i (strings_Compare a.s b.s,true)))
    (K (z4h (z3a a.n b.n,true)) (z4i (z3a a.n b.n,true))))))):=by kernel_rfl
def zjb(a:Val)(b:Val):Option (Int×Bool):=
  if(a.kind !=b.kind)=true then
   some ((0:Int),false)
  else
   if(decide (a.kind<(1:Int)))=true then
    some ((0:Int),false)
   else
    if(decide (a.kind>(3:Int)))=true then
     some ((0:Int),false)
    else
     if(a.kind==(3:Int))=true then
      some (strings_Compare a.s b.s,true)
     else
      some (z3a a.n b.n,true)
theorem z1b4{a:Val}{b:Val}{r:Int×Bool}(h:zjb a b=some r):Runs (awp zb8 z23b (zk Tryz.f152) (z3c Tryz.f152.ntmps 0 [.d (.agg (enc Ty.val a)),.d (.agg (enc Ty.val b))]) (retQ zb8 Tryz.f152.results.toList [.d,.d] fun rs os=>rs=z4h r∧os=z4i r)):=by
 constructor;rw[z1gq a b (fun rs os=>rs=z4h r∧os=z4i r)];rcases z1n h with⟨c1,h2⟩|⟨c1,h2⟩
 ·cases h2;exact(z2d c1 ⟨rfl,rfl⟩)
 ·rcases z1n h2 with⟨c3,h4⟩|⟨c3,h4⟩
  ·cases h4;exact(z14 (zt c1) (z2d c3 ⟨rfl,rfl⟩))
  ·rcases z1n h4 with⟨c5,h6⟩|⟨c5,h6⟩
   ·cases h6;exact(z14 (zt c1) (z14 (zt c3) (z2d c5 ⟨rfl,rfl⟩)))
   ·rcases z1n h6 with⟨c7,h8⟩|⟨c7,h8⟩
    ·cases h8;exact(z14 (zt c1) (z14 (zt c3) (z14 (zt c5) (z2d c7 ⟨rfl,rfl⟩))))
    ·cases h8;exact(z14 (zt c1) (z14 (zt c3) (z14 (zt c5) (z14 (zt c7) ⟨rfl,rfl⟩))))
def z1t(a b:Val):Int×Bool:=cmpV a b
@[simp] theorem z1gr(a b:Val):z1t a b=cmpV a b:=by rfl
theorem z17s(a b:Val)(_ha:WS .val a)(_hb:WS .val b):zjb a b=some (z1t a b):=by
 unfold zjb z1t cmpV;simp;grind
def z89:FnC Un:=fun args=>match args with
 |[x0,x1]=>(dS .val x0).bind fun a=>(dS .val x1).bind fun b=>some ([],z4h (z1t a b),z4i (z1t a b))
 |_=>none
theorem zjc:FnOK 152 z89:=by
 intro args ob rs os h hob;unfold z89 at h;split at h
 ·simp only[y7,y8,ym]at h;obtain⟨a,e0,b,e1,rfl,rfl,rfl⟩:=h;obtain rfl:=zr e0;obtain rfl:=zr e1;exact⟨zh1 (M:=zb8) rfl (z4o (l1:=[(194,z8o),(193,zdt)]) (l2:=[]) (l3:=[]) (l4:=[]) (l5:=[]) ⟨zpp,zze,trivial⟩ trivial trivial trivial trivial) Tryz.func152 (by rfl) z23b 0 [.d,.d] (fun hwf=>z1b4 (z17s a b (z42 hwf (a:=.d (.agg (enc Ty.val a))) (ye (i:=0) rfl)) (z42 hwf (a:=.d (.agg (enc Ty.val b))) (ye (i:=1) rfl)))),zj Tryz.func152 (by rfl) (by rfl)⟩
 grind
end
end B
namespace B
open Go Go.RowKit
set_option maxRecDepth 100000
noncomputable section
attribute [local irreducible] awp ctxK zx z1f retQ z1l awf ctxF z1k
def z17t(r:Int):RF Un:=(zac r,zad r)
def z1lh:Nat→NS:=nsF_ [(2,{ts:=bl 39 14407,bs:=bl 39 0,nm:=[]})] false
def zau(s1:List Val)(s2:List Val)(p:Val→Val→Int)(v0:Int):S Un:=(st 39 39 156 0 [(0,al .val s1),(1,al .val s2),(2,AV.one (A.c (C.fv (z1g p)))),(6,ai (0:Int)),(11,al .val s1),(12,ai (↑s1.length:Int)),(13,ai v0)] [] [])
def zhr(s1:List Val)(s2:List Val)(p:Val→Val→Int)(v0:Int)(v1:Int):S Un:=(st 39 39 156 0 [(0,al .val s1),(1,al .val s2),(2,AV.one (A.c (C.fv (z1g p)))),(6,ai v1),(11,al .val s1),(12,ai (↑s1.length:Int)),(13,ai v0)] [] [])
def zgg:S Un→Option (EX Un):=lpF_ z1bz z1lh Tryz.f195 [1,0,1,2,2] 2
def z1ab:Exit→S Un→Option (RF Un):=cxF_ z1bz z1lh Tryz.f195 [1,0,1,2] [.d]
def z26e(s1:List Val)(s2:List Val)(p:Val→Val→Int):Option (RF Un):=fnF_ z1bz z1lh Tryz.f195 0 [.d] [.d (.v (.dat (U:=Un) Ty.val s1)),.d (.v (.dat (U:=Un) Ty.val s2)),.fn (z1g p)]
theorem z2hw(s1:List Val)(s2:List Val)(p:Val→Val→Int):z26e s1 s2 p=(zgg (zau s1 s2 p (0:Int))).bind (ze z1ab):=by kernel_rfl
theorem z1ac(s1:List Val)(s2:List Val)(p:Val→Val→Int)(v0:Int):zgg (zau s1 s2 p v0)=cndO (decide (v0<(↑s1.length:Int))) (obO (0≤v0∧v0<(↑s1.length:Int)) (cndO (decide (v0≥(↑s2.length:Int))) (some (.ret,(zhr s1 s2 p v0 (1:Int)))) (obO (0≤v0∧v0<(↑s2.length:Int)) (cndO (p (s1.getD v0.toNat z7) (s2.getD v0.toNat z7) !=0) (some (.ret,(zhr s1 s2 p v0 (p (s1.getD v0.toNat z7) (s2.getD v0.toNat z7))))) (zgg (zau s1 s2 p (IntKind.i64.wrap (v0+1)))))))) (some (.exit 0,(zau s1 s2 p v0))):=lpQ_ (by kernel_rfl)
theorem z1dn(s1:List Val)(s2:List Val)(p:Val→Val→Int)(v0:Int)(v1:Int):z1ab .ret (zhr s1 s2 p v0 v1)=some (z17t (v1)):=by kernel_rfl
theorem z28h(s1:List Val)(s2:List Val)(p:Val→Val→Int)(v0:Int):z1ab (.exit 0) (zau s1 s2 p v0)=cndO (decide ((↑s1.length:Int)<(↑s2.length:Int))) (some (z17t ((-1:Int)))) (some (z17t ((0:Int)))):=by kernel_rfl
def z124(p:Val→Val→Int):List Val→List Val→Int
 |[],[]=>0
 |[],_::_=>-1
 |_::_,[]=>1
 |a::l,b::r=>if p a b=0 then z124 p l r else p a b
def cmpR(s1 s2:List Val)(p:Val→Val→Int):Int:=z124 p s1 s2
theorem z2fe (s1 s2:List Val) (p:Val→Val→Int) (h1:WL .val s1) (h2:WL .val s2) : ∀ (ra rb:List Val) (i:Nat),s1.drop i=ra→s2.drop i=rb→i≤s1.length→i≤s2.length →
    (zgg (zau s1 s2 p (i:Int))).bind (ze z1ab)=some (z17t (z124 p ra rb)):=by
  have l1:=h1.len;intro ra
  induction ra with
  | nil =>
    intro rb i e1 e2 i1 i2
    have n1 : s1.length = i := by have : s1.length ≤ i := y1n.1 e1
                                  omega
    have hL:zgg (zau s1 s2 p (i:Int))=some (.exit 0,zau s1 s2 p (i:Int)):=by
      rw[z1ac,z8,if_neg (by rw[decide_eq_true_eq];omega)]
    rw[zg hL,z28h,z8];cases rb with
    | nil =>
      have : s2.length≤i:=y1n.1 e2;rw[if_neg (by rw[decide_eq_true_eq];omega)];rfl
    | cons y rb =>
      have hlt:i<s2.length:=by
        rcases yj i s2.length with h | h
        · exact h
        · rw[List.drop_eq_nil_of_le h] at e2;simp at e2
      rw[if_pos (by rw[decide_eq_true_eq];omega)];rfl
  | cons x ra ih =>
    intro rb i e1 e2 i1 i2;obtain⟨a1,a2,a3,_⟩:=z55 e1;cases rb with
    | nil =>
      have n2:s2.length≤i:=y1n.1 e2;have hL:zgg (zau s1 s2 p (i:Int))=some (.ret,zhr s1 s2 p (i:Int) 1):=by
        rw[z1ac,z8,if_pos (by rw[decide_eq_true_eq];omega),z6 (by omega),z8,if_pos (by rw[decide_eq_true_eq];omega)]
      rw[zg hL,z1dn];rfl
    | cons y rb =>
      obtain⟨b1,b2,b3,_⟩:=z55 e2;by_cases hxy : p x y=0
      · have hL:zgg (zau s1 s2 p (i:Int))=zgg (zau s1 s2 p ((i+1:Nat):Int)):=by
          rw[z1ac,z8,if_pos (by rw[decide_eq_true_eq];omega),z6 (by omega),z8,if_neg (by rw[decide_eq_true_eq];omega),z6 (by omega),y5,a2,b2,z8,if_neg (by simp [hxy]),z1u (by omega)];rfl
        rw[hL,ih rb (i+1) a3 b3 (by omega) (by omega)];simp only[z124,if_pos hxy]
      · have hL:zgg (zau s1 s2 p (i:Int))=some (.ret,zhr s1 s2 p (i:Int) (p x y)):=by
          rw[z1ac,z8,if_pos (by rw[decide_eq_true_eq];omega),z6 (by omega),z8,if_neg (by rw[decide_eq_true_eq];omega),z6 (by omega),y5,a2,b2,z8,if_pos (by simpa using hxy)]
        rw[zg hL,z1dn];simp only[z124,if_neg hxy]
theorem z2ca(s1 s2:List Val)(p:Val→Val→Int)(h1:WL .val s1)(h2:WL .val s2):z26e s1 s2 p=some (z17t (cmpR s1 s2 p)):=by
 rw[z2hw];exact z2fe s1 s2 p h1 h2 s1 s2 0 rfl rfl (ya _) (ya _)
def z204:FnC Un:=fun args=>match args with
 |[x0,x1,x2]=>(dL .val x0).bind fun s1=>(dL .val x1).bind fun s2=>(dF x2).bind fun p=>some ([p=(z1g (zl p))],zac (cmpR s1 s2 (zl p)),zad (cmpR s1 s2 (zl p)))
 |_=>none
theorem z2hx:FnOK 195 z204:=by
 intro args ob rs os h hob;unfold z204 at h;split at h
 ·simp only[y7,y8,ym]at h;obtain⟨s1,e0,s2,e1,p,e2,rfl,rfl,rfl⟩:=h;obtain rfl:=z11 e0;obtain rfl:=z11 e1;obtain rfl:=znm e2;have hfv0:=hob _ (ye (i:=0) rfl);generalize zl p=pp0 at*;subst hfv0;exact⟨z2f (M:=z1bz) rfl (z4o (l1:=[]) (l2:=[]) (l3:=[]) (l4:=[]) (l5:=[]) trivial trivial trivial trivial trivial) Tryz.func195 (by rfl) z1lh 0 [.d] (fun hwf=>(z2ca s1 s2 pp0 (z42 hwf (a:=.d (.v (.dat (U:=Un) Ty.val s1))) (ye (i:=0) rfl)) (z42 hwf (a:=.d (.v (.dat (U:=Un) Ty.val s2))) (ye (i:=1) rfl)))),zj Tryz.func195 (by rfl) (by rfl)⟩
 grind
def zzf:Mc Un:=mcF_ [(195,z204)] [(147,z2h)] [] [] []
def zvo(a:List Val)(b:List Val):Option (RF Un):=fnF_ zzf z23b Tryz.f149 0 [.d] [.d (.v (.dat (U:=Un) Ty.val a)),.d (.v (.dat (U:=Un) Ty.val b))]
theorem z1li(a:List Val)(b:List Val):zvo a b=obO (z2h=z1g (zl z2h)) (some (z2e (cmpR a b (zl z2h)))):=by kernel_rfl
def z2n(a b:List Val):Int:=ordR a b
theorem z1ti:∀a b:List Val,z124 ordV a b=ordR a b
 |[],[]=>rfl
 |[],_::_=>rfl
 |_::_,[]=>rfl
 |a::l,b::r=>by simp only[z124,ordR,z1ti l r]
theorem z1b5(a b:List Val)(_ha:WL .val a)(_hb:WL .val b):zvo a b=some (z2e (z2n a b)):=by
 have e:zl (z1g ordV)=ordV:=zeu ordV;rw[z1li,ztw,e,z6 rfl];unfold cmpR z2n;rw[z1ti]
def z77:FnC Un:=fnF2 (dL .val) (dL .val) fun a b=>([],z2e (z2n a b))
theorem zlq:FnOK 149 z77:=fnK2 z11 z11 (M:=zzf) rfl ⟨z2hx,trivial⟩ ⟨zvn,trivial⟩ trivial trivial trivial Tryz.func149 fun a b=>GiF.r fun w _=>z1b5 a b (wfA_ w 0) (wfA_ w 1)
end
end B
end Go.Proofs.YtjfpbchdcbhfgaaGreat
