/- Part 10 of the proof: Slight7 Slight8 Lnla Lscalar Lcompare Slcmp Svcmp Svord. -/
import Derived.Lib.Bytealg
import Derived.Lib.Strings
import Derived.Lib.Walk
import Derived.Test.YtjfpbchdcbhfgaaGreatNas9
set_option linter.unusedVariables false
set_option linter.unusedSimpArgs false
namespace Go.Proofs.YtjfpbchdcbhfgaaGreat
namespace B
open Go Go.RowKit
set_option maxRecDepth 100000
noncomputable section
attribute [local irreducible] awp ctxK zx z1d retQ z1o awf ctxF z1l
mutual
def tyT : Term→Prop
 | .mk op _ depth at_ _ kids sub _=>(op=2→0≤depth∧0≤at_)∧tyTs kids∧tyRs sub
def tyTs : List Term→Prop
 | []=>True
 | t::l=>tyT t∧tyTs l
def tyA : Agg→Prop
 | .mk _ _ t=>tyTs t
def tyAs : List Agg→Prop
 | []=>True
 | a::l=>tyA a∧tyAs l
def tyR : Rel→Prop
 | .mk op _ _ kids terms aggs _ _ _ _ _=>((op=9∨op=10∨op=11)→2≤kids.length)∧tyRs kids∧tyTs terms∧tyAs aggs
def tyRs : List Rel→Prop
 | []=>True
 | r::l=>tyR r∧tyRs l
end
theorem z2bp (t:Term) : tyT t↔((t.op=2→0≤t.depth∧0≤t.at_)∧tyTs t.kids∧tyRs t.sub):=by cases t;rfl
theorem z2bq (r:Rel) : tyR r↔(((r.op=9∨r.op=10∨r.op=11)→2≤r.kids.length)∧tyRs r.kids∧tyTs r.terms∧tyAs r.aggs):=by cases r;rfl
theorem z2br (a:Agg) : tyA a↔tyTs a.t:=by cases a;rfl
theorem z123 : ∀ {l:List Term},tyTs l→∀ t∈l,tyT t
 | x::l,h,t,ht=>by
  rcases yf.1 ht with rfl | ht
  ·exact h.1
  ·exact z123 h.2 t ht
theorem z1gh : ∀ {l:List Rel},tyRs l→∀ t∈l,tyR t
 | x::l,h,t,ht=>by
  rcases yf.1 ht with rfl | ht
  ·exact h.1
  ·exact z1gh h.2 t ht
theorem z1zu : ∀ {l:List Agg},tyAs l→∀ a∈l,tyA a
 | x::l,h,t,ht=>by
  rcases yf.1 ht with rfl | ht
  ·exact h.1
  ·exact z1zu h.2 t ht
noncomputable def endT (t:Term) (env:List (List Int)) (l:List Int) : Bool :=
 if t.op=1 then t.v.kind == 0 || t.v.kind == t.type
 else if t.op=2 then decide (t.depth<(env.length:Int)) && (decide (t.at_<((env.getD t.depth.toNat []).length:Int)) && (env.getD t.depth.toNat []).getD t.at_.toNat 0 == t.type)
 else if t.op=24 then (zmw t.name l).2 == 0 && (zmw t.name l).1 == t.type
 else if t.op=27 then t.type == 1
 else if t.op=26 then (t.sub.length:Int) == 1 && (((Rel.cols (t.sub.getD 0 z8)).length:Int) == 1 && ((Rel.cols (t.sub.getD 0 z8)).getD 0 z41).type == t.type)
 else if t.op=28 then (t.sub.length:Int) == 1 && (((Rel.cols (t.sub.getD 0 z8)).length:Int) == 1 && ((l.length:Int) == 1 && ((z5t (l.getD 0 0) ((Rel.cols (t.sub.getD 0 z8)).getD 0 z41).type).2 && t.type == 1)))
 else (zzf t.op l).2 == 0 && (zzf t.op l).1 == t.type
noncomputable def endR (r:Rel) : Bool:=(zfk r).2 && zvi (zfk r).1 (z1h r.cols)
mutual
noncomputable def tydT : Term→List (List Int)→Bool
 | .mk op v depth at_ name kids sub type,env=>z1ah kids env && z1l8 sub env && endT (.mk op v depth at_ name kids sub type) env (kids.map Term.type)
noncomputable def z1ah : List Term→List (List Int)→Bool
 | [],_=>true
 | t::l,env=>tydT t env && z1ah l env
noncomputable def tydA : Agg→List (List Int)→Bool
 | .mk _ _ t,env=>z1ah t env
noncomputable def z1xg : List Agg→List (List Int)→Bool
 | [],_=>true
 | a::l,env=>tydA a env && z1xg l env
noncomputable def tydR : Rel→List (List Int)→Bool
 | .mk op table cols kids terms aggs keys limit skip all rows,env=>z1l8 kids env && (rows.all (fun x=>z8m x cols) && (z1ah terms (z29 (.mk op table cols kids terms aggs keys limit skip all rows)::env) && (z1xg aggs (z29 (.mk op table cols kids terms aggs keys limit skip all rows)::env) && endR (.mk op table cols kids terms aggs keys limit skip all rows))))
noncomputable def z1l8 : List Rel→List (List Int)→Bool
 | [],_=>true
 | r::l,env=>tydR r env && z1l8 l env
end
theorem zvk (env:List (List Int)) : ∀ l : List Term,z1ah l env=l.all fun t=>tydT t env
 | []=>rfl
 | t::l=>by simp only[z1ah,y1h,zvk env l]
theorem z17b (env:List (List Int)) : ∀ l : List Rel,z1l8 l env=l.all fun t=>tydR t env
 | []=>rfl
 | t::l=>by simp only[z1l8,y1h,z17b env l]
theorem z1tg (env:List (List Int)) : ∀ l : List Agg,z1xg l env=l.all fun a=>a.t.all fun t=>tydT t env
 | []=>rfl
 | .mk _ _ t::l=>by simp only[z1xg,tydA,y1h,z1tg env l,zvk,Agg.t_mk]
theorem z2hk (t:Term) (env:List (List Int)) : tydT t env=(t.kids.all (fun k=>tydT k env) && t.sub.all (fun k=>tydR k env) && endT t env (t.kids.map Term.type)):=by cases t;simp only[tydT,zvk,z17b,Term.kids_mk,Term.sub_mk]
theorem z2hl (r:Rel) (env:List (List Int)) : tydR r env=(r.kids.all (fun k=>tydR k env) && (r.rows.all (fun x=>z8m x r.cols) && (r.terms.all (fun t=>tydT t (z29 r::env)) && (r.aggs.all (fun a=>a.t.all fun t=>tydT t (z29 r::env)) && endR r)))):=by
 cases r;simp only[tydR,zvk,z17b,z1tg,Rel.kids_mk,Rel.terms_mk,Rel.aggs_mk,Rel.rows_mk,Rel.cols_mk]
noncomputable def zb3 (t:Term) (env:List (List Int)) : Bool:=tydT t env
noncomputable def z97 (r:Rel) (env:List (List Int)) : Bool:=tydR r env
def zle (m:Nat) : FnC Un:=fnF2 (dS .term) (dL .ints) fun t env=>z2l (2*t.ht) m ([t.sz≤2000000,clT t≤2000000000,tyT t,env.length+t.ht≤8000000],z8y (zb3 t env))
def zlf (m:Nat) : FnC Un:=fnF2 (dS .rel) (dL .ints) fun r env=>z2l (2*r.ht+1) m ([r.sz≤2000000,clR r≤2000000000,tyR r,env.length+r.ht≤8000000],z8y (z97 r env))
def ze7 (m:Nat) : Mc Un:=mcF_ [(24,zle m),(42,zlf m),(60,z1kz),(61,zry),(62,z1zo)] [] [] [] []
def zhq : Nat→NS:=nsF_ [(3,{ ts:=bl 198 118,bs:=bl 198 4,nm:=[(.sl 5,792)],cs:=true }),(9,{ ts:=bl 198 182,bs:=bl 198 4,nm:=[(.sl 5,793)],cs:=true })] true
def z7y (t:Term) (env:List (List Int)) (v0:Int) (v1:List Int) : S Un:=(st 198 198 794 0 [(1,al .ints env),(2,ax 2),(4,ab false),(5,ao 792),(6,ai v0)] [(2,bg .term t)] [(792,some ⟨(0:Nat),Ty.int,v1,some (0:Nat),true⟩)])
def z6k (t:Term) (env:List (List Int)) (v1:List Int) (v2:Int) : S Un:=(st 198 198 794 0 [(1,al .ints env),(2,ax 2),(4,ab false),(5,ao 793),(7,ai v2)] [(2,bg .term t)] [(793,some ⟨(0:Nat),Ty.int,v1,some (0:Nat),true⟩)])
def zlg (m:Nat) : S Un→Option (EX Un):=lpF_ (ze7 m) zhq Tryz.f24 [1,1,0,1,2,2] 3
def zlh (m:Nat) : S Un→Option (EX Un):=lpF_ (ze7 m) zhq Tryz.f24 [1,1,1,0,1,2,2] 9
def zli (m:Nat) : Exit→S Un→Option (RF Un):=cxF_ (ze7 m) zhq Tryz.f24 [1,1,0,1,2] [.d]
def zfl (m:Nat) : Exit→S Un→Option (RF Un):=cxF_ (ze7 m) zhq Tryz.f24 [1,1,1,0,1,2] [.d]
def z17c (m:Nat) (t:Term) (env:List (List Int)) : Option (RF Un):=fnF_ (ze7 m) zhq Tryz.f24 2 [.d] [.d (.agg (enc Ty.term t)),.d (.v (.dat (U:=Un) Ty.ints env))]
theorem z1zv (m:Nat) (t:Term) (env:List (List Int)) : z17c m t env=(zlg m (z7y t env (0:Int) ([]))).bind (zb (zli m)):=by kernel_rfl
theorem z17d (m:Nat) (t:Term) (env:List (List Int)) (v0:Int) (v1:List Int) : zlg m (z7y t env v0 v1)=cndO (decide (v0<(↑t.kids.length:Int))) (obO (0≤v0∧v0<(↑t.kids.length:Int)) (obO ((2:Nat)*(Term.ids (t.kids.getD v0.toNat za)).ht<m) (obO ((Term.ids (t.kids.getD v0.toNat za)).sz≤(2000000:Nat)) (obO (clT (Term.ids (t.kids.getD v0.toNat za))≤(2000000000:Nat)) (obO (tyT (Term.ids (t.kids.getD v0.toNat za))) (obO (env.length+(Term.ids (t.kids.getD v0.toNat za)).ht≤(8000000:Nat)) (cndO (!zb3 (Term.ids (t.kids.getD v0.toNat za)) env) (some (.ret,(z7y t env v0 v1))) (obO (0≤v0∧v0<(↑t.kids.length:Int)) (obO ((v1.length+[Term.type (t.kids.getD v0.toNat za)].length)*(8:Nat)≤zf) (zlg m (z7y t env (IntKind.i64.wrap (v0+1)) (v1++[Term.type (t.kids.getD v0.toNat za)])))))))))))) (some (.exit 0,(z7y t env v0 v1))):=lpQ_ (by kernel_rfl)
theorem z1gi (m:Nat) (t:Term) (env:List (List Int)) (v0:Int) (v1:List Int) : zli m .ret (z7y t env v0 v1)=some (z8y (false)):=by kernel_rfl
theorem z1l9 (m:Nat) (t:Term) (env:List (List Int)) (v0:Int) (v1:List Int) : zli m (.exit 0) (z7y t env v0 v1)=(zlh m (z6k t env v1 (0:Int))).bind (zb (zfl m)):=by kernel_rfl
theorem z17e (m:Nat) (t:Term) (env:List (List Int)) (v1:List Int) (v2:Int) : zlh m (z6k t env v1 v2)=cndO (decide (v2<(↑t.sub.length:Int))) (obO (0≤v2∧v2<(↑t.sub.length:Int)) (obO ((2:Nat)*(Rel.ids (t.sub.getD v2.toNat z8)).ht+(1:Nat)<m) (obO ((Rel.ids (t.sub.getD v2.toNat z8)).sz≤(2000000:Nat)) (obO (clR (Rel.ids (t.sub.getD v2.toNat z8))≤(2000000000:Nat)) (obO (tyR (Rel.ids (t.sub.getD v2.toNat z8))) (obO (env.length+(Rel.ids (t.sub.getD v2.toNat z8)).ht≤(8000000:Nat)) (cndO (!z97 (Rel.ids (t.sub.getD v2.toNat z8)) env) (some (.ret,(z6k t env v1 v2))) (zlh m (z6k t env v1 (IntKind.i64.wrap (v2+1))))))))))) (some (.exit 2,(z6k t env v1 v2))):=lpQ_ (by kernel_rfl)
theorem z1gj (m:Nat) (t:Term) (env:List (List Int)) (v1:List Int) (v2:Int) : zfl m .ret (z6k t env v1 v2)=some (z8y (false)):=by kernel_rfl
theorem z1la (m:Nat) (t:Term) (env:List (List Int)) (v1:List Int) (v2:Int) : zfl m (.exit 2) (z6k t env v1 v2)=cndO (t.op == 1) (cndO (t.v.kind == 0) (some (z8y (true))) (some (z8y (t.v.kind == t.type)))) (cndO (t.op == 2) (cndO (decide (t.depth<(↑env.length:Int))) (obO (0≤t.depth∧t.depth<(↑env.length:Int)) (cndO (decide (t.at_<(↑(List.length (env.getD t.depth.toNat [])):Int))) (obO (0≤t.depth∧t.depth<(↑env.length:Int)) (obO (0≤t.at_∧t.at_<(↑(List.length (env.getD t.depth.toNat [])):Int)) (some (z8y (List.getD (env.getD t.depth.toNat []) t.at_.toNat (0:Int) == t.type))))) (some (z8y (false))))) (some (z8y (false)))) (cndO (t.op == 24) (cndO ((zmw t.name v1).snd == 0) (some (z8y ((zmw t.name v1).fst == t.type))) (some (z8y (false)))) (cndO (t.op == 27) (some (z8y (t.type == 1))) (cndO (t.op == 26) (cndO ((↑t.sub.length:Int) == (1:Int)) (obO ((0:Int)≤(0:Int)∧(0:Int)<(↑t.sub.length:Int)) (cndO ((↑(Rel.cols (t.sub.getD 0 z8)).length:Int) == (1:Int)) (obO ((0:Int)≤(0:Int)∧(0:Int)<(↑t.sub.length:Int)) (obO ((0:Int)≤(0:Int)∧(0:Int)<(↑(Rel.cols (t.sub.getD 0 z8)).length:Int)) (some (z8y (((Rel.cols (t.sub.getD 0 z8)).getD 0 z41).type == t.type))))) (some (z8y (false))))) (some (z8y (false)))) (cndO (t.op == 28) (cndO ((↑t.sub.length:Int) != (1:Int)) (some (z8y (false))) (obO ((0:Int)≤(0:Int)∧(0:Int)<(↑t.sub.length:Int)) (cndO ((↑(Rel.cols (t.sub.getD 0 z8)).length:Int) != (1:Int)) (some (z8y (false))) (cndO ((↑v1.length:Int) != (1:Int)) (some (z8y (false))) (obO ((0:Int)≤(0:Int)∧(0:Int)<(↑v1.length:Int)) (obO ((0:Int)≤(0:Int)∧(0:Int)<(↑t.sub.length:Int)) (obO ((0:Int)≤(0:Int)∧(0:Int)<(↑(Rel.cols (t.sub.getD 0 z8)).length:Int)) (cndO ((z5t (v1.getD 0 (0:Int)) ((Rel.cols (t.sub.getD 0 z8)).getD 0 z41).type).snd) (some (z8y (t.type == 1))) (some (z8y (false))))))))))) (obO (v1.length≤(2000000:Nat)) (cndO ((zzf t.op v1).snd == 0) (some (z8y ((zzf t.op v1).fst == t.type))) (some (z8y (false)))))))))):=by kernel_rfl
theorem zvl {α β:Type} {L:S Un→Option (EX Un)} {st:Int→S Un} {C:Exit→S Un→Option β} (R:Bool→Option β) {l:List α} {d:α} {e:Exit} (q:α→Bool) (hl:l.length≤9223372036854775807)
  (step:∀ (i:Nat) (x:α),(i:Int)<(l.length:Int)→l.getD i d=x→x∈l→L (st i)=if q x=true then L (st (IntKind.i64.wrap ((i:Int)+1))) else some (.ret,st i))
  (stop:L (st (l.length:Int))=some (e,st (l.length:Int))) (r1:∀ i : Int,C .ret (st i)=R false) (r2:C e (st (l.length:Int))=R true) : (L (st 0)).bind (zb C)=R (l.all q):=by
 have key:∀ (k i:Nat),i+k=l.length→(L (st i)).bind (zb C)=R ((l.drop i).all q):=by
  intro k
  induction k with
  | zero =>
   intro i hi;obtain rfl : i=l.length:=by omega
   rw[stop,y47];exact r2
  | succ k ih =>
   intro i hi;have hlt:i<l.length:=by omega
   rw[step i l[i] (by omega) (by rw[yd,y9 hlt];rfl) (y21 hlt),y1v hlt,y1h];cases hq : q l[i]
   ·rw[if_neg (by decide)];exact r1 _
   ·rw[if_pos rfl,z1s (by omega),y1c];exact ih (i+1) (by omega)
 exact key l.length 0 (by omega)
theorem z9n {R:Bool→RF Un} {a x:Bool} {X:Option (RF Un)} (h:a=true→X=some (R x)) : cndO a X (some (R false))=some (R (a && x)):=by
 cases a
 ·rfl
 ·exact h rfl
theorem z2jb {R:Bool→RF Un} {a x:Bool} {X:Option (RF Un)} (h:a=false→X=some (R x)) : cndO a (some (R true)) X=some (R (a || x)):=by
 cases a
 ·exact h rfl
 ·rfl
theorem z124 {R:Bool→RF Un} {a b x:Bool} {X:Option (RF Un)} (e:a=!b) (h:b=true→X=some (R x)) : cndO a (some (R false)) X=some (R (b && x)):=by
 subst e;cases b
 ·rfl
 ·exact h rfl
theorem zzg {R:Bool→RF Un} {a:Bool} {p:Prop} [Decidable p] {x y:Bool} {X Y:Option (RF Un)} (e:(a=true)↔p) (hx:p→X=some (R x)) (hy:Y=some (R y)) : cndO a X Y=some (R (if p then x else y)):=by
 cases a
 ·rw[if_neg (fun c=>Bool.false_ne_true (e.2 c))];exact hy
 ·rw[if_pos (e.1 rfl)];exact hx (e.1 rfl)
theorem z2hm (m:Nat) (t:Term) (env:List (List Int)) (l:List Int) (i:Int) (h:l.length≤2000000) (hy:t.op=2→0≤t.depth∧0≤t.at_) : zfl m (.exit 2) (z6k t env l i)=some (z8y (endT t env l)):=by
 rw[z1la];unfold endT;have q:∀ k : Int,((t.op == k)=true)↔t.op=k:=fun k=>beq_iff_eq;refine zzg (q 1) (fun _=>z2jb fun _=>rfl) (zzg (q 2) (fun c=>?_) (zzg (q 24) (fun _=>z9n fun _=>rfl) (zzg (q 27) (fun _=>rfl) (zzg (q 26) (fun _=>z9n fun c=>?_) (zzg (q 28) (fun _=>z124 rfl fun c=>?_) ?_)))))
 ·refine z9n fun c1=>?_;rw[decide_eq_true_eq] at c1;rw[z6 ⟨(hy c).1,c1⟩];refine z9n fun c2=>?_;rw[decide_eq_true_eq] at c2;rw[z6 ⟨(hy c).1,c1⟩,z6 ⟨(hy c).2,c2⟩]
 ·rw[beq_iff_eq] at c;rw[z6 (by omega)];refine z9n fun c2=>?_;rw[beq_iff_eq] at c2;rw[z6 (by omega),z6 (by omega)]
 ·rw[beq_iff_eq] at c;rw[z6 (by omega)];refine z124 rfl fun c2=>z124 rfl fun c3=>?_;rw[beq_iff_eq] at c2 c3;rw[z6 (by omega),z6 (by omega),z6 (by omega)];exact z9n fun _=>rfl
 ·rw[z6 h];exact z9n fun _=>rfl
theorem z1q6 (m:Nat) (t:Term) (env:List (List Int)) (ht:WS .term t) (_he:WL .ints env) (hm:2*t.ht<m+1) (h:t.sz≤2000000) (hc:clT t≤2000000000) (hy:tyT t) (hl:env.length+t.ht≤8000000) : z17c m t env=some (z8y (zb3 t env)):=by
 obtain⟨y1,y2,y3⟩:=(z2bp t).1 hy;have c0:=z1zt t;have h3:=t.sz_eq;have hkl:=z5s t.kids
 have l2:=zvl (L:=zlh m) (st:=fun i=>z6k t env (t.kids.map Term.type) i) (C:=zfl m) (e:=.exit 2) (fun b=>some (z8y (b && endT t env (t.kids.map Term.type)))) (l:=t.sub) (d:=z8) (fun r=>tydR r env) (ht.term_sub).len
  (fun i k hi hk hmem=>by
   have h1:=Term.ht_sub hmem;have h2:=zkm hmem;have h4:=zfg hmem;rw[z17e];simp only[z7,hi,decide_true,if_true,and_true,y5,hk,Rel.ids_eq];rw[z6 (by omega),z6 (by omega),z6 (by omega),z6 (by omega),z6 (z1gh y3 k hmem),z6 (by omega)];unfold z97
   cases tydR k env<;>rfl)
  (by rw[z17e];simp [z7]) (fun i=>by rw[y1w];exact z1gj _ _ _ _ _)
  (by rw[y1c];exact z2hm m t env _ _ (by rw[yu];omega) y1)
 rw[z1zv,zb3,z2hk,y3n]
 exact zvl (L:=zlg m) (st:=fun i=>z7y t env i ((t.kids.take i.toNat).map Term.type)) (C:=zli m) (e:=.exit 0) (fun b=>some (z8y (b && (t.sub.all (fun r=>tydR r env) && endT t env (t.kids.map Term.type))))) (l:=t.kids) (d:=za) (fun t=>tydT t env) (ht.term_kids).len
  (fun i k hi hk hmem=>by
   have h1:=Term.ht_kid hmem;have h2:=zkl hmem;have h4:=zje hmem;have hil:i<t.kids.length:=by omega
   have e:(t.kids.take (i+1)).map Term.type=(t.kids.take i).map Term.type++[k.type]:=by
    rw[y3b,y3o,← hk,yd,y9 hil];rfl
   rw[z17d,z3p hil (ht.term_kids).len];simp only[z7,hi,decide_true,if_true,and_true,y5,hk,Term.ids_eq];rw[z6 (by omega),z6 (by omega),z6 (by omega),z6 (by omega),z6 (z123 y2 k hmem),z6 (by omega),z6 (by omega),z6 (by unfold zf;rw[yu,yw,yg];omega),← e];unfold zb3
   cases tydT k env<;>rfl)
  (by rw[z17d];simp [z7]) (fun i=>by rw[y1w];exact z1gi _ _ _ _ _) (by
   rw[y1c,z1l9,y5,y36]
   exact l2)
abbrev z1gk (m:Nat) : Prop:=FnOK 24 (zle m)∧FnOK 42 (zlf m)
theorem z1vv (m:Nat) (hG:z1gk m) : FnOK 24 (zle (m+1)):=fnK2 zo zw (M:=(ze7 m)) rfl ⟨hG.1,hG.2,z24c,zxm,z2bk,trivial⟩ trivial trivial trivial trivial Tryz.func24 fun t env=>GiF.r fun w o=>z1q6 m t env (wfA_ w 0) (wfA_ w 1) (obA_ o 0) (obA_ o 1) (obA_ o 2) (obA_ o 3) (obA_ o 4)
def z4u (m:Nat) : Mc Un:=mcF_ [(42,zlf m),(79,z1g7),(80,zxv),(24,zle m),(81,z1l7),(25,zoj),(31,z1dm)] [] [] [] []
def z3m : Nat→NS:=nsF_ [(2,{ ts:=bl 107 54,bs:=bl 107 4,nm:=[],cs:=true }),(7,{ ts:=bl 107 86,bs:=bl 107 4,nm:=[],cs:=true }),(13,{ ts:=bl 107 404,bs:=bl 107 4,nm:=[(.sl 7,428)],cs:=true }),(18,{ ts:=bl 107 660,bs:=bl 107 4,nm:=[(.sl 7,429)],cs:=true }),(21,{ ts:=bl 107 1684,bs:=bl 107 4,nm:=[(.sl 7,430)],cs:=true })] true
def zlj (r:Rel):=zfk (Rel.mk r.op r.table r.cols r.kids r.terms r.aggs r.keys r.limit r.skip r.all r.rows)
def z7z (r:Rel) (env:List (List Int)) (v0:Int) : S Un:=(st 107 107 431 0 [(1,al .ints env),(2,ax 2),(4,ab false),(5,ai v0)] [(2,bg .rel r)] [])
def z80 (r:Rel) (env:List (List Int)) (v1:Int) : S Un:=(st 107 107 431 0 [(1,al .ints env),(2,ax 2),(4,ab false),(6,ai v1)] [(2,bg .rel r)] [])
def z6w (r:Rel) (env:List (List Int)) (v2:Int) : S Un:=(st 107 107 431 0 [(2,ax 2),(4,ab false),(7,ao 428),(8,ai v2)] [(2,bg .rel r)] [(428,some ⟨(0:Nat),Ty.ints,z29 (Rel.ids r)::env,some (0:Nat),true⟩)])
def z4v (r:Rel) (env:List (List Int)) (v3:Int) : S Un:=(st 107 107 431 0 [(2,ax 2),(4,ab false),(7,ao 429),(9,ai v3)] [(2,bg .rel r)] [(429,some ⟨(0:Nat),Ty.ints,z29 (Rel.ids r)::env,some (0:Nat),true⟩)])
def z6x (r:Rel) (env:List (List Int)) (v3:Int) (v4:Int) : S Un:=(st 107 107 431 0 [(2,ax 2),(4,ab false),(7,ao 430),(9,ai v3),(10,ai v4)] [(2,bg .rel r)] [(430,some ⟨(0:Nat),Ty.ints,z29 (Rel.ids r)::env,some (0:Nat),true⟩)])
def zlk (m:Nat) : S Un→Option (EX Un):=lpF_ (z4u m) z3m Tryz.f42 [1,0,1,2,2] 2
def zll (m:Nat) : S Un→Option (EX Un):=lpF_ (z4u m) z3m Tryz.f42 [1,1,0,1,2,2] 7
def zii (m:Nat) : S Un→Option (EX Un):=lpF_ (z4u m) z3m Tryz.f42 [1,1,1,1,0,1,2,2] 13
def zaq (m:Nat) : S Un→Option (EX Un):=lpF_ (z4u m) z3m Tryz.f42 [1,1,1,1,1,0,1,2,2] 18
noncomputable def z13m : Code:=sub (sub (zi Tryz.f42) [1,1,1,1,1,0,1,2,2]) [1,0,2,1,2,2]
def zij (m:Nat) : S Un→Option (EX Un):=z1l (z3m 21) (fun s Q=>awf (z4u m) z3m z13m s Q)
def zlm (m:Nat) : Exit→S Un→Option (RF Un):=cxF_ (z4u m) z3m Tryz.f42 [1,0,1,2] [.d]
def zln (m:Nat) : Exit→S Un→Option (RF Un):=cxF_ (z4u m) z3m Tryz.f42 [1,1,0,1,2] [.d]
def zik (m:Nat) : Exit→S Un→Option (RF Un):=cxF_ (z4u m) z3m Tryz.f42 [1,1,1,1,0,1,2] [.d]
def zil (m:Nat) : Exit→S Un→Option (RF Un):=cxF_ (z4u m) z3m Tryz.f42 [1,1,1,1,1,0,1,2] [.d]
def zim (m:Nat) : Exit→S Un→Option (EX Un):=ctxF (z4u m) z3m (sub (zi Tryz.f42) [1,1,1,1,1,0,1,2,2]) [1,0,2,1,2] (zby (z3m 18) (zaq m))
def z17f (m:Nat) (r:Rel) (env:List (List Int)) : Option (RF Un):=fnF_ (z4u m) z3m Tryz.f42 3 [.d] [.d (.agg (enc Ty.rel r)),.d (.v (.dat (U:=Un) Ty.ints env))]
theorem z1zw (m:Nat) (r:Rel) (env:List (List Int)) : z17f m r env=(zlk m (z7z r env (0:Int))).bind (zb (zlm m)):=by kernel_rfl
theorem z17g (m:Nat) (r:Rel) (env:List (List Int)) (v0:Int) : zlk m (z7z r env v0)=cndO (decide (v0<(↑r.kids.length:Int))) (obO (0≤v0∧v0<(↑r.kids.length:Int)) (obO ((2:Nat)*(Rel.ids (r.kids.getD v0.toNat z8)).ht+(1:Nat)<m) (obO ((Rel.ids (r.kids.getD v0.toNat z8)).sz≤(2000000:Nat)) (obO (clR (Rel.ids (r.kids.getD v0.toNat z8))≤(2000000000:Nat)) (obO (tyR (Rel.ids (r.kids.getD v0.toNat z8))) (obO (env.length+(Rel.ids (r.kids.getD v0.toNat z8)).ht≤(8000000:Nat)) (cndO (!z97 (Rel.ids (r.kids.getD v0.toNat z8)) env) (some (.ret,(z7z r env v0))) (zlk m (z7z r env (IntKind.i64.wrap (v0+1))))))))))) (some (.exit 0,(z7z r env v0))):=lpQ_ (by kernel_rfl)
theorem z1gl (m:Nat) (r:Rel) (env:List (List Int)) (v0:Int) : zlm m .ret (z7z r env v0)=some (z8y (false)):=by kernel_rfl
theorem z1lb (m:Nat) (r:Rel) (env:List (List Int)) (v0:Int) : zlm m (.exit 0) (z7z r env v0)=(zll m (z80 r env (0:Int))).bind (zb (zln m)):=by kernel_rfl
theorem z17h (m:Nat) (r:Rel) (env:List (List Int)) (v1:Int) : zll m (z80 r env v1)=cndO (decide (v1<(↑r.rows.length:Int))) (obO (0≤v1∧v1<(↑r.rows.length:Int)) (cndO (!z8m (r.rows.getD v1.toNat []) r.cols) (some (.ret,(z80 r env v1))) (zll m (z80 r env (IntKind.i64.wrap (v1+1)))))) (some (.exit 2,(z80 r env v1))):=lpQ_ (by kernel_rfl)
theorem z1gm (m:Nat) (r:Rel) (env:List (List Int)) (v1:Int) : zln m .ret (z80 r env v1)=some (z8y (false)):=by kernel_rfl
theorem z1lc (m:Nat) (r:Rel) (env:List (List Int)) (v1:Int) : zln m (.exit 2) (z80 r env v1)=obO (clR (Rel.ids r)≤(2000000000:Nat)) (obO (([z29 (Rel.ids r)].length+env.length)*(24:Nat)≤zf) ((zii m (z6w r env (0:Int))).bind (zb (zik m)))):=by kernel_rfl
theorem z13n (m:Nat) (r:Rel) (env:List (List Int)) (v2:Int) : zii m (z6w r env v2)=cndO (decide (v2<(↑r.terms.length:Int))) (obO (0≤v2∧v2<(↑r.terms.length:Int)) (obO ((2:Nat)*(Term.ids (r.terms.getD v2.toNat za)).ht<m) (obO ((Term.ids (r.terms.getD v2.toNat za)).sz≤(2000000:Nat)) (obO (clT (Term.ids (r.terms.getD v2.toNat za))≤(2000000000:Nat)) (obO (tyT (Term.ids (r.terms.getD v2.toNat za))) (obO ((z29 (Rel.ids r)::env).length+(Term.ids (r.terms.getD v2.toNat za)).ht≤(8000000:Nat)) (cndO (!zb3 (Term.ids (r.terms.getD v2.toNat za)) (z29 (Rel.ids r)::env)) (some (.ret,(z6w r env v2))) (zii m (z6w r env (IntKind.i64.wrap (v2+1))))))))))) (some (.exit 4,(z6w r env v2))):=lpQ_ (by kernel_rfl)
theorem z1b6 (m:Nat) (r:Rel) (env:List (List Int)) (v2:Int) : zik m .ret (z6w r env v2)=some (z8y (false)):=by kernel_rfl
theorem z1gn (m:Nat) (r:Rel) (env:List (List Int)) (v2:Int) : zik m (.exit 4) (z6w r env v2)=(zaq m (z4v r env (0:Int))).bind (zb (zil m)):=by kernel_rfl
theorem z13o (m:Nat) (r:Rel) (env:List (List Int)) (v3:Int) : zaq m (z4v r env v3)=cndO (decide (v3<(↑r.aggs.length:Int))) ((zij m (z6x r env v3 (0:Int))).bind (zb (zim m))) (some (.exit 6,(z4v r env v3))):=lpQ_ (by kernel_rfl)
theorem z1go (m:Nat) (r:Rel) (env:List (List Int)) (v3:Int) : zil m (.exit 6) (z4v r env v3)=obO (z179 (Rel.ids r)) (cndO ((zlj r).snd) (obO (r.cols.length≤(2000000000:Nat)) (some (z8y (zvi (zlj r).fst (z1h r.cols))))) (some (z8y (false)))):=by kernel_rfl
theorem z13p (m:Nat) (r:Rel) (env:List (List Int)) (v3:Int) (v4:Int) : zij m (z6x r env v3 v4)=obO (0≤v3∧v3<(↑r.aggs.length:Int)) (cndO (decide (v4<(↑(Agg.t (r.aggs.getD v3.toNat zn)).length:Int))) (obO (0≤v3∧v3<(↑r.aggs.length:Int)) (obO (0≤v4∧v4<(↑(Agg.t (r.aggs.getD v3.toNat zn)).length:Int)) (obO ((2:Nat)*(Term.ids ((Agg.t (r.aggs.getD v3.toNat zn)).getD v4.toNat za)).ht<m) (obO ((Term.ids ((Agg.t (r.aggs.getD v3.toNat zn)).getD v4.toNat za)).sz≤(2000000:Nat)) (obO (clT (Term.ids ((Agg.t (r.aggs.getD v3.toNat zn)).getD v4.toNat za))≤(2000000000:Nat)) (obO (tyT (Term.ids ((Agg.t (r.aggs.getD v3.toNat zn)).getD v4.toNat za))) (obO ((z29 (Rel.ids r)::env).length+(Term.ids ((Agg.t (r.aggs.getD v3.toNat zn)).getD v4.toNat za)).ht≤(8000000:Nat)) (cndO (!zb3 (Term.ids ((Agg.t (r.aggs.getD v3.toNat zn)).getD v4.toNat za)) (z29 (Rel.ids r)::env)) (some (.ret,(z6x r env v3 v4))) (zij m (z6x r env v3 (IntKind.i64.wrap (v4+1)))))))))))) (some (.exit 8,(z6x r env v3 v4)))):=(zbe (z3m 21) z13m _).trans (by kernel_rfl)
theorem z1b7 (m:Nat) (r:Rel) (env:List (List Int)) (v3:Int) (v4:Int) : zim m .ret (z6x r env v3 v4)=some (.ret,(z4v r env v3)):=by kernel_rfl
theorem z1b8 (m:Nat) (r:Rel) (env:List (List Int)) (v3:Int) : zil m .ret (z4v r env v3)=some (z8y (false)):=by kernel_rfl
theorem z1gp (m:Nat) (r:Rel) (env:List (List Int)) (v3:Int) (v4:Int) : zim m (.exit 8) (z6x r env v3 v4)=zaq m (z4v r env (IntKind.i64.wrap (v3+1))):=by kernel_rfl
theorem z1q7 (m:Nat) (r:Rel) (env:List (List Int)) (hr:WS .rel r) (_he:WL .ints env) (hm:2*r.ht+1<m+1) (h:r.sz≤2000000) (hc:clR r≤2000000000) (hy:tyR r) (hl:env.length+r.ht≤8000000) : z17f m r env=some (z8y (z97 r env)):=by
 obtain⟨y1,y2,y3,y4⟩:=(z2bq r).1 hy;obtain⟨p1,p2⟩:=ztj r;have c0:=zff r;have h3:=r.sz_eq;have hcr:zlj r=zfk r:=by unfold zlj;exact congrArg zfk (by cases r;rfl)
 have l4:=z2s (L:=zaq m) (st:=fun i=>z4v r env i) (C:=zil m) (e:=.exit 6) (fun b=>some (z8y (b && endR r))) (l:=r.aggs) (d:=zn) (fun a=>a.t.all fun t=>tydT t (z29 r::env)) (hr.rel_aggs).len
  (fun i k hi hk hmem=>by
   have hka:=z1ge hmem;rw[z2bl] at hka
   have li:=z2s (L:=zij m) (st:=fun j=>z6x r env i j) (C:=zim m) (e:=.exit 8) (fun b=>if b=true then zaq m (z4v r env (IntKind.i64.wrap ((i:Int)+1))) else some (.ret,z4v r env i)) (l:=k.t) (d:=za) (fun t=>tydT t (z29 r::env)) (by have:=z5s k.t;have:=zms hmem;have:=k.sz_eq;omega)
    (fun j t hj ht htm=>by
     obtain⟨h1,h2⟩:=p2 k hmem t htm;have h4:=zje htm;rw[z13p];simp only[hk,z7,hi,hj,decide_true,if_true,and_true,y5,ht,Term.ids_eq,Rel.ids_eq];rw[z6 (by omega),z6 (by omega),z6 (by omega),z6 (by omega),z6 (by omega),z6 (by omega),z6 (z123 ((z2br k).1 (z1zu y4 k hmem)) t htm),z6 (by rw[yn];omega)];unfold zb3
     cases tydT t (z29 r::env)<;>rfl)
    (by rw[z13p];simp only[z7,y5,hk,decide_eq_true_eq];rw[z6 (by omega),if_neg (by omega)]) (fun j=>z1b7 _ _ _ _ _) (fun j=>z1gp _ _ _ _ _)
   rw[z13o];simp only[z7,hi,decide_true,if_true]
   exact li)
  (by rw[z13o];simp [z7]) (fun i=>by rw[y1w];exact z1b8 _ _ _ _) (fun i=>by
   rw[y1c,z1go,hcr,Rel.ids_eq,z6 (show z179 r from ⟨y1,h,hc⟩),z6 (show r.cols.length≤2000000000 by omega)];unfold endR
   cases (zfk r).2<;>rfl)
 have l3:=z2s (L:=zii m) (st:=fun i=>z6w r env i) (C:=zik m) (e:=.exit 4) (fun b=>some (z8y (b && (r.aggs.all (fun a=>a.t.all fun t=>tydT t (z29 r::env)) && endR r)))) (l:=r.terms) (d:=za) (fun t=>tydT t (z29 r::env)) (hr.rel_terms).len
  (fun i k hi hk hmem=>by
   obtain⟨h1,h2⟩:=p1 k hmem;have h4:=zje hmem;rw[z13n];simp only[z7,hi,decide_true,if_true,and_true,y5,hk,Term.ids_eq,Rel.ids_eq];rw[z6 (by omega),z6 (by omega),z6 (by omega),z6 (by omega),z6 (z123 y3 k hmem),z6 (by rw[yn];omega)];unfold zb3
   cases tydT k (z29 r::env)<;>rfl)
  (by rw[z13n];simp [z7]) (fun i=>by rw[y1w];exact z1b6 _ _ _ _) (fun i=>by rw[y1c];exact (z1gn _ _ _ _).trans l4)
 have l2:=z2s (L:=zll m) (st:=fun i=>z80 r env i) (C:=zln m) (e:=.exit 2) (fun b=>some (z8y (b && (r.terms.all (fun t=>tydT t (z29 r::env)) && (r.aggs.all (fun a=>a.t.all fun t=>tydT t (z29 r::env)) && endR r))))) (l:=r.rows) (d:=[]) (fun x=>z8m x r.cols) (hr.rel_rows).len
  (fun i k hi hk hmem=>by
   rw[z17h];simp only[z7,hi,decide_true,if_true,and_true,y5,hk];rw[z6 (by omega)]
   cases z8m k r.cols<;>rfl)
  (by rw[z17h];simp [z7]) (fun i=>by rw[y1w];exact z1gm _ _ _ _) (fun i=>by
   rw[y1c,z1lc,Rel.ids_eq,z6 hc,z6 (by unfold zf;rw[yg];omega)]
   exact l3)
 rw[z1zw,z97,z2hl]
 exact z2s (L:=zlk m) (st:=fun i=>z7z r env i) (C:=zlm m) (e:=.exit 0) (fun b=>some (z8y (b && (r.rows.all (fun x=>z8m x r.cols) && (r.terms.all (fun t=>tydT t (z29 r::env)) && (r.aggs.all (fun a=>a.t.all fun t=>tydT t (z29 r::env)) && endR r)))))) (l:=r.kids) (d:=z8) (fun t=>tydR t env) (hr.rel_kids).len
  (fun i k hi hk hmem=>by
   have h1:=Rel.ht_kid hmem;have h2:=z9h hmem;have h4:=zfg hmem;rw[z17g];simp only[z7,hi,decide_true,if_true,and_true,y5,hk,Rel.ids_eq];rw[z6 (by omega),z6 (by omega),z6 (by omega),z6 (by omega),z6 (z1gh y2 k hmem),z6 (by omega)];unfold z97
   cases tydR k env<;>rfl)
  (by rw[z17g];simp [z7]) (fun i=>by rw[y1w];exact z1gl _ _ _ _) (fun i=>by rw[y1c];exact (z1lb _ _ _ _).trans l2)
theorem z1vw (m:Nat) (hG:z1gk m) : FnOK 42 (zlf (m+1)):=fnK2 zo zw (M:=(z4u m)) rfl ⟨hG.2,z1tc,z175,hG.1,z24f,ztn,z1zr,trivial⟩ trivial trivial trivial trivial Tryz.func42 fun r env=>GiF.r fun w o=>z1q7 m r env (wfA_ w 0) (wfA_ w 1) (obA_ o 0) (obA_ o 1) (obA_ o 2) (obA_ o 3) (obA_ o 4)
theorem ztp : ∀ m,z1gk m
 | 0=>⟨fnZ2,fnZ2⟩
 | m+1=>⟨z1vv m (ztp m),z1vw m (ztp m)⟩
def z1do : FnC Un:=fnF2 (dS .rel) (dL .ints) fun r env=>([r.sz≤2000000,clR r≤2000000000,tyR r,env.length+r.ht≤8000000],z8y (z97 r env))
theorem z1zx : FnOK 42 z1do:=fnA2 fun m=>(ztp m).2
end
end B
namespace B
open Go Go.RowKit
set_option maxRecDepth 100000
noncomputable section
attribute [local irreducible] awp ctxK zx z1d retQ z1o awf ctxF z1l
def z1dp : Mc Un:=mcF_ [(29,z16j)] [] [] [] []
def z17i (r:Rel) (db:List Data) : Option (RF Un):=fnF_ z1dp z23e Tryz.f22 0 [.d] [.d (.agg (enc Ty.rel r)),.d (.v (.dat (U:=Un) Ty.data db))]
theorem z1zy (r:Rel) (db:List Data) : z17i r db=obO ((Rel.ids r).sz≤(2000000:Nat)) (some (z8y (decide ((z7l (Rel.ids r) db).snd > 20000)))):=by kernel_rfl
def zpp (r:Rel) (db:List Data) : Bool:=decide ((z7l r db).2 > 20000)
theorem z1q8 (r:Rel) (db:List Data) (_hr:WS .rel r) (_hd:WL .data db) (h:r.sz≤2000000) : z17i r db=some (z8y (zpp r db)):=by
 rw[z1zy,Rel.ids_eq,z6 h];rfl
def z1dq : FnC Un:=fnF2 (dS .rel) (dL .data) fun r db=>([r.sz≤2000000],z8y (zpp r db))
theorem z1zz : FnOK 22 z1dq:=fnK2 zo zw (M:=z1dp) rfl ⟨z1vg,trivial⟩ trivial trivial trivial trivial Tryz.func22 fun r db=>GiF.r fun w o=>z1q8 r db (wfA_ w 0) (wfA_ w 1) (obA_ o 0)
def ze8 : Mc Un:=mcF_ [(40,z1cv),(28,z1ke),(33,z1t5),(41,z1kp),(42,z1do),(22,z1dq)] [] [] [] []
def z98 : Nat→NS:=nsF_ [(5,{ ts:=bl 84 118,bs:=bl 84 4,nm:=[],cs:=true }),(9,{ ts:=bl 84 246,bs:=bl 84 4,nm:=[],cs:=true })] true
def z6l (r:Rel) (db:List Data) (v0:Int) (v1:Int) : S Un:=(st 84 84 336 0 [(1,al .data db),(2,ax 2),(4,ab false),(5,ai v0),(6,ai v1)] [(2,bg .rel r)] [])
def z6m (r:Rel) (db:List Data) (v0:Int) (v1:Int) (v2:Int) : S Un:=(st 84 84 336 0 [(1,al .data db),(2,ax 2),(4,ab false),(5,ai (IntKind.i64.wrap (v0+(↑(db.getD v1.toNat z33).rows.length:Int)))),(6,ai v1),(7,ai v2)] [(2,bg .rel r)] [])
def zd5 (r:Rel) (db:List Data) (v0:Int) (v1:Int) : S Un:=(st 84 84 336 0 [(1,al .data db),(2,ax 2),(4,ab false),(5,ai (IntKind.i64.wrap (v0+(↑(db.getD v1.toNat z33).rows.length:Int)))),(6,ai v1)] [(2,bg .rel r)] [])
def zcf : S Un→Option (EX Un):=lpF_ ze8 z98 Tryz.f11 [1,1,1,0,1,2,2] 5
noncomputable def z17j : Code:=sub (sub (zi Tryz.f11) [1,1,1,0,1,2,2]) [1,0,2,1,1,2,2]
def zlo : S Un→Option (EX Un):=z1l (z98 9) (fun s Q=>awf ze8 z98 z17j s Q)
def zfm : Exit→S Un→Option (RF Un):=cxF_ ze8 z98 Tryz.f11 [1,1,1,0,1,2] [.d]
def zlp : Exit→S Un→Option (EX Un):=ctxF ze8 z98 (sub (zi Tryz.f11) [1,1,1,0,1,2,2]) [1,0,2,1,1,2] (zby (z98 5) zcf)
def z17k (r:Rel) (db:List Data) : Option (RF Un):=fnF_ ze8 z98 Tryz.f11 0 [.d] [.d (.agg (enc Ty.rel r)),.d (.v (.dat (U:=Un) Ty.data db))]
theorem z200 (r:Rel) (db:List Data) : z17k r db=obO ((Rel.ids r).sz≤(2000000:Nat)) (cndO (decide (zcv (Rel.ids r) > 1000)) (some (z8y (false))) ((zcf (z6l r db (0:Int) (0:Int))).bind (zb zfm))):=by kernel_rfl
theorem z17l (r:Rel) (db:List Data) (v0:Int) (v1:Int) : zcf (z6l r db v0 v1)=cndO (decide (v1<(↑db.length:Int))) (cndO (decide (v1<5)) (obO (0≤v1∧v1<(↑db.length:Int)) ((zlo (z6m r db v0 v1 (0:Int))).bind (zb zlp))) (some (.exit 0,(z6l r db v0 v1)))) (some (.exit 0,(z6l r db v0 v1))):=lpQ_ (by kernel_rfl)
theorem z1ld (r:Rel) (db:List Data) (v0:Int) (v1:Int) : zfm (.exit 0) (z6l r db v0 v1)=cndO (decide (v0≤12)) (cndO (decide ((↑db.length:Int)≤(4:Int))) (obO ((Rel.ids r).sz≤(2000000:Nat)) (cndO (decide (zfb (Rel.ids r)≤24)) (obO (z2m [] (Rel.ids r).ht) (cndO (z9f (Rel.ids r) []) (obO ((Rel.ids r).sz≤(2000000:Nat)) (cndO (zbo (Rel.ids r) db) (obO ((Rel.ids r).sz≤(2000000:Nat)) (obO (clR (Rel.ids r)≤(2000000000:Nat)) (obO (tyR (Rel.ids r)) (obO (0+(Rel.ids r).ht≤(8000000:Nat)) (cndO (z97 (Rel.ids r) []) (obO ((Rel.ids r).sz≤(2000000:Nat)) (some (z8y (!zpp (Rel.ids r) db)))) (some (z8y (false)))))))) (some (z8y (false))))) (some (z8y (false))))) (some (z8y (false))))) (some (z8y (false)))) (some (z8y (false))):=by kernel_rfl
theorem z17m (r:Rel) (db:List Data) (v0:Int) (v1:Int) (v2:Int) : zlo (z6m r db v0 v1 v2)=obO (0≤v1∧v1<(↑db.length:Int)) (cndO (decide (v2<(↑(db.getD v1.toNat z33).rows.length:Int))) (cndO (decide (v2<9)) (obO (0≤v1∧v1<(↑db.length:Int)) (obO (0≤v2∧v2<(↑(db.getD v1.toNat z33).rows.length:Int)) (cndO (decide ((↑(List.length ((db.getD v1.toNat z33).rows.getD v2.toNat [])):Int) > (6:Int))) (some (.ret,(z6m r db v0 v1 v2))) (zlo (z6m r db v0 v1 (IntKind.i64.wrap (v2+1))))))) (some (.exit 2,(z6m r db v0 v1 v2)))) (some (.exit 2,(z6m r db v0 v1 v2)))):=(zbe (z98 9) z17j _).trans (by kernel_rfl)
theorem z1gq (r:Rel) (db:List Data) (v0:Int) (v1:Int) (v2:Int) : zlp .ret (z6m r db v0 v1 v2)=some (.ret,(zd5 r db v0 v1)):=by kernel_rfl
theorem z1gr (r:Rel) (db:List Data) (v0:Int) (v1:Int) : zfm .ret (zd5 r db v0 v1)=some (z8y (false)):=by kernel_rfl
theorem z1le (r:Rel) (db:List Data) (v0:Int) (v1:Int) (v2:Int) : zlp (.exit 2) (z6m r db v0 v1 v2)=zcf (z6l r db (IntKind.i64.wrap (v0+(↑(db.getD v1.toNat z33).rows.length:Int))) (IntKind.i64.wrap (v1+1))):=by kernel_rfl
theorem z2bs {α β:Type} {L:S Un→Option (EX Un)} {st er:Int→S Un} {C:Exit→S Un→Option β} (R:Bool→Option β) {l:List α} {d:α} {e:Exit} (q:α→Bool) (hl:l.length≤9223372036854775807)
  (step:∀ (i:Nat) (x:α),(i:Int)<(l.length:Int)→l.getD i d=x→x∈l→L (st i)=if q x=true then L (st (IntKind.i64.wrap ((i:Int)+1))) else some (.ret,er i))
  (stop:L (st (l.length:Int))=some (e,st (l.length:Int))) (r1:∀ i : Int,C .ret (er i)=R false) (r2:C e (st (l.length:Int))=R true) : (L (st 0)).bind (zb C)=R (l.all q):=by
 have key:∀ (k i:Nat),i+k=l.length→(L (st i)).bind (zb C)=R ((l.drop i).all q):=by
  intro k
  induction k with
  | zero =>
   intro i hi;obtain rfl : i=l.length:=by omega
   rw[stop,y47];exact r2
  | succ k ih =>
   intro i hi;have hlt:i<l.length:=by omega
   rw[step i l[i] (by omega) (by grind) (y21 hlt),y1v hlt,y1h];cases hq : q l[i]
   ·exact r1 _
   ·rw[if_pos rfl,z1s (by omega),y1c];grind
 exact key l.length 0 (by omega)
theorem z1th {α:Type} {l:List α} {n i:Nat} {d x:α} (h:(i:Int)<((l.take n).length:Int)) (hx:(l.take n).getD i d=x) : l.getD i d=x∧i<l.length∧i<n:=by
 grind
def sumD (n:Int) (d:Data) : Int:=IntKind.i64.wrap (n+(d.rows.length:Int))
def z288 (d:Data) : Bool:=(d.rows.take 9).all fun x=>!decide ((x.length:Int) > 6)
noncomputable def z17n (r:Rel) (db:List Data) (n:Int) : Bool:=decide (n≤12) && (decide ((db.length:Int)≤4) && (decide (zfb r≤24) && (z9f r [] && (zbo r db && (z97 r [] && !zpp r db)))))
noncomputable def zpq (r:Rel) (db:List Data) : Bool:=!decide (zcv r > 1000) && ((db.take 5).all z288 && z17n r db ((db.take 5).foldl sumD 0))
mutual
theorem z289 : ∀ t : Term,t.ht≤t.sz
 | .mk op v depth at_ name kids sub type=>by
  have:=zoo kids;have:=z125 sub;simp only[Term.ht,Term.sz];omega
theorem zoo : ∀ l : List Term,htTs l≤szTs l
 | []=>y7 _
 | t::l=>by
  have:=z289 t;have:=zoo l;simp only[htTs,szTs];omega
theorem z2bt : ∀ a : Agg,a.ht≤a.sz
 | .mk name distinct t=>by
  have:=zoo t;simp only[Agg.ht,Agg.sz];omega
theorem z1lf : ∀ l : List Agg,htAs l≤szAs l
 | []=>y7 _
 | t::l=>by
  have:=z2bt t;have:=z1lf l;simp only[htAs,szAs];omega
theorem z17o : ∀ r : Rel,r.ht≤r.sz
 | .mk op table cols kids terms aggs keys limit skip all rows=>by
  have:=z125 kids;have:=zoo terms;have:=z1lf aggs;simp only[Rel.ht,Rel.sz];omega
theorem z125 : ∀ l : List Rel,htRs l≤szRs l
 | []=>y7 _
 | t::l=>by
  have:=z17o t;have:=z125 l;simp only[htRs,szRs];omega
end
theorem z55 {r:Rel} {env:List Int} (h:zkg r env=true) : ((r.kids.length:Int)=z3k r.op∧0≤z3k r.op)∧(∀ k∈r.kids,zkg k env=true)∧(r.cols.length:Int)=z27 r∧(∀ t∈r.terms,zdl t (z8r r::env)=true)∧(∀ a∈r.aggs,∀ t∈a.t,zdl t (z8r r::env)=true)∧zdn r env=true:=by
 rw[z1z4,yq,yq,yq,zrk,y19] at h;obtain⟨⟨⟨h1,h2⟩,h4⟩,h3⟩:=h;unfold zyx at h1;simp at h1;obtain⟨⟨h5,h6⟩,h7⟩:=h1;refine⟨⟨h6,h5⟩,h2,by grind,?_,?_,h3⟩
 ·intro t ht;unfold z31 at h7;have e:r.op=3∨r.op=4∨r.op=5∨r.op=6∨r.op=7:=by
   grind
  grind [zdn,zdz,zdl,z8r,List.all_eq_true]
 ·intro a ha t ht;unfold z31 at h7;have e:r.op=7:=by
   grind
  unfold zdn at h3;rw[if_neg (by omega),if_neg (by omega),if_neg (by omega),if_neg (by omega),if_neg (by omega),if_pos e,yq,z11p] at h3;have q:=y19.1 h3.2 a ha;simp_all [z1z3,yq,zdz,y19]
theorem z126 {t:Term} {env:List Int} (h:zdl t env=true) : zte t env=true∧(∀ k∈t.kids,zdl k env=true)∧(∀ k∈t.sub,zkg k env=true):=by
 rw[z1t4,yq,yq,zdz,zrk,y19,y1g,yq,decide_eq_true_eq,y19] at h;have hs:(t.sub.length:Int)=zja t:=by
  simp_all [zte,yq,decide_eq_true_eq]
 grind [List.length_pos_of_mem,zja]
theorem z2f5 : ∀ (n:Nat),(∀ (t:Term) (env:List Int),t.ht<n→zdl t env=true→tyT t)∧(∀ (r:Rel) (env:List Int),r.ht<n→zkg r env=true→tyR r):=by
 have ts:∀ (l:List Term),(∀ t∈l,tyT t)→tyTs l:=by
  intro l
  induction l with
  | nil=>intro _;trivial
  | cons t l ih=>intro h;exact⟨h t yx,ih fun x hx=>h x (yz _ hx)⟩
 have rs:∀ (l:List Rel),(∀ t∈l,tyR t)→tyRs l:=by
  intro l
  induction l with
  | nil=>intro _;trivial
  | cons t l ih=>intro h;exact⟨h t yx,ih fun x hx=>h x (yz _ hx)⟩
 have as_:∀ (l:List Agg),(∀ t∈l,tyA t)→tyAs l:=by
  intro l
  induction l with
  | nil=>intro _;trivial
  | cons t l ih=>intro h;exact⟨h t yx,ih fun x hx=>h x (yz _ hx)⟩
 intro n
 induction n with
 | zero=>simp
 | succ n ih =>
  constructor
  ·intro t env hn h;obtain⟨h1,h2,h3⟩:=z126 h;refine (z2bp t).2 ⟨fun c=>?_,ts _ fun k hk=>ih.1 k env (by have:=Term.ht_kid hk;omega) (h2 k hk),rs _ fun k hk=>ih.2 k env (by have:=Term.ht_sub hk;omega) (h3 k hk)⟩;unfold zte zsj at h1;grind
  ·intro r env hn h;obtain⟨p1,p2⟩:=ztj r;obtain⟨⟨h1,_⟩,h2,_,h3,h4,_⟩:=z55 h;refine (z2bq r).2 ⟨fun c=>?_,rs _ fun k hk=>ih.2 k env (by have:=Rel.ht_kid hk;omega) (h2 k hk),ts _ fun t ht=>ih.1 t _ (by grind) (h3 t ht),as_ _ fun a ha=>(z2br a).2 (ts _ fun t ht=>ih.1 t _ (by grind) (h4 a ha t ht))⟩;grind [z3k]
theorem z2f6 {r:Rel} {env:List Int} (h:zkg r env=true) : tyR r:=(z2f5 (r.ht+1)).2 r env (y3a _) h
theorem z28a (r:Rel) (db:List Data) (n:Int) (i:Int) (h:r.sz≤2000000) (hh:r.ht≤2000000) (hc:clR r≤2000000000) : zfm (.exit 0) (z6l r db n i)=some (z8y (z17n r db n)):=by
 rw[z1ld,Rel.ids_eq];refine z9n fun _=>z9n fun _=>?_;rw[z6 h];refine z9n fun _=>?_;rw[z6 (by grind [z2m,List.length_nil])];refine z9n fun c=>?_;rw[z6 h];refine z9n fun _=>?_;rw[z6 h,z6 hc,z6 (z2f6 c),z6 (by omega)];refine z9n fun _=>?_;rw[z6 h]
theorem z1q9 (r:Rel) (db:List Data) (_hr:WS .rel r) (hd:WL .data db) (h:r.sz≤2000000) (hc:clR r≤2000000000) : z17k r db=some (z8y (zpq r db)):=by
 have hh:=z17o r;have hlt:(db.take 5).length≤5:=by grind
 have key:=z2bs (L:=zcf) (st:=fun i=>z6l r db (((db.take 5).take i.toNat).foldl sumD 0) i) (er:=fun i=>zd5 r db (((db.take 5).take i.toNat).foldl sumD 0) i) (C:=zfm) (e:=.exit 0) (fun b=>some (z8y (b && z17n r db ((db.take 5).foldl sumD 0)))) (l:=db.take 5) (d:=z33) z288 (by omega)
  (fun i d hi hd hmem=>by
   obtain⟨g1,g2,g3⟩:=z1th hi hd;have hil:i<(db.take 5).length:=by omega
   have e:((db.take 5).take (i+1)).foldl sumD 0=sumD (((db.take 5).take i).foldl sumD 0) d:=by
    rw[y3b,y2e,← hd,yd,y9 hil];rfl
   have li:=fun (n:Int)=>zvl (L:=zlo) (st:=fun j=>z6m r db n i j) (C:=zlp) (e:=.exit 2) (fun b=>if b=true then zcf (z6l r db (sumD n d) (IntKind.i64.wrap ((i:Int)+1))) else some (.ret,zd5 r db n i)) (l:=d.rows.take 9) (d:=[]) (fun x=>!decide ((x.length:Int) > 6)) (by grind)
    (fun j x hj hx _=>by
     obtain⟨f1,f2,f3⟩:=z1th hj hx;rw[z17m];simp only[g1,f1,y5];rw[z6 (by omega),z7,if_pos (by grind),z7,if_pos (by grind),z6 (by omega),z6 (by omega)]
     cases decide ((x.length:Int) > 6)<;>rfl)
    (by
     rw[z17m];simp only[g1,y5,z7,decide_eq_true_eq];rw[z6 (by omega),yw]
     grind)
    (fun j=>z1gq _ _ _ _ _) (by rw[z1le,y5,g1];rfl)
   rw[z17l,z3p hil (by omega)];simp;rw[z7,if_pos (by grind),z7,if_pos (by grind),z6 (by omega),e];refine (li _).trans ?_
   rw[z3p hil (by omega)];rfl)
  (by
   rw[z17l];simp only[z7,decide_eq_true_eq,yw]
   grind)
  (fun i=>by simp [y1w,z1gr])
  (by rw[y1c,y5,y36];grind [z28a])
 rw[z200,Rel.ids_eq,z6 h];refine (z124 (x:=(db.take 5).all z288 && z17n r db ((db.take 5).foldl sumD 0)) (by simp) fun _=>key)
def zy0 : FnC Un:=fnF2 (dS .rel) (dL .data) fun r db=>([r.sz≤2000000,clR r≤2000000000],z8y (zpq r db))
theorem z201 : FnOK 11 zy0:=fnK2 zo zw (M:=ze8) rfl ⟨z1zd,z23x,z27v,z243,z1zx,z1zz,trivial⟩ trivial trivial trivial trivial Tryz.func11 fun r db=>GiF.r fun w o=>z1q9 r db (wfA_ w 0) (wfA_ w 1) (obA_ o 0) (obA_ o 1)
end
end B
namespace B
open Go Go.RowKit
theorem z2hn {n x:Int} (h1:0≤n) (h2:n≤1048576) (h3:0≤x) (h4:x≤1048576) : capI n x=if 1048576<n+x then 1048576 else n+x:=by
 unfold capI;rw[z1s (by omega)];rfl
theorem z9o (a b:Int) : minI a b=if b<a then b else a:=rfl
theorem zgh (a b:Int) : maxI a b=if a<b then b else a:=rfl
theorem capF {α:Type} (f:α→Int) : ∀ (l:List α) (n:Int),(∀ x∈l,0≤f x∧f x≤1048576)→0≤n→n≤1048576 →
  n≤l.foldl (fun n x=>capI n (f x)) n∧l.foldl (fun n x=>capI n (f x)) n≤1048576∧(l.foldl (fun n x=>capI n (f x)) n≤20000→∀ x∈l,f x≤20000)
 | [],n,_,h1,h2=>⟨y2f _,h2,fun _ x hx=>absurd hx (by simp)⟩
 | y::l,n,hf,h1,h2=>by
  have hy:=hf y yx;have e:=z2hn h1 h2 hy.1 hy.2;rw[yr,e];obtain⟨g1,g2,g3⟩:=capF f l (if 1048576<n+f y then 1048576 else n+f y) (fun x hx=>hf x (yz _ hx)) (by split<;>omega) (by split<;>omega);refine⟨y49 (by split<;>omega) g1,g2,fun h x hx=>?_⟩;rcases yf.1 hx with rfl | hx
  ·have:=y49 g1 h;split at this<;>omega
  ·exact g3 h x hx
theorem addF {α:Type} (f:α→Int) : ∀ (l:List α) (n:Int),(∀ x∈l,0≤f x∧f x≤1048576)→0≤n→n+l.length*1048576≤4611686018427387904 →
  n≤l.foldl (fun n x=>addI n (f x)) n∧l.foldl (fun n x=>addI n (f x)) n≤n+l.length*1048576∧(∀ x∈l,n+f x≤l.foldl (fun n x=>addI n (f x)) n)
 | [],n,_,h1,h2=>⟨y2f _,by simp,fun x hx=>absurd hx (by simp)⟩
 | y::l,n,hf,h1,h2=>by
  have hy:=hf y yx;rw[yn] at h2 ⊢;have e:addI n (f y)=n+f y:=by unfold addI;exact z1s (by omega)
  rw[yr,e];obtain⟨g1,g2,g3⟩:=addF f l (n+f y) (fun x hx=>hf x (yz _ hx)) (by omega) (by omega);refine⟨by omega,by omega,fun x hx=>?_⟩;rcases yf.1 hx with rfl | hx
  ·exact g1
  ·have:=g3 x hx;omega
theorem z2ho (db:List Data) (r:Rel) : zrs db (zku db 1 r.terms) r.aggs=(zu r).foldl (fun n t=>addI n (wghT db t)) 1:=by
 have key:∀ (l:List Agg) (n:Int),zrs db n l=(z7j l).foldl (fun n t=>addI n (wghT db t)) n:=by
  intro l
  induction l with
  | nil=>intro n;simp only[zrs,z7j,y23]
  | cons a l ih=>intro n;rw[zrs,z7j,y2e,ih,z265,z8t,z8t,z8t]
 unfold zu;rw[y2e,key,z8t,z8t,z8t]
def ioW (op held rl:Int) (rows:List Int) : Int×Int :=
 if op=1 then (held,held)
 else if rows.length=0 then (rl,rl)
 else if rows.length=1 then (rows.getD 0 0,maxI (rows.getD 0 0) 1)
 else if op=5∨op=6 then (IntKind.i64.wrap (rows.getD 0 0*maxI (rows.getD 1 0) 1),IntKind.i64.wrap (rows.getD 0 0*maxI (rows.getD 1 0) 1))
 else (IntKind.i64.wrap (rows.getD 0 0+rows.getD 1 0),IntKind.i64.wrap (rows.getD 0 0+rows.getD 1 0))
theorem z2bu (op held rl n:Int) (rows:List Int) (asks:Int) : z16h op held rl n rows asks=(minI (ioW op held rl rows).2 1048576,minI (addI n (IntKind.i64.wrap (minI (ioW op held rl rows).1 1048576*minI asks 1048576))) 1048576):=by
 unfold z16h ioW;dsimp only
 repeat' (first | rfl | split)
def ioR (db:List Data) (r:Rel) : Int×Int:=ioW r.op (zbm r.table db) r.rows.length (r.kids.map fun k=>(wghR db k).1)
def askR (db:List Data) (r:Rel) : Int:=(zu r).foldl (fun n t=>addI n (wghT db t)) 1
def kidR (db:List Data) (r:Rel) : Int:=r.kids.foldl (fun n k=>addI n (wghR db k).2) 0
theorem z267 (db:List Data) (r:Rel) : wghR db r=(minI (ioR db r).2 1048576,minI (addI (kidR db r) (IntKind.i64.wrap (minI (ioR db r).1 1048576*minI (askR db r) 1048576))) 1048576):=by
 rw[z266,z2ho,z2bu];rfl
def zb4 : List Data→Nat
 | []=>0
 | d::l=>d.rows.length+zb4 l
theorem z1ai (table:ByteArray) : ∀ (db:List Data) (n:Int),0≤n→n+zb4 db≤4611686018427387904→n≤db.foldl (zkt table) n∧db.foldl (zkt table) n≤n+zb4 db∧∀ d∈db,(d.table.toList == table.toList)=true→n+d.rows.length≤db.foldl (zkt table) n
 | [],n,_,_=>⟨y2f _,by simp [zb4],fun d hd=>absurd hd (by simp)⟩
 | y::l,n,h1,h2=>by
  simp only[zb4] at h2 ⊢;rw[yr];unfold zkt;by_cases c : (y.table.toList == table.toList)=true
  ·have e:addI n y.rows.length=n+y.rows.length:=by unfold addI;exact z1s (by omega)
   rw[if_pos c,e];obtain⟨g1,g2,g3⟩:=z1ai table l (n+y.rows.length) (by omega) (by omega);refine⟨by unfold zkt at g1;omega,by unfold zkt at g2;omega,fun d hd hc=>?_⟩;rcases yf.1 hd with rfl | hd
   ·exact g1
   ·have:=g3 d hd hc;unfold zkt at this;omega
  ·rw[if_neg c];obtain⟨g1,g2,g3⟩:=z1ai table l n h1 (by omega);refine⟨g1,by unfold zkt at g2;omega,fun d hd hc=>?_⟩;rcases yf.1 hd with rfl | hd
   ·exact absurd hc c
   ·exact g3 d hd hc
theorem zcg (db:List Data) (r:Rel) (i:Nat) (h:i<r.kids.length) : (r.kids.map fun k=>(wghR db k).1).getD i 0=(wghR db (r.kids.getD i z8)).1:=by
 rw[yd,y13,yd,y9 h];rfl
theorem z1aj {a b:Int} (ha:0≤a) (ha2:a≤1048576) (hb:0≤b) (hb2:b≤1048576) : 0≤a*b∧a*b≤1099511627776:=by
 refine⟨Int.mul_nonneg ha hb,?_⟩;have h1:=y4q ha2 hb;omega
theorem z2bv (db:List Data) (hd:zb4 db≤2000000) (r:Rel) (hr:r.rows.length≤2000000) (hk:∀ k∈r.kids,0≤(wghR db k).1∧(wghR db k).1≤1048576) : 0≤(ioR db r).1∧(ioR db r).1≤1099511627776∧0≤(ioR db r).2∧(ioR db r).2≤1099511627776:=by
 have hh:=z1ai r.table db 0 (by omega) (by omega);have hg:∀ i,0≤(r.kids.map fun k=>(wghR db k).1).getD i 0∧(r.kids.map fun k=>(wghR db k).1).getD i 0≤1048576:=fun i=>by
  by_cases h : i<r.kids.length
  ·rw[zcg db r i h];exact hk _ (z78 h)
  ·rw[yd,y4a (by rw[yu];omega)];decide
 have g0:=hg 0;have g1:=hg 1;unfold ioR ioW zbm;generalize (r.kids.map fun k=>(wghR db k).1).getD 0 0=a at *;generalize (r.kids.map fun k=>(wghR db k).1).getD 1 0=b at *;have hm:0≤maxI b 1∧maxI b 1≤1048576:=by rw[zgh];split<;>omega
 have hm0:0≤maxI a 1∧maxI a 1≤1048576:=by rw[zgh];split<;>omega
 have hp:=z1aj g0.1 g0.2 hm.1 hm.2;rw[z1s (show -9223372036854775808≤a*maxI b 1∧a*maxI b 1≤9223372036854775807 by omega),z1s (show -9223372036854775808≤a+b∧a+b≤9223372036854775807 by omega)]
 repeat' split
 all_goals (dsimp only;omega)
theorem z2bw (db:List Data) (hd:zb4 db≤2000000) : ∀ n : Nat,(∀ t : Term,t.ht<n→t.sz≤2000000→0≤wghT db t∧wghT db t≤1048576) ∧
  (∀ r : Rel,r.ht<n→r.sz≤2000000→(0≤(wghR db r).1∧(wghR db r).1≤1048576)∧0≤(wghR db r).2∧(wghR db r).2≤1048576):=by
 intro n
 induction n with
 | zero=>exact⟨fun _ h=>absurd h (y14 _),fun _ h=>absurd h (y14 _)⟩
 | succ n ih =>
  constructor
  ·intro t hn hs;rw[z1pk,← zrt,← zru];obtain⟨a1,a2,_⟩:=capF (fun k=>wghT db k) t.kids 0 (fun k hk=>ih.1 k (by have:=Term.ht_kid hk;omega) (by have:=zkl hk;omega)) (by omega) (by omega);obtain⟨b1,b2,_⟩:=capF (fun k=>(wghR db k).2) t.sub _ (fun k hk=>(ih.2 k (by have:=Term.ht_sub hk;omega) (by have:=zkm hk;omega)).2) a1 a2;exact⟨y49 a1 b1,b2⟩
  ·intro r hn hs;have h3:=r.sz_eq;have hkl:=z11i r.kids;have hrl:r.rows.length≤2000000:=by omega
   have hk:=fun k (hk:k∈r.kids)=>ih.2 k (by have:=Rel.ht_kid hk;omega) (by have:=z9h hk;omega);have hio:=z2bv db hd r hrl fun k h=>(hk k h).1;have htl:=znv r;obtain⟨a1,a2,_⟩:=addF (fun k=>wghT db k) (zu r) 1 (fun t ht=>ih.1 t (by have:=(z8z ht).1;omega) (by have:=(z8z ht).2;omega)) (by omega) (by omega);obtain⟨b1,b2,_⟩:=addF (fun k=>(wghR db k).2) r.kids 0 (fun k h=>(hk k h).2) (by omega) (by omega);rw[z267];have hp:=z1aj (a:=minI (ioR db r).1 1048576) (b:=minI (askR db r) 1048576) (by rw[z9o];split<;>omega) (by rw[z9o];split<;>omega) (by unfold askR;rw[z9o];split<;>omega) (by rw[z9o];split<;>omega);dsimp only;generalize minI (ioR db r).1 1048576*minI (askR db r) 1048576=p at *;unfold addI kidR;rw[z1s (show -9223372036854775808≤p∧p≤9223372036854775807 by omega),z1s (by omega),z9o,z9o];exact⟨⟨by split<;>omega,by split<;>omega⟩,by split<;>omega,by split<;>omega⟩
theorem z268 {db:List Data} (hd:zb4 db≤2000000) {t:Term} (h:t.sz≤2000000) : 0≤wghT db t∧wghT db t≤1048576:=(z2bw db hd (t.ht+1)).1 t (y3a _) h
theorem z6t {db:List Data} (hd:zb4 db≤2000000) {r:Rel} (h:r.sz≤2000000) : (0≤(wghR db r).1∧(wghR db r).1≤1048576)∧0≤(wghR db r).2∧(wghR db r).2≤1048576:=(z2bw db hd (r.ht+1)).2 r (y3a _) h
theorem z1lg {db:List Data} (hd:zb4 db≤2000000) {t:Term} (h:t.sz≤2000000) (hw:wghT db t≤20000) : (∀ k∈t.kids,wghT db k≤20000)∧∀ k∈t.sub,(wghR db k).2≤20000:=by
 rw[z1pk,← zrt,← zru] at hw;obtain⟨a1,a2,a3⟩:=capF (fun k=>wghT db k) t.kids 0 (fun k hk=>z268 hd (by have:=zkl hk;omega)) (by omega) (by omega);obtain⟨b1,b2,b3⟩:=capF (fun k=>(wghR db k).2) t.sub _ (fun k hk=>(z6t hd (by have:=zkm hk;omega)).2) a1 a2;exact⟨a3 (by omega),b3 hw⟩
theorem zvm {db:List Data} (hd:zb4 db≤2000000) {r:Rel} (h:r.sz≤2000000) (hw:(wghR db r).2≤20000) : (∀ k∈r.kids,(wghR db k).2≤20000)∧0≤(ioR db r).1∧(ioR db r).1≤20000∧(1≤(ioR db r).1→∀ t∈zu r,wghT db t≤20000)∧(wghR db r).1=minI (ioR db r).2 1048576:=by
 have h3:=r.sz_eq;have hkl:=z11i r.kids;have hk:=fun k (hk:k∈r.kids)=>z6t hd (r:=k) (by have:=z9h hk;omega);have hio:=z2bv db hd r (by omega) fun k h=>(hk k h).1;have htl:=znv r;obtain⟨a1,a2,a3⟩:=addF (fun k=>wghT db k) (zu r) 1 (fun t ht=>z268 hd (by have:=(z8z ht).2;omega)) (by omega) (by omega);obtain⟨b1,b2,b3⟩:=addF (fun k=>(wghR db k).2) r.kids 0 (fun k h=>(hk k h).2) (by omega) (by omega);change 1≤askR db r at a1;change askR db r≤_ at a2;change ∀ x∈_,_≤askR db r at a3;change 0≤kidR db r at b1;change kidR db r≤_ at b2;change ∀ x∈_,_≤kidR db r at b3;have q1:0≤minI (ioR db r).1 1048576∧minI (ioR db r).1 1048576≤1048576:=by rw[z9o];split<;>omega
 have q2:1≤minI (askR db r) 1048576∧minI (askR db r) 1048576≤1048576:=by rw[z9o];split<;>omega
 have hp:=z1aj q1.1 q1.2 (by omega:0≤minI (askR db r) 1048576) q2.2;have hp1:=Int.mul_le_mul_of_nonneg_left q2.1 q1.1;rw[z267] at hw ⊢;dsimp only at hw ⊢;have hp2:1≤minI (ioR db r).1 1048576→minI (askR db r) 1048576≤minI (ioR db r).1 1048576*minI (askR db r) 1048576:=fun hi=>by
  have:=y4q hi (show 0≤minI (askR db r) 1048576 by omega);omega
 generalize hpe : minI (ioR db r).1 1048576*minI (askR db r) 1048576=p at *;unfold addI at hw;rw[z1s (show -9223372036854775808≤p∧p≤9223372036854775807 by omega),z1s (by omega),z9o] at hw;have hsum:kidR db r+p≤20000:=by split at hw<;>omega
 rw[z9o] at q1 hp1 hp2;rw[z9o] at q2 hp2;refine⟨fun k hk=>by have:=b3 k hk;omega,hio.1,by split at hp1<;>omega,fun hi t ht=>?_,rfl⟩;have:=a3 t ht;have hp2:=hp2 (by split<;>omega);split at hp2<;>omega
end B
namespace B
open Go Go.RowKit
set_option maxRecDepth 1000000
theorem zvn {f:FuncId} {args:List (D Un)} {v:Value} (hv:oneC v=true)
  (h:∀ (w:World) (vs:List Value),(∀ St,All2 (DRel Tryz.prog En St w) vs args→Calls Tryz.prog f vs.toArray w fun e w'=>e=.returned v∧w'=w)) : Contract Tryz.prog En f args [.c (.s v)] []:=by
 intro w St vs hbd hvs hld;refine (h w vs St hvs).mono ?_;rintro e w' ⟨rfl,rfl⟩;let gg : G:={ β:=fun _=>0,lb:=fun _=>False,ω:=fun _ _=>none,tk:=fun _=>(none,0) };exact⟨_,rfl,Ext.refl _,gg,fun _ h=>h,fun b o x _ h=>by simp [gg] at h,fun b o x h=>by simp [gg] at h,⟨rfl,hv⟩,fun k o h=>by simp at h⟩
theorem ztq {St:Nat→Nat→Prop} {w:World} {v:Value} {s:ByteArray} (h:DRel Tryz.prog En St w v (.d (.v (cs s)))) : v=.string s∧s.size≤9223372036854775807:=by
 have h':VRel En St w v (.s (.string s)):=h;cases h' with | s _ h=>exact⟨rfl,oneC_str.1 h⟩
theorem ztr {St:Nat→Nat→Prop} {w:World} {v:Value} {k:IntKind} {n:Int} (h:DRel Tryz.prog En St w v (.d (.v (.s (.int k n))))) : v=.int k n∧k.min≤n∧n≤k.max:=by
 have h':VRel En St w v (.s (.int k n)):=h;cases h' with | s _ h=>exact⟨rfl,of_decide_eq_true h⟩
end B
namespace B
open Go Go.RowKit
set_option maxRecDepth 1000000
theorem z1b9 (a b:ByteArray) (w:World) :
  Calls Tryz.prog 229 #[.string a,.string b] w fun e w'=>e=.returned (.int .i64 (Lib.compareBytes a.data.toList b.data.toList))∧w'=w:=by
 have mixed:Tryz.prog.follows .mixedOrders=true:=by kernel_rfl
 go_enter Tryz.func229,Tryz.ntmps229
 go_wp2
 rw[run_callFunc_extern Tryz.func245 (by kernel_rfl) (by kernel_rfl) (by kernel_rfl) (e:=Extern.BytealgCompare.compare) (by kernel_rfl),Lib.run_compareString];simp only[Result.andThen];rw[Oper.upon_value]
 go_wp2
 go_ret;exact⟨rfl,rfl⟩
theorem zvo : ∀ (a b:List UInt8),Lib.compareBytes a b=cmpL a b
 | [],[]=>rfl
 | [],_::_=>rfl
 | _::_,[]=>rfl
 | x::a,y::b=>by
  have hlt:∀ p q : UInt8,(p<q)=((p.toNat:Int)<q.toNat):=fun p q=>by simp [UInt8.lt_iff_toNat_lt]
  simp only[Lib.compareBytes,cmpL,cmpI,hlt];by_cases h : x=y
  ·subst h;simp [zvo a b]
  ·have hne:x.toNat≠y.toNat:=fun e=>h (UInt8.toNat_inj.1 e);rw[if_neg h];by_cases h1 : (x.toNat:Int)<y.toNat
   ·rw[if_pos h1,if_pos h1]
   ·rw[if_neg h1,if_neg h1,if_pos (by omega),if_pos (by omega)]
theorem z1lh : ∀ (a b:List UInt8),-1≤cmpL a b∧cmpL a b≤1
 | [],[]=>by simp [cmpL]
 | [],_::_=>by simp [cmpL]
 | _::_,[]=>by simp [cmpL]
 | x::a,y::b=>by
  simp only[cmpL,cmpI];have:=z1lh a b
  repeat' split
  all_goals omega
def z5u : FnC Un:=fun args=>match args with
 | [x0,x1]=>(dStr x0).bind fun a=>(dStr x1).bind fun b=>some ([],[.c (.s (.int .i64 (cmpS a b)))],[])
 | _=>none
theorem zhr : FnOK 229 z5u:=by
 intro args ob rs os h hob;unfold z5u at h;split at h
 ·rename_i x0 x1;simp only[y6,y8,yl] at h;obtain⟨s,e0,t,e1,rfl,rfl,rfl⟩:=h;obtain rfl:=z4j e0;obtain rfl:=z4j e1;refine⟨?_,zh Tryz.func229 (by kernel_rfl) (by kernel_rfl)⟩;have hr:=z1lh s.toList t.toList;refine zvn (oneC_i64.2 (by unfold cmpS;omega)) fun w vs St hvs=>?_
  match vs,hvs with
  | [v0,v1],⟨h0,h1,_⟩ =>
   obtain⟨rfl,-⟩:=ztq h0;obtain⟨rfl,-⟩:=ztq h1;refine (z1b9 s t w).mono ?_;rintro e w' ⟨rfl,rfl⟩;refine⟨?_,rfl⟩;rw[zvo];unfold cmpS;rw[ByteArray.toList_eq,ByteArray.toList_eq]
 ·simp at h
end B
namespace B
open Go Go.RowKit
set_option maxRecDepth 100000
noncomputable section
attribute [local irreducible] awp ctxK zx z1d retQ z1o
def z8n : Mc Un:=mcF_ [(229,z5u)] [] [] [] []
theorem z17p (a:ByteArray) (b:ByteArray) (K:List (A Un)→List (Ob Un)→Prop) :
  awp z8n z239 (zi Tryz.f194) (z39 Tryz.f194.ntmps 0 [.d (.v (cs a)),.d (.v (cs b))]) (retQ z8n Tryz.f194.results.toList [.d] K) =
(K (zad (cmpS a b)) (zae (cmpS a b))):=by kernel_rfl
def zpr (a:ByteArray) (b:ByteArray) : Option (Int) :=
 some (cmpS a b)
theorem z14y {a:ByteArray} {b:ByteArray} {r:Int} (h:zpr a b=some r) : Runs (awp z8n z239 (zi Tryz.f194) (z39 Tryz.f194.ntmps 0 [.d (.v (cs a)),.d (.v (cs b))]) (retQ z8n Tryz.f194.results.toList [.d] fun rs os=>rs=zad r∧os=zae r)):=by
 rw[z17p a b (fun rs os=>rs=zad r∧os=zae r)];cases h;exact⟨rfl,rfl⟩
def strings_Compare (a:ByteArray) (b:ByteArray) : Int :=
 (cmpS a b)
theorem z17q (a:ByteArray) (b:ByteArray) : zpr a b=some (strings_Compare a b):=by rfl
def z8o : FnC Un:=fnF2 dStr dStr fun a b=>([],zad (strings_Compare a b),zae (strings_Compare a b))
theorem zps : FnOK 194 z8o:=fnK2 z4j z4j (M:=z8n) rfl ⟨zhr,trivial⟩ trivial trivial trivial trivial Tryz.func194 fun a b=>fun _ _=>z14y (z17q a b)
theorem z202 (x:Int) (K:List (A Un)→List (Ob Un)→Prop) :
  awp z1c5 z239 (zi Tryz.f228) (z39 Tryz.f228.ntmps 0 [.d (.v (.s (.int .i64 x)))]) (retQ z1c5 Tryz.f228.results.toList [.d] K) =
(K (zsy (x != x)) (zsz (x != x))):=by kernel_rfl
def z17r (x:Int) : Option (Bool) :=
 some (x != x)
theorem z1vx {x:Int} {r:Bool} (h:z17r x=some r) : Runs (awp z1c5 z239 (zi Tryz.f228) (z39 Tryz.f228.ntmps 0 [.d (.v (.s (.int .i64 x)))]) (retQ z1c5 Tryz.f228.results.toList [.d] fun rs os=>rs=zsy r∧os=zsz r)):=by
 rw[z202 x (fun rs os=>rs=zsy r∧os=zsz r)];cases h;exact⟨rfl,rfl⟩
def z5w (x:Int) : Bool :=
 (x != x)
theorem z203 (x:Int) : z17r x=some (z5w x):=by rfl
def z1ds : FnC Un:=fnF1 (dI .i64) fun x=>([],zsy (z5w x),zsz (z5w x))
theorem z204 : FnOK 228 z1ds:=fnK1 z1a (M:=z1c5) rfl trivial trivial trivial trivial trivial Tryz.func228 fun x=>fun _ _=>z1vx (z203 x)
def zdq : Mc Un:=mcF_ [(228,z1ds)] [] [] [] []
theorem z1qa (x:Int) (y:Int) (K:List (A Un)→List (Ob Un)→Prop) :
  awp zdq z239 (zi Tryz.f193) (z39 Tryz.f193.ntmps 0 [.d (.v (.s (.int .i64 x))),.d (.v (.s (.int .i64 y)))]) (retQ zdq Tryz.f193.results.toList [.d] K) =
(cnd (z5w x)
 (cnd (z5w y)
  (K (zad ((0:Int))) (zae ((0:Int))))
  (K (zad ((-1:Int))) (zae ((-1:Int)))))
 (cnd (z5w y)
  (K (zad ((1:Int))) (zae ((1:Int))))
  (cnd (decide (x<y))
   (K (zad ((-1:Int))) (zae ((-1:Int))))
   (cnd (decide (x > y))
    (K (zad ((1:Int))) (zae ((1:Int))))
    (K (zad ((0:Int))) (zae ((0:Int)))))))):=by kernel_rfl
def zmx (x:Int) (y:Int) : Option (Int) :=
  if (z5w x)=true then
   if (z5w y)=true then
    some ((0:Int))
   else
    some ((-1:Int))
  else
   if (z5w y)=true then
    some ((1:Int))
   else
    if (decide (x<y))=true then
     some ((-1:Int))
    else
     if (decide (x > y))=true then
      some ((1:Int))
     else
      some ((0:Int))
theorem z1li {x:Int} {y:Int} {r:Int} (h:zmx x y=some r) : Runs (awp zdq z239 (zi Tryz.f193) (z39 Tryz.f193.ntmps 0 [.d (.v (.s (.int .i64 x))),.d (.v (.s (.int .i64 y)))]) (retQ zdq Tryz.f193.results.toList [.d] fun rs os=>rs=zad r∧os=zae r)):=by
 constructor;rw[z1qa x y (fun rs os=>rs=zad r∧os=zae r)];rcases z1n h with ⟨c1,h2⟩ | ⟨c1,h2⟩
 ·rcases z1n h2 with ⟨c3,h4⟩ | ⟨c3,h4⟩
  ·cases h4;exact (z2b c1 (z2b c3 ⟨rfl,rfl⟩))
  ·cases h4;exact (z2b c1 (z12 (zq c3) ⟨rfl,rfl⟩))
 ·rcases z1n h2 with ⟨c5,h6⟩ | ⟨c5,h6⟩
  ·cases h6;exact (z12 (zq c1) (z2b c5 ⟨rfl,rfl⟩))
  ·rcases z1n h6 with ⟨c7,h8⟩ | ⟨c7,h8⟩
   ·cases h8;exact (z12 (zq c1) (z12 (zq c5) (z2b c7 ⟨rfl,rfl⟩)))
   ·rcases z1n h8 with ⟨c9,h10⟩ | ⟨c9,h10⟩
    ·cases h10;exact (z12 (zq c1) (z12 (zq c5) (z12 (zq c7) (z2b c9 ⟨rfl,rfl⟩))))
    ·cases h10;exact (z12 (zq c1) (z12 (zq c5) (z12 (zq c7) (z12 (zq c9) ⟨rfl,rfl⟩))))
def z35 (x:Int) (y:Int) : Int :=
  if (z5w x)=true then
   if (z5w y)=true then
    ((0:Int))
   else
    ((-1:Int))
  else
   if (z5w y)=true then
    ((1:Int))
   else
    if (decide (x<y))=true then
     ((-1:Int))
    else
     if (decide (x > y))=true then
      ((1:Int))
     else
      ((0:Int))
theorem z1qb (x:Int) (y:Int) : zmx x y=some (z35 x y):=by grind [zmx,z35]
def zdr : FnC Un:=fnF2 (dI .i64) (dI .i64) fun x y=>([],zad (z35 x y),zae (z35 x y))
theorem zzh : FnOK 193 zdr:=fnK2 z1a z1a (M:=zdq) rfl ⟨z204,trivial⟩ trivial trivial trivial trivial Tryz.func193 fun x y=>fun _ _=>z1li (z1qb x y)
@[simp] theorem z1gs (x y:Int) : z35 x y=cmpI x y:=by
 unfold z35 z5w cmpI;simp
@[simp] theorem z127 (a b:ByteArray) : strings_Compare a b=cmpS a b:=rfl
def z5v : Nat→NS:=nsF_ [(3,{ ts:=[false,false,true,true,false,false,true,true,true,false,false,false,false,false,false,false,false,false],bs:=[false,false,false,false,false,false,false,false,false,false,false,false,false,false,false,false,false,false],nm:=[],gb:=[],gs:=[] })] false
def zb5 (vals:List Int) (v0:Int) : S Un:=(st 18 18 72 0 [(2,AV.one (A.c (C.s (Value.int IntKind.i64 (0:Int))))),(3,AV.one (A.c (C.s (Value.int IntKind.i64 (0:Int))))),(6,AV.one (A.c (C.sl Ty.int vals false))),(7,AV.one (A.c (C.s (Value.int IntKind.i64 (↑vals.length:Int))))),(8,AV.one (A.c (C.s (Value.int IntKind.i64 v0))))] [] [])
def zin (vals:List Int) (v0:Int) (v1:Int) : S Un:=(st 18 18 72 0 [(2,AV.one (A.c (C.s (Value.int IntKind.i64 v1)))),(3,AV.one (A.c (C.s (Value.int IntKind.i64 (0:Int))))),(6,AV.one (A.c (C.sl Ty.int vals false))),(7,AV.one (A.c (C.s (Value.int IntKind.i64 (↑vals.length:Int))))),(8,AV.one (A.c (C.s (Value.int IntKind.i64 v0))))] [] [])
theorem z2bx (vals:List Int) (K:List (A Un)→List (Ob Un)→Prop) :
  awp z1c5 z5v (zi Tryz.f192) (z39 Tryz.f192.ntmps 0 [.d (.v (.dat (U:=Un) Ty.int vals))]) (retQ z1c5 Tryz.f192.results.toList [.d] K) =
(zx (z5v 3) (awp z1c5 z5v (sub (zi Tryz.f192) [1,1,0,1,2,2])) (ctxK z1c5 z5v (zi Tryz.f192) [1,1,0,1,2] (retQ z1c5 Tryz.f192.results.toList [.d] K)) (zb5 vals (0:Int))):=by kernel_rfl
theorem z17s (vals:List Int) (v0:Int) (k:Nat) (Q:Exit→S Un→Prop) :
  z1d (z5v 3) (awp z1c5 z5v (sub (zi Tryz.f192) [1,1,0,1,2,2])) Q (k+1) (zb5 vals v0) =
(cnd (decide (v0<(↑vals.length:Int)))
 (((0:Int)≤v0∧v0<(↑vals.length:Int)) ∧
 (cnd (vals.getD v0.toNat (0:Int) != (0:Int))
  (Q .ret (zin vals v0 (vals.getD v0.toNat (0:Int))))
  (z1d (z5v 3) (awp z1c5 z5v (sub (zi Tryz.f192) [1,1,0,1,2,2])) Q k (zb5 vals (IntKind.i64.wrap (v0+(1:Int)))))))
 (Q (.exit 0) (zb5 vals v0))):=by kernel_rfl
theorem z1vy (vals:List Int) (v0:Int) (v1:Int) (K:List (A Un)→List (Ob Un)→Prop) :
  ctxK z1c5 z5v (zi Tryz.f192) [1,1,0,1,2] (retQ z1c5 Tryz.f192.results.toList [.d] K) .ret (zin vals v0 v1) =
(K (zad (v1)) (zae (v1))):=by kernel_rfl
theorem z205 (vals:List Int) (v0:Int) (K:List (A Un)→List (Ob Un)→Prop) :
  ctxK z1c5 z5v (zi Tryz.f192) [1,1,0,1,2] (retQ z1c5 Tryz.f192.results.toList [.d] K) (.exit 0) (zb5 vals v0) =
(K (zad ((0:Int))) (zae ((0:Int)))):=by kernel_rfl
def zpt (vals:List Int) (v:Int) : Option ((Int) ⊕ ((Int×Int) ⊕ (Int))) :=
  if (decide (v<(↑vals.length:Int)))=true then
   if (0:Int)≤v∧v<(↑vals.length:Int) then
    if (vals.getD v.toNat (0:Int) != (0:Int))=true then
     some (.inr (.inl (v,(vals.getD v.toNat (0:Int)))))
    else
     some (.inl (IntKind.i64.wrap (v+(1:Int))))
   else none
  else
   some (.inr (.inr v))
def zjt (vals:List Int) (v:Int) : Option ((Int×Int) ⊕ (Int)):=zg2 (zpt vals) v
theorem z17t (vals:List Int) (v:Int) : zjt vals v=zv7 (zjt vals) (zpt vals v):=z1fk _ _
def zvp (vals:List Int) (r:(Int×Int) ⊕ (Int)) (Q:Exit→S Un→Prop) : Prop:=match r with | .inl x=>Q .ret (zin vals x.1 x.2) | .inr x=>Q (.exit 0) (zb5 vals x)
theorem z1vz {vals:List Int} {x:Int×Int} {Q:Exit→S Un→Prop} (h:Q .ret (zin vals x.1 x.2)) : zvp vals (.inl x) Q:=h
theorem z206 {vals:List Int} {x:Int} {Q:Exit→S Un→Prop} (h:Q (.exit 0) (zb5 vals x)) : zvp vals (.inr x) Q:=h
theorem z13r {vals:List Int} {v:Int} {r:(Int×Int) ⊕ (Int)} (h:zjt vals v=some r) (Q:Exit→S Un→Prop) (hQ:zvp vals r Q) : zx (z5v 3) (awp z1c5 z5v (sub (zi Tryz.f192) [1,1,0,1,2,2])) Q (zb5 vals v):=by
 refine @z1fl _ _ (zpt vals) (fun v=>zx (z5v 3) (awp z1c5 z5v (sub (zi Tryz.f192) [1,1,0,1,2,2])) Q (zb5 vals v)) (fun r=>zvp vals r Q) ?_ v r h hQ;intro v o h hI;rcases z1n h with ⟨c1,h2⟩ | ⟨c1,h2⟩
 ·obtain⟨c3,h4⟩:=zyr h2;rcases z1n h4 with ⟨c5,h6⟩ | ⟨c5,h6⟩
  ·cases h6;exact zey 1 (mpr (z17s vals v 0 Q) (z2b c1 (And.intro c3 (z2b c5 hI))))
  ·cases h6;obtain⟨k7,hk8⟩:=z1j4 hI;exact zey (k7+1) (mpr (z17s vals v k7 Q) (z2b c1 (And.intro c3 (z12 (zq c5) hk8))))
 ·cases h2;exact zey 1 (mpr (z17s vals v 0 Q) (z12 (zq c1) hI))
def z17u (vals:List Int) : Option (Int) :=
  (zjt vals (0:Int)) >>= fun o9=>match o9 with
   | .inl o10 =>
     some (o10.2)
   | .inr o11 =>
     some ((0:Int))
theorem z28b {vals:List Int} {r:Int} (h:z17u vals=some r) : Runs (awp z1c5 z5v (zi Tryz.f192) (z39 Tryz.f192.ntmps 0 [.d (.v (.dat (U:=Un) Ty.int vals))]) (retQ z1c5 Tryz.f192.results.toList [.d] fun rs os=>rs=zad r∧os=zae r)):=by
 constructor;rw[z2bx vals (fun rs os=>rs=zad r∧os=zae r)];obtain⟨o12,ho13,h14⟩:=bind_some h;rcases o12 with o15 | o16
 ·cases h14;exact (z13r ho13 _ (z1vz (mpr (z1vy vals o15.1 o15.2 _) ⟨rfl,rfl⟩)))
 ·cases h14;exact (z13r ho13 _ (z206 (mpr (z205 vals o16 _) ⟨rfl,rfl⟩)))
def orL : List Int→Int
 | []=>0
 | x::r=>if x=0 then orL r else x
def zpu (vals:List Int) : Int:=orL vals
@[simp] theorem z2by (vals:List Int) : zpu vals=orL vals:=by rfl
theorem z24h (vals:List Int) (h:WL .int vals) : ∀ (r:List Int) (i:Nat),vals.drop i=r →
  ∃ o,zjt vals i=some o∧(match o with | .inl o=>o.2 | .inr _=>0)=orL r:=by
 intro r
 induction r with
 | nil =>
  intro i h1;have e1:=drop_nil h1;have hn:¬ ((i:Int)<vals.length):=by omega
  exact⟨.inr i,by rw[z17t,zpt];simp [hn],rfl⟩
 | cons x r ih =>
  intro i h1;obtain⟨a1,a2,a3,_⟩:=z54 h1;have hp:(i:Int)<vals.length:=by omega
  have hi:(0:Int)≤i:=by omega
  rw[z17t,zpt];simp only[hp,hi,decide_true,if_true,and_self,y5,a2,bne_iff_ne,ne_eq,ite_not,orL];by_cases hx : x=0
  ·rw[if_pos hx,if_pos hx,z1st a1 h.len,z15r];grind
  simp_all
theorem z24i (vals:List Int) (h:WL .int vals) : z17u vals=some (zpu vals):=by
 obtain⟨o,ho,e⟩:=z24h vals h _ 0 rfl;unfold z17u zpu;simp at e;rw[← e];have ho':zjt vals 0=some o:=ho;rw[ho'];cases o<;>rfl
def z1gt : FnC Un:=fnF1 (dL .int) fun vals=>([],zad (zpu vals),zae (zpu vals))
theorem z2bz : FnOK 192 z1gt:=fnK1 zw (M:=z1c5) rfl trivial trivial trivial trivial trivial Tryz.func192 fun vals=>fun w _=>z28b (z24i vals (wfA_ w 0))
end
end B
namespace B
open Go Go.RowKit
set_option maxRecDepth 100000
noncomputable section
attribute [local irreducible] awp ctxK zx z1d retQ z1o
def cmpV (a b:Val) : Int×Bool:=if a.kind=b.kind then (if a.kind=3 then (cmpS a.s b.s,true) else if a.kind=1∨a.kind=2 then (cmpI a.n b.n,true) else (0,false)) else (0,false)
def zds : Mc Un:=mcF_ [(193,zdr),(194,z8o),(192,z1gt)] [] [] [] []
theorem z1qc (a:Val) (b:Val) (K:List (A Un)→List (Ob Un)→Prop) :
  awp zds z239 (zi Tryz.f147) (z39 Tryz.f147.ntmps 0 [.d (.agg (enc Ty.val a)),.d (.agg (enc Ty.val b))]) (retQ zds Tryz.f147.results.toList [.d] K) =
(K (zad (zpu [z35 a.kind b.kind,z35 a.n b.n,strings_Compare a.s b.s])) (zae (zpu [z35 a.kind b.kind,z35 a.n b.n,strings_Compare a.s b.s]))):=by kernel_rfl
def zmy (a:Val) (b:Val) : Option (Int) :=
 some (zpu [z35 a.kind b.kind,z35 a.n b.n,strings_Compare a.s b.s])
theorem z1lj {a:Val} {b:Val} {r:Int} (h:zmy a b=some r) : Runs (awp zds z239 (zi Tryz.f147) (z39 Tryz.f147.ntmps 0 [.d (.agg (enc Ty.val a)),.d (.agg (enc Ty.val b))]) (retQ zds Tryz.f147.results.toList [.d] fun rs os=>rs=zad r∧os=zae r)):=by
 rw[z1qc a b (fun rs os=>rs=zad r∧os=zae r)];cases h;exact⟨rfl,rfl⟩
def z36 (a b:Val) : Int:=ordV a b
@[simp] theorem z1qd (a b:Val) : z36 a b=ordV a b:=by rfl
theorem z1gu (a b:Val) (_ha:WS .val a) (_hb:WS .val b) : zmy a b=some (z36 a b):=by
 unfold zmy z36 ordV;simp only[z2by,z1gs,z127,orL,z15t];grind
def zar : FnC Un:=fun args=>match args with
 | [x0,x1]=>(dS .val x0).bind fun a=>(dS .val x1).bind fun b=>some ([],zad (z36 a b),zae (z36 a b))
 | _=>none
theorem zmz : FnOK 147 zar:=by
 intro args ob rs os h hob;unfold zar at h;split at h
 ·simp only[y6,y8,yl] at h;obtain⟨a,e0,b,e1,rfl,rfl,rfl⟩:=h;obtain rfl:=zo e0;obtain rfl:=zo e1;exact⟨zh2 (M:=zds) rfl (z4m (l1:=[(193,zdr),(194,z8o),(192,z1gt)]) (l2:=[]) (l3:=[]) (l4:=[]) (l5:=[]) ⟨zzh,zps,z2bz,trivial⟩ trivial trivial trivial trivial) Tryz.func147 (by rfl) z239 0 [.d] (fun hwf=>z1lj (z1gu a b (z40 hwf (a:=.d (.agg (enc Ty.val a))) (ye (i:=0) rfl)) (z40 hwf (a:=.d (.agg (enc Ty.val b))) (ye (i:=1) rfl)))),zh Tryz.func147 (by rfl) (by rfl)⟩
 grind
def z2f : FV Un:=fun args=>match args with
 | [x0,x1]=>(dS .val (.d x0)).bind fun a=>(dS .val (.d x1)).bind fun b=>some ([],[.v (.s (.int .i64 (z36 a b)))])
 | _=>none
theorem zvq : FvOK 147 z2f:=by
 refine⟨zh Tryz.func147 (by rfl) (by rfl),fun args ob rs h hob=>?_⟩;unfold z2f at h;split at h
 ·simp only[y6,y8,yl] at h;obtain⟨a,e0,b,e1,rfl,rfl⟩:=h;simp;rw[zo e0];rw[zo e1];refine Contract.data (zmz _ ([]) _ _ (?_ : zar _=some _) (by simp)).1;rfl
 grind
theorem ztu : z2f=z1f ordV:=by
 rfl
def zb6 : Mc Un:=mcF_ [(194,z8o),(193,zdr)] [] [] [] []
def z4e (r:Int×Bool) : List (A Un):=[.c (.s (.int .i64 r.1)),.c (.s (.bool r.2))]
def z4f (_r:Int×Bool) : List (Ob Un):=[]
theorem z1gv (a:Val) (b:Val) (K:List (A Un)→List (Ob Un)→Prop) :
  awp zb6 z239 (zi Tryz.f152) (z39 Tryz.f152.ntmps 0 [.d (.agg (enc Ty.val a)),.d (.agg (enc Ty.val b))]) (retQ zb6 Tryz.f152.results.toList [.d,.d] K) =
(cnd (a.kind != b.kind)
 (K (z4e ((0:Int),false)) (z4f ((0:Int),false)))
 (cnd (decide (a.kind<(1:Int)))
  (K (z4e ((0:Int),false)) (z4f ((0:Int),false)))
  (cnd (decide (a.kind > (3:Int)))
   (K (z4e ((0:Int),false)) (z4f ((0:Int),false)))
   (cnd (a.kind == (3:Int))
    (K (z4e (strings_Compare a.s b.s,true)) (z4f (strings_Compare a.s b.s,true)))
    (K (z4e (z35 a.n b.n,true)) (z4f (z35 a.n b.n,true))))))):=by kernel_rfl
def zjf (a:Val) (b:Val) : Option (Int×Bool) :=
  if (a.kind != b.kind)=true then
   some ((0:Int),false)
  else
   if (decide (a.kind<(1:Int)))=true then
    some ((0:Int),false)
   else
    if (decide (a.kind > (3:Int)))=true then
     some ((0:Int),false)
    else
     if (a.kind == (3:Int))=true then
      some (strings_Compare a.s b.s,true)
     else
      some (z35 a.n b.n,true)
theorem z1ba {a:Val} {b:Val} {r:Int×Bool} (h:zjf a b=some r) : Runs (awp zb6 z239 (zi Tryz.f152) (z39 Tryz.f152.ntmps 0 [.d (.agg (enc Ty.val a)),.d (.agg (enc Ty.val b))]) (retQ zb6 Tryz.f152.results.toList [.d,.d] fun rs os=>rs=z4e r∧os=z4f r)):=by
 constructor;rw[z1gv a b (fun rs os=>rs=z4e r∧os=z4f r)];rcases z1n h with ⟨c1,h2⟩ | ⟨c1,h2⟩
 ·cases h2;exact (z2b c1 ⟨rfl,rfl⟩)
 ·rcases z1n h2 with ⟨c3,h4⟩ | ⟨c3,h4⟩
  ·cases h4;exact (z12 (zq c1) (z2b c3 ⟨rfl,rfl⟩))
  ·rcases z1n h4 with ⟨c5,h6⟩ | ⟨c5,h6⟩
   ·cases h6;exact (z12 (zq c1) (z12 (zq c3) (z2b c5 ⟨rfl,rfl⟩)))
   ·rcases z1n h6 with ⟨c7,h8⟩ | ⟨c7,h8⟩
    ·cases h8;exact (z12 (zq c1) (z12 (zq c3) (z12 (zq c5) (z2b c7 ⟨rfl,rfl⟩))))
    ·cases h8;exact (z12 (zq c1) (z12 (zq c3) (z12 (zq c5) (z12 (zq c7) ⟨rfl,rfl⟩))))
def z18 (a b:Val) : Int×Bool:=cmpV a b
@[simp] theorem z1gw (a b:Val) : z18 a b=cmpV a b:=by rfl
theorem z17v (a b:Val) (_ha:WS .val a) (_hb:WS .val b) : zjf a b=some (z18 a b):=by
 unfold zjf z18 cmpV;simp;grind
def z8b : FnC Un:=fun args=>match args with
 | [x0,x1]=>(dS .val x0).bind fun a=>(dS .val x1).bind fun b=>some ([],z4e (z18 a b),z4f (z18 a b))
 | _=>none
theorem zjg : FnOK 152 z8b:=by
 intro args ob rs os h hob;unfold z8b at h;split at h
 ·simp only[y6,y8,yl] at h;obtain⟨a,e0,b,e1,rfl,rfl,rfl⟩:=h;obtain rfl:=zo e0;obtain rfl:=zo e1;exact⟨zh2 (M:=zb6) rfl (z4m (l1:=[(194,z8o),(193,zdr)]) (l2:=[]) (l3:=[]) (l4:=[]) (l5:=[]) ⟨zps,zzh,trivial⟩ trivial trivial trivial trivial) Tryz.func152 (by rfl) z239 0 [.d,.d] (fun hwf=>z1ba (z17v a b (z40 hwf (a:=.d (.agg (enc Ty.val a))) (ye (i:=0) rfl)) (z40 hwf (a:=.d (.agg (enc Ty.val b))) (ye (i:=1) rfl)))),zh Tryz.func152 (by rfl) (by rfl)⟩
 grind
end
end B
namespace B
open Go Go.RowKit
set_option maxRecDepth 100000
noncomputable section
attribute [local irreducible] awp ctxK zx z1d retQ z1o awf ctxF z1l
def z17w (r:Int) : RF Un:=(zad r,zae r)
def z1ll : Nat→NS:=nsF_ [(2,{ ts:=bl 39 14407,bs:=bl 39 0,nm:=[] })] false
def zas (s1:List Val) (s2:List Val) (p:Val→Val→Int) (v0:Int) : S Un:=(st 39 39 156 0 [(0,al .val s1),(1,al .val s2),(2,AV.one (A.c (C.fv (z1f p)))),(6,ai (0:Int)),(11,al .val s1),(12,ai (↑s1.length:Int)),(13,ai v0)] [] [])
def zht (s1:List Val) (s2:List Val) (p:Val→Val→Int) (v0:Int) (v1:Int) : S Un:=(st 39 39 156 0 [(0,al .val s1),(1,al .val s2),(2,AV.one (A.c (C.fv (z1f p)))),(6,ai v1),(11,al .val s1),(12,ai (↑s1.length:Int)),(13,ai v0)] [] [])
def zgi : S Un→Option (EX Un):=lpF_ z1c5 z1ll Tryz.f195 [1,0,1,2,2] 2
def z1ak : Exit→S Un→Option (RF Un):=cxF_ z1c5 z1ll Tryz.f195 [1,0,1,2] [.d]
def z269 (s1:List Val) (s2:List Val) (p:Val→Val→Int) : Option (RF Un):=fnF_ z1c5 z1ll Tryz.f195 0 [.d] [.d (.v (.dat (U:=Un) Ty.val s1)),.d (.v (.dat (U:=Un) Ty.val s2)),.fn (z1f p)]
theorem z2hp (s1:List Val) (s2:List Val) (p:Val→Val→Int) : z269 s1 s2 p=(zgi (zas s1 s2 p (0:Int))).bind (zb z1ak):=by kernel_rfl
theorem z1al (s1:List Val) (s2:List Val) (p:Val→Val→Int) (v0:Int) : zgi (zas s1 s2 p v0)=cndO (decide (v0<(↑s1.length:Int))) (obO (0≤v0∧v0<(↑s1.length:Int)) (cndO (decide (v0≥(↑s2.length:Int))) (some (.ret,(zht s1 s2 p v0 (1:Int)))) (obO (0≤v0∧v0<(↑s2.length:Int)) (cndO (p (s1.getD v0.toNat zeroVal) (s2.getD v0.toNat zeroVal) != 0) (some (.ret,(zht s1 s2 p v0 (p (s1.getD v0.toNat zeroVal) (s2.getD v0.toNat zeroVal))))) (zgi (zas s1 s2 p (IntKind.i64.wrap (v0+1)))))))) (some (.exit 0,(zas s1 s2 p v0))):=lpQ_ (by kernel_rfl)
theorem z1dt (s1:List Val) (s2:List Val) (p:Val→Val→Int) (v0:Int) (v1:Int) : z1ak .ret (zht s1 s2 p v0 v1)=some (z17w (v1)):=by kernel_rfl
theorem z28c (s1:List Val) (s2:List Val) (p:Val→Val→Int) (v0:Int) : z1ak (.exit 0) (zas s1 s2 p v0)=cndO (decide ((↑s1.length:Int)<(↑s2.length:Int))) (some (z17w ((-1:Int)))) (some (z17w ((0:Int)))):=by kernel_rfl
def z128 (p:Val→Val→Int) : List Val→List Val→Int
 | [],[]=>0
 | [],_::_=>-1
 | _::_,[]=>1
 | a::l,b::r=>if p a b=0 then z128 p l r else p a b
def cmpR (s1 s2:List Val) (p:Val→Val→Int) : Int:=z128 p s1 s2
theorem z2f7 (s1 s2:List Val) (p:Val→Val→Int) (h1:WL .val s1) (h2:WL .val s2) : ∀ (ra rb:List Val) (i:Nat),s1.drop i=ra→s2.drop i=rb→i≤s1.length→i≤s2.length →
    (zgi (zas s1 s2 p (i:Int))).bind (zb z1ak)=some (z17w (z128 p ra rb)):=by
  have l1:=h1.len;intro ra
  induction ra with
  | nil =>
    intro rb i e1 e2 i1 i2
    have n1 : s1.length = i := by have : s1.length ≤ i := y1o.1 e1
                                  omega
    have hL:zgi (zas s1 s2 p (i:Int))=some (.exit 0,zas s1 s2 p (i:Int)):=by
      rw[z1al,z7,if_neg (by rw[decide_eq_true_eq];omega)]
    rw[ze hL,z28c,z7];cases rb with
    | nil =>
      have : s2.length≤i:=y1o.1 e2;rw[if_neg (by rw[decide_eq_true_eq];omega)];rfl
    | cons y rb =>
      have hlt:i<s2.length:=by
        rcases yj i s2.length with h | h
        · exact h
        · rw[List.drop_eq_nil_of_le h] at e2;simp at e2
      rw[if_pos (by rw[decide_eq_true_eq];omega)];rfl
  | cons x ra ih =>
    intro rb i e1 e2 i1 i2;obtain⟨a1,a2,a3,_⟩:=z54 e1;cases rb with
    | nil =>
      have n2:s2.length≤i:=y1o.1 e2;have hL:zgi (zas s1 s2 p (i:Int))=some (.ret,zht s1 s2 p (i:Int) 1):=by
        rw[z1al,z7,if_pos (by rw[decide_eq_true_eq];omega),z6 (by omega),z7,if_pos (by rw[decide_eq_true_eq];omega)]
      rw[ze hL,z1dt];rfl
    | cons y rb =>
      obtain⟨b1,b2,b3,_⟩:=z54 e2;by_cases hxy : p x y=0
      · have hL:zgi (zas s1 s2 p (i:Int))=zgi (zas s1 s2 p ((i+1:Nat):Int)):=by
          rw[z1al,z7,if_pos (by rw[decide_eq_true_eq];omega),z6 (by omega),z7,if_neg (by rw[decide_eq_true_eq];omega),z6 (by omega),y5,a2,b2,z7,if_neg (by simp [hxy]),z1s (by omega)];rfl
        rw[hL,ih rb (i+1) a3 b3 (by omega) (by omega)];simp only[z128,if_pos hxy]
      · have hL:zgi (zas s1 s2 p (i:Int))=some (.ret,zht s1 s2 p (i:Int) (p x y)):=by
          rw[z1al,z7,if_pos (by rw[decide_eq_true_eq];omega),z6 (by omega),z7,if_neg (by rw[decide_eq_true_eq];omega),z6 (by omega),y5,a2,b2,z7,if_pos (by simpa using hxy)]
        rw[ze hL,z1dt];simp only[z128,if_neg hxy]
theorem z2c2 (s1 s2:List Val) (p:Val→Val→Int) (h1:WL .val s1) (h2:WL .val s2) : z269 s1 s2 p=some (z17w (cmpR s1 s2 p)):=by
 rw[z2hp];exact z2f7 s1 s2 p h1 h2 s1 s2 0 rfl rfl (yb _) (yb _)
def z207 : FnC Un:=fun args=>match args with
 | [x0,x1,x2]=>(dL .val x0).bind fun s1=>(dL .val x1).bind fun s2=>(dF x2).bind fun p=>some ([p=(z1f (zj p))],zad (cmpR s1 s2 (zj p)),zae (cmpR s1 s2 (zj p)))
 | _=>none
theorem z2hq : FnOK 195 z207:=by
 intro args ob rs os h hob;unfold z207 at h;split at h
 ·simp only[y6,y8,yl] at h;obtain⟨s1,e0,s2,e1,p,e2,rfl,rfl,rfl⟩:=h;obtain rfl:=zw e0;obtain rfl:=zw e1;obtain rfl:=znn e2;have hfv0:=hob _ (ye (i:=0) rfl);generalize zj p=pp0 at *;subst hfv0;exact⟨z2d (M:=z1c5) rfl (z4m (l1:=[]) (l2:=[]) (l3:=[]) (l4:=[]) (l5:=[]) trivial trivial trivial trivial trivial) Tryz.func195 (by rfl) z1ll 0 [.d] (fun hwf=>(z2c2 s1 s2 pp0 (z40 hwf (a:=.d (.v (.dat (U:=Un) Ty.val s1))) (ye (i:=0) rfl)) (z40 hwf (a:=.d (.v (.dat (U:=Un) Ty.val s2))) (ye (i:=1) rfl)))),zh Tryz.func195 (by rfl) (by rfl)⟩
 grind
def zzi : Mc Un:=mcF_ [(195,z207)] [(147,z2f)] [] [] []
def zvr (a:List Val) (b:List Val) : Option (RF Un):=fnF_ zzi z239 Tryz.f149 0 [.d] [.d (.v (.dat (U:=Un) Ty.val a)),.d (.v (.dat (U:=Un) Ty.val b))]
theorem z1lm (a:List Val) (b:List Val) : zvr a b=obO (z2f=z1f (zj z2f)) (some (z2c (cmpR a b (zj z2f)))):=by kernel_rfl
def z3g (a b:List Val) : Int:=ordR a b
theorem z1ti : ∀ a b : List Val,z128 ordV a b=ordR a b
 | [],[]=>rfl
 | [],_::_=>rfl
 | _::_,[]=>rfl
 | a::l,b::r=>by simp only[z128,ordR,z1ti l r]
theorem z1bb (a b:List Val) (_ha:WL .val a) (_hb:WL .val b) : zvr a b=some (z2c (z3g a b)):=by
 have e:zj (z1f ordV)=ordV:=zex ordV;rw[z1lm,ztu,e,z6 rfl];unfold cmpR z3g;rw[z1ti]
def z79 : FnC Un:=fnF2 (dL .val) (dL .val) fun a b=>([],z2c (z3g a b))
theorem zlr : FnOK 149 z79:=fnK2 zw zw (M:=zzi) rfl ⟨z2hq,trivial⟩ ⟨zvq,trivial⟩ trivial trivial trivial Tryz.func149 fun a b=>GiF.r fun w _=>z1bb a b (wfA_ w 0) (wfA_ w 1)
end
end B
end Go.Proofs.YtjfpbchdcbhfgaaGreat
