/- Part 8 of the proof: Sref15r Slight1. -/
import Derived.Test.YtjfpbchdcbhfgaaGreatNsy7
set_option linter.unusedVariables false
set_option linter.unusedSimpArgs false
set_option linter.defProp false
namespace Go.Proofs.YtjfpbchdcbhfgaaGreat
namespace B
open Go Go.RowKit
set_option maxRecDepth 100000
noncomputable section
attribute [local irreducible] aB bk zw br aK b9 aR bu bA
def iT(r:Rel):Option (RF Un):=aw av aV Tryz.f65 0 [.d] [.d<|.agg<|enc Ty.rel r]
def fh(r:Rel):Bool:=
 (!(r.op==1)&& !(r.table.toList==(ByteArray.mk #[]).toList))||(!(r.op==2)&&decide (0<r.rows.length))||(!(r.op==3||r.op==4||r.op==5||r.op==6||r.op==7)&&decide (0<r.terms.length))||
 (!(r.op==7)&&decide (0<r.aggs.length))||(!(r.op==12)&&decide (0<r.keys.length))||(!(r.op==9||r.op==10||r.op==11)&&r.all)||(!(r.op==13)&&(!(r.limit==0)|| !(r.skip==0)))
def uD{R:Bool→RF Un} a p x{X}(h:X=some (R x)):af a (af p (some<|R true) X) X=some (R<|(a&&p)||x):=by subst h;cases a<;>cases p<;>cases x<;>rfl
def vR(g p:Bool)(X:Option (RF Un)):Option (RF Un):=af g (af p (some<|ak true) X) X
def iU(g1 g2 g3 g4 g5 g6 g7 tb rw_ tm ag ky al li sk:Bool):Option (RF Un):=vR g1 tb<|vR g2 rw_<|vR g3 tm<|vR g4 ag<|vR g5 ky<|vR g6 al<|af g7 (af li (some<|ak true)<|some<|ak sk)<|some<|ak false
def jB g1 g2 g3 g4 g5 g6 g7 tb rw_ tm ag ky al li sk:iU g1 g2 g3 g4 g5 g6 g7 tb rw_ tm ag ky al li sk=some (ak<|(g1&&tb)||((g2&&rw_)||((g3&&tm)||((g4&&ag)||((g5&&ky)||((g6&&al)||(g7&&(li||sk)))))))):=by
 have z:af g7 (af li (some<|ak true)<|some<|ak sk) (some<|ak false)=some (ak<|g7&&(li||sk)):=by cases g7<;>cases li<;>rfl
 exact uD _ _ _<|uD _ _ _<|uD _ _ _<|uD _ _ _<|uD _ _ _<|uD _ _ _ z
def akv table cols kids terms aggs keys limit skip all rows:iT (.mk 1 table cols kids terms aggs keys limit skip all rows)=iU false true true true true true true (!(table.toList==(ByteArray.mk #[]).toList)) (decide<|(rows.length:Int)>0) (decide<|(terms.length:Int)>0) (decide<|(aggs.length:Int)>0) (decide<|(keys.length:Int)>0) all (limit !=0) (skip !=0):=by kernel_rfl
def akw table cols kids terms aggs keys limit skip all rows:iT (.mk 2 table cols kids terms aggs keys limit skip all rows)=iU true false true true true true true (!(table.toList==(ByteArray.mk #[]).toList)) (decide<|(rows.length:Int)>0) (decide<|(terms.length:Int)>0) (decide<|(aggs.length:Int)>0) (decide<|(keys.length:Int)>0) all (limit !=0) (skip !=0):=by kernel_rfl
def akx table cols kids terms aggs keys limit skip all rows:iT (.mk 3 table cols kids terms aggs keys limit skip all rows)=iU true true false true true true true (!(table.toList==(ByteArray.mk #[]).toList)) (decide<|(rows.length:Int)>0) (decide<|(terms.length:Int)>0) (decide<|(aggs.length:Int)>0) (decide<|(keys.length:Int)>0) all (limit !=0) (skip !=0):=by kernel_rfl
def aky table cols kids terms aggs keys limit skip all rows:iT (.mk 4 table cols kids terms aggs keys limit skip all rows)=iU true true false true true true true (!(table.toList==(ByteArray.mk #[]).toList)) (decide<|(rows.length:Int)>0) (decide<|(terms.length:Int)>0) (decide<|(aggs.length:Int)>0) (decide<|(keys.length:Int)>0) all (limit !=0) (skip !=0):=by kernel_rfl
def akz table cols kids terms aggs keys limit skip all rows:iT (.mk 5 table cols kids terms aggs keys limit skip all rows)=iU true true false true true true true (!(table.toList==(ByteArray.mk #[]).toList)) (decide<|(rows.length:Int)>0) (decide<|(terms.length:Int)>0) (decide<|(aggs.length:Int)>0) (decide<|(keys.length:Int)>0) all (limit !=0) (skip !=0):=by kernel_rfl
def akA table cols kids terms aggs keys limit skip all rows:iT (.mk 6 table cols kids terms aggs keys limit skip all rows)=iU true true false true true true true (!(table.toList==(ByteArray.mk #[]).toList)) (decide<|(rows.length:Int)>0) (decide<|(terms.length:Int)>0) (decide<|(aggs.length:Int)>0) (decide<|(keys.length:Int)>0) all (limit !=0) (skip !=0):=by kernel_rfl
def akB table cols kids terms aggs keys limit skip all rows:iT (.mk 7 table cols kids terms aggs keys limit skip all rows)=iU true true false false true true true (!(table.toList==(ByteArray.mk #[]).toList)) (decide<|(rows.length:Int)>0) (decide<|(terms.length:Int)>0) (decide<|(aggs.length:Int)>0) (decide<|(keys.length:Int)>0) all (limit !=0) (skip !=0):=by kernel_rfl
def akC table cols kids terms aggs keys limit skip all rows:iT (.mk 8 table cols kids terms aggs keys limit skip all rows)=iU true true true true true true true (!(table.toList==(ByteArray.mk #[]).toList)) (decide<|(rows.length:Int)>0) (decide<|(terms.length:Int)>0) (decide<|(aggs.length:Int)>0) (decide<|(keys.length:Int)>0) all (limit !=0) (skip !=0):=by kernel_rfl
def akD table cols kids terms aggs keys limit skip all rows:iT (.mk 9 table cols kids terms aggs keys limit skip all rows)=iU true true true true true false true (!(table.toList==(ByteArray.mk #[]).toList)) (decide<|(rows.length:Int)>0) (decide<|(terms.length:Int)>0) (decide<|(aggs.length:Int)>0) (decide<|(keys.length:Int)>0) all (limit !=0) (skip !=0):=by kernel_rfl
def akE table cols kids terms aggs keys limit skip all rows:iT (.mk 10 table cols kids terms aggs keys limit skip all rows)=iU true true true true true false true (!(table.toList==(ByteArray.mk #[]).toList)) (decide<|(rows.length:Int)>0) (decide<|(terms.length:Int)>0) (decide<|(aggs.length:Int)>0) (decide<|(keys.length:Int)>0) all (limit !=0) (skip !=0):=by kernel_rfl
def akF table cols kids terms aggs keys limit skip all rows:iT (.mk 11 table cols kids terms aggs keys limit skip all rows)=iU true true true true true false true (!(table.toList==(ByteArray.mk #[]).toList)) (decide<|(rows.length:Int)>0) (decide<|(terms.length:Int)>0) (decide<|(aggs.length:Int)>0) (decide<|(keys.length:Int)>0) all (limit !=0) (skip !=0):=by kernel_rfl
def akG table cols kids terms aggs keys limit skip all rows:iT (.mk 12 table cols kids terms aggs keys limit skip all rows)=iU true true true true false true true (!(table.toList==(ByteArray.mk #[]).toList)) (decide<|(rows.length:Int)>0) (decide<|(terms.length:Int)>0) (decide<|(aggs.length:Int)>0) (decide<|(keys.length:Int)>0) all (limit !=0) (skip !=0):=by kernel_rfl
def akH table cols kids terms aggs keys limit skip all rows:iT (.mk 13 table cols kids terms aggs keys limit skip all rows)=iU true true true true true true false (!(table.toList==(ByteArray.mk #[]).toList)) (decide<|(rows.length:Int)>0) (decide<|(terms.length:Int)>0) (decide<|(aggs.length:Int)>0) (decide<|(keys.length:Int)>0) all (limit !=0) (skip !=0):=by kernel_rfl
def uE(r:Rel):Prop:=0≤bD r.op
def akI(r:Rel)(_hr:WS .rel r)(h:uE r):iT r=some (ak<|fh r):=by
 have hop:r.op=1∨r.op=2∨r.op=3∨r.op=4∨r.op=5∨r.op=6∨r.op=7∨r.op=8∨r.op=9∨r.op=10∨r.op=11∨r.op=12∨r.op=13:=by
  grind[uE,bD]
 cases r with
 |mk op table cols kids terms aggs keys limit skip all rows=>
  rcases hop with rfl|rfl|rfl|rfl|rfl|rfl|rfl|rfl|rfl|rfl|rfl|rfl|rfl
  ·rw[akv,jB];unfold fh;simp;grind
  ·rw[akw,jB];unfold fh;simp;grind
  ·rw[akx,jB];unfold fh;simp;grind
  ·rw[aky,jB];unfold fh;simp;grind
  ·rw[akz,jB];unfold fh;simp;grind
  ·rw[akA,jB];unfold fh;simp;grind
  ·rw[akB,jB];unfold fh;simp;grind
  ·rw[akC,jB];unfold fh;simp;grind
  ·rw[akD,jB];unfold fh;simp;grind
  ·rw[akE,jB];unfold fh;simp;grind
  ·rw[akF,jB];unfold fh;simp;grind
  ·rw[akG,jB];unfold fh;simp;grind
  ·rw[akH,jB];unfold fh;simp;grind
def UH:au Un:=aQ (dS .rel) fun r=>([uE r],ak<|fh r)
def akJ:aj 65 UH:=aU zo (M:=av) rfl trivial Tryz.func65 fun r=>GiF.r fun w o=>akI r (am w 0)<|aA o 0
def rR(t:Term)(env:List Int):Bool:=(mD t).2.2 &&decide (¬(t.kids.length:Int)<(mD t).1)&&decide (¬(t.kids.length:Int)>(mD t).2.1)&&decide ((t.sub.length:Int)=sV t)&&uB t env
def zX(r:Rel):Bool:=decide (¬bD r.op<0)&&decide ((r.kids.length:Int)=bD r.op)&& !fh r
def Ec(a:Agg):Bool:=((a.name.toList==(ByteArray.mk #[99,111,117,110,116]).toList)||(a.name.toList==(ByteArray.mk #[115,117,109]).toList)||(a.name.toList==(ByteArray.mk #[109,105,110]).toList)||(a.name.toList==(ByteArray.mk #[109,97,120]).toList))&&decide (a.t.length≤1)&&(decide (a.t.length≠0)||((a.name.toList==(ByteArray.mk #[99,111,117,110,116]).toList)&& !a.distinct))
mutual
def km:Term→List Int→Bool
 | .mk op v depth at_ name kids sub type,env=>rR (.mk op v depth at_ name kids sub type) env&&fk kids env&&(decide (sub.length≠1)||(kn sub env&&(op==27||bQ (sub.getD 0 za)==1)))
def fk:List Term→List Int→Bool
 |[],_=>true
 |t::l,env=>km t env&&fk l env
def uF:Agg→List Int→Bool
 | .mk name distinct t,env=>Ec (.mk name distinct t)&&fk t env
def uG:List Agg→List Int→Bool
 |[],_=>true
 |a::l,env=>uF a env&&uG l env
def ll:Rel→List Int→Bool
 | .mk op table cols kids terms aggs keys limit skip all rows,env=>zX (.mk op table cols kids terms aggs keys limit skip all rows)&&kn kids env&&decide ((cols.length:Int)=bQ (.mk op table cols kids terms aggs keys limit skip all rows))&&
  (if op=1 then !(table.toList==(ByteArray.mk #[]).toList)
   else if op=2 then vQ rows cols.length
   else if op=3∨op=6 then decide (terms.length=1)&&fk terms (fg (.mk op table cols kids terms aggs keys limit skip all rows)::env)
   else if op=4 then fk terms (fg (.mk op table cols kids terms aggs keys limit skip all rows)::env)
   else if op=5 then decide (terms.length≤1)&&fk terms (fg (.mk op table cols kids terms aggs keys limit skip all rows)::env)
   else if op=7 then fk terms (fg (.mk op table cols kids terms aggs keys limit skip all rows)::env)&&uG aggs (fg (.mk op table cols kids terms aggs keys limit skip all rows)::env)
   else if op=9∨op=10∨op=11 then bQ (kids.getD 0 za)==bQ (kids.getD 1 za)
   else if op=12 then zW keys (bQ<|.mk op table cols kids terms aggs keys limit skip all rows)
   else if op=13 then decide (-1≤limit∧limit≤1000000000000000∧0≤skip∧skip≤1000000000000000)
   else true)
def kn:List Rel→List Int→Bool
 |[],_=>true
 |r::l,env=>ll r env&&kn l env
end
def jC(r:Rel)(env:List Int):Bool:=
 if r.op=1 then !(r.table.toList==(ByteArray.mk #[]).toList)
 else if r.op=2 then vQ r.rows r.cols.length
 else if r.op=3∨r.op=6 then decide (r.terms.length=1)&&fk r.terms (fg r::env)
 else if r.op=4 then fk r.terms (fg r::env)
 else if r.op=5 then decide (r.terms.length≤1)&&fk r.terms (fg r::env)
 else if r.op=7 then fk r.terms (fg r::env)&&uG r.aggs (fg r::env)
 else if r.op=9∨r.op=10∨r.op=11 then bQ (r.kids.getD 0 za)==bQ (r.kids.getD 1 za)
 else if r.op=12 then zW r.keys (bQ r)
 else if r.op=13 then decide (-1≤r.limit∧r.limit≤1000000000000000∧0≤r.skip∧r.skip≤1000000000000000)
 else true
def UI t env:km t env=(rR t env&&fk t.kids env&&(decide (t.sub.length≠1)||(kn t.sub env&&(t.op==27||bQ (t.sub.getD 0 za)==1)))):=by cases t;rfl
theorem UJ a env:uF a env=(Ec a&&fk a.t env):=by cases a;rfl
def UK r env:ll r env=(zX r&&kn r.kids env&&decide ((r.cols.length:Int)=bQ r)&&jC r env):=by cases r;rfl
theorem vS:∀(l:List Term)(env:List Int),fk l env=l.all fun t=>km t env
 |[],_=>rfl
 |t::l,env=>by simp only[fk,fb,vS l env]
theorem Mg:∀(l:List Agg)(env:List Int),uG l env=l.all fun t=>uF t env
 |[],_=>rfl
 |t::l,env=>by simp only[uG,fb,Mg l env]
theorem Ed:∀(l:List Rel)(env:List Int),kn l env=l.all fun t=>ll t env
 |[],_=>rfl
 |t::l,env=>by simp only[kn,fb,Ed l env]
def zY(r:Rel):Prop:=(r.op=9∨r.op=10∨r.op=11)→2≤r.kids.length
def lm(t:Term)(env:List Int):Bool:=km t env
def ln(l:List Term)(env:List Int):Bool:=fk l env
def Ee(l:List Agg)(env:List Int):Bool:=uG l env
def Mh(r:Rel)(env:List Int):Bool:=jC r env
def jD(r:Rel)(env:List Int):Bool:=ll r env
def GX(m:Nat):au Un:=aD (dS .term) (dL .int) fun t env=>bB (3*t.ht) m ([cd env t.ht],ak<|lm t env)
def Ef(m:Nat):au Un:=aD (dL .term) (dL .int) fun l env=>bB (3*aY l+1) m ([cd env<|aY l],ak<|ln l env)
def Mi(m:Nat):au Un:=aD (dL .agg) (dL .int) fun l env=>bB (3*fx l) m ([cd env<|fx l],ak<|Ee l env)
def Mj(m:Nat):au Un:=aD (dS .rel) (dL .int) fun r env=>bB (3*r.ht+1) m ([cd env r.ht,zY r],ak<|Mh r env)
def Eg(m:Nat):au Un:=aD (dS .rel) (dL .int) fun r env=>bB (3*r.ht+2) m ([cd env r.ht],ak<|jD r env)
def Eh(m:Nat):Mc Un:=az [(56,Up),(57,Ur),(58,Ut),(18,GX m),(33,Eg m),(19,sS)] [] [] [] []
def Mk:Nat→NS:=aO [(5,{ts:=bl 83 278,bs:=bl 83 4,nm:=[],cs:=true})] true
def oj(t:Term)(env:List Int)(v0:Int):S Un:=(st 83 83 332 0 [(1,al .int env),(2,ax 2),(4,ab false),(8,ai v0)] [(2,bg .term t)] [])
def GY(m:Nat):S Un→Option (EX Un):=aC (Eh m) Mk Tryz.f18 [1,1,1,0,1,2,2] 5
def BI(m:Nat):Exit→S Un→Option (RF Un):=aE (Eh m) Mk Tryz.f18 [1,1,1,0,1,2] [.d]
def UL(m:Nat)(t:Term)(env:List Int):Option (RF Un):=aw (Eh m) Mk Tryz.f18 0 [.d] [.d<|.agg<|enc Ty.term t,.d<|.v<|.dat (U:=Un) Ty.int env]
def akK(m t env):UL m t env=af (!(mD<|Term.ids t).snd.snd) (some<|ak false) (af (decide<|(↑t.kids.length:Int)<(mD<|Term.ids t).fst) (some<|ak false)<|af (decide<|(↑t.kids.length:Int)>(mD<|Term.ids t).snd.fst) (some<|ak false)<|af ((↑t.sub.length:Int) !=sV (Term.ids t)) (some<|ak false)<|af (!uB (Term.ids t) env) (some<|ak false)<|(GY m<|oj t env (0:Int)).bind<|zd<|BI m):=ah
def UM(m t env v0):GY m (oj t env v0)=af (decide<|v0<(↑t.kids.length:Int)) (ae (0≤v0∧v0<(↑t.kids.length:Int))<|ae ((3:Nat)*(Term.ids<|t.kids.getD v0.toNat zb).ht<m)<|ae (cd env (Term.ids<|t.kids.getD v0.toNat zb).ht)<|af (!lm (Term.ids<|t.kids.getD v0.toNat zb) env) (some (.ret,(oj t env v0)))<|GY m<|oj t env<|IntKind.i64.wrap<|v0+1) (some (.exit 0,(oj t env v0))):=aF
def akL(m t env v0):BI m .ret (oj t env v0)=some (ak false):=ah
def akM(m t env v0):BI m (.exit 0) (oj t env v0)=af ((↑t.sub.length:Int)==(1:Int)) (ae ((0:Int)≤(0:Int)∧(0:Int)<(↑t.sub.length:Int))<|ae ((3:Nat)*(Rel.ids<|t.sub.getD 0 za).ht+(2:Nat)<m)<|ae (cd env (Rel.ids<|t.sub.getD 0 za).ht)<|af (jD (Rel.ids<|t.sub.getD 0 za) env) (af (t.op==27) (some<|ak true)<|ae ((0:Int)≤(0:Int)∧(0:Int)<(↑t.sub.length:Int))<|some<|ak<|eh (Rel.ids<|t.sub.getD 0 za)==1)<|some<|ak false) (some<|ak true):=ah
def akN m t env(hm:3*t.ht<m+1)(h:env.length+t.ht≤8000000) i:BI m (.exit 0) (oj t env i)=some (ak (decide (t.sub.length≠1)||(kn t.sub env&&(t.op==27||bQ (t.sub.getD 0 za)==1)))):=by
 rw[akM,z8];by_cases h1:t.sub.length=1
 ·obtain⟨s,hs⟩:∃s,t.sub=[s]:=by
   match hk:t.sub,h1 with
   |[s],_=>simp
  have hht:s.ht<t.ht:=Term.ht_sub (by grind);have hg:t.sub.getD 0 za=s:=by grind
  rw[if_pos (by grind),hg,decide_eq_false (fun e=>e h1),Gk];simp only[Rel.ids_eq];rw[z6 (by omega),z6 (by omega),z6 (show cd env s.ht by grind[cd])];have hr:kn t.sub env=jD s env:=by rw[hs];simp only[kn,Bool.and_true];rfl
  rw[hr,og];cases jD s env
  ·rfl
  ·rw[z8,if_pos rfl,dQ,z8];cases t.op==27
   all_goals simp_all[if_neg,z6,Gk]
 grind
def akO m(t:Term)(env:List Int)(_ht:WS .term t)(_he:WL .int env)(hm:3*t.ht<m+1)(h:cd env t.ht):UL m t env=some (ak<|lm t env):=by
 have hk:WL .term t.kids:=_ht.term_kids
 have lp:=dU (L:=GY m) (st:=fun i=>oj t env i) (C:=BI m) (e:=.exit 0) (fun b=>some<|ak<|b&&(decide (t.sub.length≠1)||(kn t.sub env&&(t.op==27||bQ (t.sub.getD 0 za)==1)))) (d:=zb) (fun k=>lm k env) hk.len
  (fun i x hi hx hmem=>by
   have hht:=Term.ht_kid hmem;rw[UM];simp only[z8,hi,decide_true,if_true,and_true,y5,hx,Term.ids_eq]
   grind[z6,cd,lm])
  (by rw[UM];simp[z8]) (fun i=>by rw[akL,js]) (fun i=>by rw[akN m t env hm h,dQ])
 have e:lm t env=(rR t env&&(t.kids.all (fun k=>lm k env)&&(decide (t.sub.length≠1)||(kn t.sub env&&(t.op==27||bQ (t.sub.getD 0 za)==1))))):=by
  show km t env=_;rw[UI,vS,Gl];rfl
 rw[akK,e];simp only[Term.ids_eq];unfold rR;generalize mD t=o;cases o.2.2
 ·rfl
 simp only[z8,decide_eq_true_eq,vr,dQ];grind
abbrev vT(m:Nat):Prop:=aj 18 (GX m)∧aj 114 (Ef m)∧aj 115 (Mi m)∧aj 66 (Mj m)∧aj 33 (Eg m)
def akP(m:Nat)(hG:vT m):aj 18 (GX<|m+1):=aJ zo zi (M:=(Eh m)) rfl ⟨aj7,aka,akd,hG.1,hG.2.2.2.2,BH,trivial⟩ Tryz.func18 fun t env=>GiF.r fun w o=>akO m t env (am w 0) (am w 1) (aA o 0)<|aA o 1
def Ei(m:Nat):Mc Un:=az [(18,GX m)] [] [] [] []
def uH:Nat→NS:=aO [(2,{ts:=bl 19 51,bs:=bl 19 0,nm:=[],cs:=true})] true
def p9(l:List Term)(env:List Int)(v0:Int):S Un:=(st 19 19 76 0 [(0,al .term l),(1,al .int env),(4,ab false),(5,ai v0)] [] [])
def Ej(m:Nat):S Un→Option (EX Un):=aC (Ei m) uH Tryz.f114 [1,0,1,2,2] 2
def Ml(m:Nat):Exit→S Un→Option (RF Un):=aE (Ei m) uH Tryz.f114 [1,0,1,2] [.d]
def UN(m:Nat)(l:List Term)(env:List Int):Option (RF Un):=aw (Ei m) uH Tryz.f114 0 [.d] [.d<|.v<|.dat (U:=Un) Ty.term l,.d<|.v<|.dat (U:=Un) Ty.int env]
def akQ(m l env):UN m l env=(Ej m<|p9 l env (0:Int)).bind (zd<|Ml m):=ah
def UO(m l env v0):Ej m (p9 l env v0)=af (decide<|v0<(↑l.length:Int)) (ae (0≤v0∧v0<(↑l.length:Int))<|ae ((3:Nat)*(Term.ids<|l.getD v0.toNat zb).ht<m)<|ae (cd env (Term.ids<|l.getD v0.toNat zb).ht)<|af (!lm (Term.ids<|l.getD v0.toNat zb) env) (some (.ret,(p9 l env v0)))<|Ej m<|p9 l env<|IntKind.i64.wrap<|v0+1) (some (.exit 0,(p9 l env v0))):=aF
def akR(m l env v0):Ml m .ret (p9 l env v0)=some (ak false):=ah
def akS(m l env v0):Ml m (.exit 0) (p9 l env v0)=some (ak true):=ah
def akT m(l:List Term)(env:List Int)(hl:WL .term l)(_he:WL .int env)(hm:3*aY l+1<m+1)(h:cd env (aY l)):UN m l env=some (ak<|ln l env):=by
 have e:ln l env=l.all fun t=>lm t env:=vS l env;rw[akQ,e]
 exact dU (L:=Ej m) (st:=fun i=>p9 l env i) (fun b=>some<|ak b) (d:=zb) (fun t=>lm t env) hl.len
  (fun i x hi hx hmem=>by
   have hht:=jy hmem;rw[UO];simp only[z8,hi,decide_true,if_true,and_true,y5,hx,Term.ids_eq]
   grind[z6,cd,lm])
  (by rw[UO];simp[z8]) (fun i=>akR _ _ _ _) (fun i=>akS _ _ _ _)
def akU(m:Nat)(hG:vT m):aj 114 (Ef<|m+1):=aJ zi zi (M:=(Ei m)) rfl ⟨hG.1,trivial⟩ Tryz.func114 fun l env=>GiF.r fun w o=>akT m l env (am w 0) (am w 1) (aA o 0)<|aA o 1
def Ek(m:Nat):Mc Un:=az [(114,Ef m)] [] [] [] []
def Mm:Nat→NS:=aO [(2,{ts:=bl 61 51,bs:=bl 61 0,nm:=[],cs:=true})] true
def iV(l:List Agg)(env:List Int)(v0:Int):S Un:=(st 61 61 244 0 [(0,al .agg l),(1,al .int env),(4,ab false),(5,ai v0)] [] [])
def BJ(m:Nat):S Un→Option (EX Un):=aC (Ek m) Mm Tryz.f115 [1,0,1,2,2] 2
def Mn(m:Nat):Exit→S Un→Option (RF Un):=aE (Ek m) Mm Tryz.f115 [1,0,1,2] [.d]
def UP(m:Nat)(l:List Agg)(env:List Int):Option (RF Un):=aw (Ek m) Mm Tryz.f115 0 [.d] [.d<|.v<|.dat (U:=Un) Ty.agg l,.d<|.v<|.dat (U:=Un) Ty.int env]
def akV(m l env):UP m l env=(BJ m<|iV l env (0:Int)).bind (zd<|Mn m):=ah
def GZ(m:Nat)(l:List Agg)(env:List Int)(v0:Int):Option (EX Un):=ae ((3:Nat)*aY (Agg.t<|l.getD v0.toNat zr)+(1:Nat)<m)<|ae (cd env<|aY<|Agg.t<|l.getD v0.toNat zr)<|af (!ln (Agg.t<|l.getD v0.toNat zr) env) (some (.ret,(iV l env v0)))<|BJ m<|iV l env<|IntKind.i64.wrap<|v0+1
def BL(m:Nat)(l:List Agg)(env:List Int)(v0:Int):Option (EX Un):=af (decide<|(↑(Agg.t<|l.getD v0.toNat zr).length:Int)>(1:Int)) (some (.ret,(iV l env v0)))<|af ((↑(Agg.t<|l.getD v0.toNat zr).length:Int)==(0:Int)) (af (!(Agg.name<|l.getD v0.toNat zr).toList ==(ByteArray.mk #[99,111,117,110,116]).toList) (some (.ret,(iV l env v0)))<|af (Agg.distinct<|l.getD v0.toNat zr) (some (.ret,(iV l env v0)))<|GZ m l env v0)<|GZ m l env v0
def UQ(m l env v0):BJ m (iV l env v0)=af (decide<|v0<(↑l.length:Int)) (ae (0≤v0∧v0<(↑l.length:Int))<|af (!(Agg.name<|l.getD v0.toNat zr).toList ==(ByteArray.mk #[99,111,117,110,116]).toList) (af (!(Agg.name<|l.getD v0.toNat zr).toList ==(ByteArray.mk #[115,117,109]).toList) (af (!(Agg.name<|l.getD v0.toNat zr).toList ==(ByteArray.mk #[109,105,110]).toList) (af (!(Agg.name<|l.getD v0.toNat zr).toList ==(ByteArray.mk #[109,97,120]).toList) (some (.ret,(iV l env v0)))<|BL m l env v0)<|BL m l env v0)<|BL m l env v0)<|BL m l env v0) (some (.exit 0,(iV l env v0))):=aF
def akW(m l env v0):Mn m .ret (iV l env v0)=some (ak false):=ah
def akX(m l env v0):Mn m (.exit 0) (iV l env v0)=some (ak true):=ah
def akY m(l:List Agg)(env:List Int)(hl:WL .agg l)(_he:WL .int env)(hm:3*fx l<m+1)(h:cd env (fx l)):UP m l env=some (ak (Ee l env)):=by
 have e:Ee l env=l.all fun t=>uF t env:=Mg l env;rw[akV,e]
 exact dU (L:=BJ m) (st:=fun i=>iV l env i) (fun b=>some (ak b)) (d:=zr) (fun t=>uF t env) hl.len
  (fun i x hi hx hmem=>by
   have hht:=D4 hmem;have hax:x.ht=aY x.t+1:=by cases x;rfl
   have key:GZ m l env (i:Int)=if ln x.t env=true then BJ m (iV l env (IntKind.i64.wrap ((i:Int)+1)))else some (.ret,iV l env (i:Int)):=by
    unfold GZ;grind[Int.toNat_natCast,z6,cd,aY,z8,ln]
   have e2:uF x env=(Ec x&&ln x.t env):=UJ x env;rw[UQ,e2];unfold BL;simp only[y5,hx,key];unfold Ec;generalize ln x.t env=q;generalize(x.name.toList==(ByteArray.mk #[99,111,117,110,116]).toList)=n1;generalize(x.name.toList==(ByteArray.mk #[115,117,109]).toList)=n2;generalize(x.name.toList==(ByteArray.mk #[109,105,110]).toList)=n3;generalize(x.name.toList==(ByteArray.mk #[109,97,120]).toList)=n4;rw[z8,if_pos (decide_eq_true hi),z6 (by omega)];by_cases c1:x.t.length≤1
   ·have d1:decide ((x.t.length:Int)>1)=false:=decide_eq_false (by omega);rw[d1,decide_eq_true c1];by_cases c0:x.t.length=0
    ·have d0:((x.t.length:Int)==0)=true:=by grind
     rw[d0,decide_eq_false (fun e=>e c0)];cases n1<;>cases n2<;>cases n3<;>cases n4<;>cases x.distinct<;>cases q<;>rfl
    ·have d0:((x.t.length:Int)==0)=false:=by grind
     rw[d0,decide_eq_true c0];cases n1<;>cases n2<;>cases n3<;>cases n4<;>cases q<;>rfl
   ·have d1:decide ((x.t.length:Int)>1)=true:=decide_eq_true (by omega);rw[d1,decide_eq_false c1]
    cases n1<;>cases n2<;>cases n3<;>cases n4<;>rfl)
  (by rw[UQ];simp[z8]) (fun i=>akW _ _ _ _) (fun i=>akX _ _ _ _)
def akZ(m:Nat)(hG:vT m):aj 115 (Mi<|m+1):=aJ zi zi (M:=(Ek m)) rfl ⟨hG.2.1,trivial⟩ Tryz.func115 fun l env=>GiF.r fun w o=>akY m l env (am w 0) (am w 1) (aA o 0)<|aA o 1
def UR(m:Nat):Mc Un:=az [(112,Uw),(113,UD),(114,Ef m),(115,Mi m),(19,sS),(116,UG)] [] [] [] []
def US(m:Nat)(r:Rel)(env:List Int):Option (RF Un):=aw (UR m) aV Tryz.f66 0 [.d] [.d<|.agg<|enc Ty.rel r,.d<|.v<|.dat (U:=Un) Ty.int env]
def BM(m:Nat)(r:Rel)(env:List Int):Option (RF Un):=ae ((3:Nat)*aY r.terms+(1:Nat)<m)<|ae (cd (iS (Rel.ids r) env)<|aY r.terms)<|some<|ak<|ln r.terms<|iS (Rel.ids r) env
def Mo(m:Nat)(r:Rel)(env:List Int):Option (RF Un):=af ((↑r.terms.length:Int)==(1:Int)) (BM m r env)<|some<|ak false
def G0(r:Rel):Option (RF Un):=ae ((0:Int)≤(0:Int)∧(0:Int)<(↑r.kids.length:Int))<|ae ((0:Int)≤(1:Int)∧(1:Int)<(↑r.kids.length:Int))<|some<|ak<|eh (Rel.ids<|r.kids.getD 0 za)==eh (Rel.ids<|r.kids.getD 1 za)
def ak0(m r env):US m r env=ae (cd env (1:Nat)) (af (r.op==1) (some<|ak<|!r.table.toList==(ByteArray.mk #[]).toList)<|af (r.op==2) (some<|ak<|vQ r.rows (↑r.cols.length:Int))<|af (r.op==3) (Mo m r env)<|af (r.op==6) (Mo m r env)<|af (r.op==4) (BM m r env)<|af (r.op==5) (af (decide<|(↑r.terms.length:Int)≤(1:Int)) (BM m r env)<|some<|ak false)<|af (r.op==7) (ae ((3:Nat)*aY r.terms+(1:Nat)<m)<|ae (cd (iS (Rel.ids r) env)<|aY r.terms)<|af (ln r.terms<|iS (Rel.ids r) env) (ae ((3:Nat)*fx r.aggs<m)<|ae (cd (iS (Rel.ids r) env)<|fx r.aggs)<|some<|ak<|Ee r.aggs<|iS (Rel.ids r) env)<|some<|ak false)<|af (r.op==9) (G0 r)<|af (r.op==10) (G0 r)<|af (r.op==11) (G0 r)<|af (r.op==12) (some<|ak<|zW r.keys<|eh<|Rel.ids r)<|af (r.op==13) (af (decide<|r.limit≥(-1:Int)) (af (decide<|r.limit≤1000000000000000) (af (decide<|r.skip≥0) (some<|ak<|decide<|r.skip≤1000000000000000)<|some<|ak false)<|some<|ak false)<|some<|ak false)<|some<|ak true):=ah
def ak1 m(r:Rel)(env:List Int)(_hr:WS .rel r)(_he:WL .int env)(hm:3*r.ht+1<m+1)(h:cd env r.ht)(hk:zY r):US m r env=some (ak<|Mh r env):=by
 have hh:aY r.terms+1≤r.ht∧fx r.aggs+1≤r.ht:=by cases r;grind[Rel.ht,Rel.terms_mk,Rel.aggs_mk]
 have o1:cd env 1:=by grind[cd]
 have o2:cd (iS r env) (aY r.terms):=by grind[cd,iS,List.length_cons]
 have o3:cd (iS r env) (fx r.aggs):=by grind[cd,iS,List.length_cons]
 have t1:BM m r env=some (ak<|fk r.terms<|fg r::env):=by
  unfold BM;simp only[Rel.ids_eq];rw[z6<|by omega,z6 o2];rfl
 rw[ak0,z6 o1];unfold Mo G0;simp only[zV,Rel.ids_eq,og];simp only[z8,iF,beq_iff_eq,decide_eq_true_eq];show _=some (ak<|jC r env);unfold jC;by_cases h1:r.op=1
 ·grind
 rw[if_neg h1,if_neg h1];by_cases h2:r.op=2
 ·grind
 rw[if_neg h2,if_neg h2];by_cases h3:r.op=3∨r.op=6
 ·by_cases hl:r.terms.length=1
  all_goals grind
 rw[if_neg<|by omega,if_neg h3];by_cases h4:r.op=4
 ·grind
 rw[if_neg h4,if_neg h4];by_cases h5:r.op=5
 ·grind
 rw[if_neg h5,if_neg h5];by_cases h7:r.op=7
 ·rw[if_pos h7,if_pos h7,z6<|by omega,z6 o2];have e:ln r.terms (iS r env)=fk r.terms (fg r::env):=rfl;rw[e];cases fk r.terms (fg r::env)
  ·rfl
  ·rw[if_pos rfl,z6<|by omega,z6 o3];rfl
 rw[if_neg h7,if_neg h7];by_cases h9:r.op=9∨r.op=10∨r.op=11
 ·have:=hk h9;rw[if_pos<|by omega,if_pos h9,z6<|by omega,z6<|by omega]
 grind
def ak2(m:Nat)(hG:vT m):aj 66 (Mj<|m+1):=aJ zo zi (M:=(UR m)) rfl ⟨akg,akp,hG.2.1,hG.2.2.1,BH,aku,trivial⟩ Tryz.func66 fun r env=>GiF.r fun w o=>ak1 m r env (am w 0) (am w 1) (aA o 0) (aA o 1)<|aA o 2
def El(m:Nat):Mc Un:=az [(59,L3),(65,UH),(33,Eg m),(19,sS),(66,Mj m)] [] [] [] []
def Mp:Nat→NS:=aO [(4,{ts:=bl 49 54,bs:=bl 49 4,nm:=[],cs:=true})] true
def ol(r:Rel)(env:List Int)(v0:Int):S Un:=(st 49 49 196 0 [(1,al .int env),(2,ax 2),(4,ab false),(5,ai v0)] [(2,bg .rel r)] [])
def Em(m:Nat):S Un→Option (EX Un):=aC (El m) Mp Tryz.f33 [1,1,0,1,2,2] 4
def BO(m:Nat):Exit→S Un→Option (RF Un):=aE (El m) Mp Tryz.f33 [1,1,0,1,2] [.d]
def UT(m:Nat)(r:Rel)(env:List Int):Option (RF Un):=aw (El m) Mp Tryz.f33 0 [.d] [.d<|.agg<|enc Ty.rel r,.d<|.v<|.dat (U:=Un) Ty.int env]
def ak3(m r env):UT m r env=af (decide<|p7 r.op<0) (some<|ak false) (af ((↑r.kids.length:Int) !=p7 r.op) (some<|ak false)<|ae (uE<|Rel.ids r)<|af (fh<|Rel.ids r) (some<|ak false)<|(Em m<|ol r env (0:Int)).bind<|zd<|BO m):=ah
def UU(m r env v0):Em m (ol r env v0)=af (decide<|v0<(↑r.kids.length:Int)) (ae (0≤v0∧v0<(↑r.kids.length:Int))<|ae ((3:Nat)*(Rel.ids<|r.kids.getD v0.toNat za).ht+(2:Nat)<m)<|ae (cd env (Rel.ids<|r.kids.getD v0.toNat za).ht)<|af (!jD (Rel.ids<|r.kids.getD v0.toNat za) env) (some (.ret,(ol r env v0)))<|Em m<|ol r env<|IntKind.i64.wrap<|v0+1) (some (.exit 0,(ol r env v0))):=aF
def ak4(m r env v0):BO m .ret (ol r env v0)=some (ak false):=ah
def ak5(m r env v0):BO m (.exit 0) (ol r env v0)=af ((↑r.cols.length:Int)==eh (Rel.ids r)) (ae ((3:Nat)*(Rel.ids r).ht+(1:Nat)<m)<|ae (cd env (Rel.ids r).ht)<|ae (zY<|Rel.ids r)<|some<|ak<|Mh (Rel.ids r) env) (some<|ak false):=ah
theorem ak6 m r env(hm:3*r.ht+2<m+1)(h:cd env r.ht)(hk:zY r) i:BO m (.exit 0) (ol r env i)=some (ak<|decide ((r.cols.length:Int)=bQ r)&&jC r env):=by
 rw[ak5,z8];simp only[Rel.ids_eq,og];by_cases h1:(r.cols.length:Int)=bQ r
 ·rw[if_pos<|by grind,z6<|by omega,z6 h,z6 hk,decide_eq_true h1,dQ];rfl
 grind
def ak7 m(r:Rel)(env:List Int)(_hr:WS .rel r)(_he:WL .int env)(hm:3*r.ht+2<m+1)(h:cd env r.ht):UT m r env=some (ak<|jD r env):=by
 have hkl:WL .rel r.kids:=_hr.rel_kids;have e:jD r env=(zX r&&(r.kids.all (fun k=>jD k env)&&(decide ((r.cols.length:Int)=bQ r)&&jC r env))):=by
  show ll r env=_;rw[UK,Ed,Gl,Gl];rfl
 rw[ak3,e];simp only[Rel.ids_eq,z8,decide_eq_true_eq,Ud];unfold zX;by_cases c1:bD r.op<0
 ·grind
 by_cases c2:(r.kids.length:Int)=bD r.op
 ·have hok:zY r:=fun h9=>by
   have:bD r.op=2:=by
    rcases h9 with h9|h9|h9<;>rw[h9]<;>rfl
   omega
  have lp:=dU (L:=Em m) (st:=fun i=>ol r env i) (C:=BO m) (e:=.exit 0) (fun b=>some<|ak<|b&&(decide ((r.cols.length:Int)=bQ r)&&jC r env)) (d:=za) (fun k=>jD k env) hkl.len
   (fun i x hi hx hmem=>by
    have hht:=Rel.ht_kid hmem;rw[UU];simp only[z8,hi,decide_true,if_true,and_true,y5,hx,Rel.ids_eq]
    grind[z6,cd,jD])
   (by rw[UU];simp[z8]) (fun i=>by rw[ak4,js]) (fun i=>by simp_all[ak6,dQ])
  rw[if_neg<|by grind,decide_eq_true c2,z6<|show uE r by grind[uE],lp];grind
 grind
def ak8(m:Nat)(hG:vT m):aj 33 (Eg<|m+1):=aJ zo zi (M:=(El m)) rfl ⟨Ue,akJ,hG.2.2.2.2,BH,hG.2.2.2.1,trivial⟩ Tryz.func33 fun r env=>GiF.r fun w o=>ak7 m r env (am w 0) (am w 1) (aA o 0)<|aA o 1
def vU:∀m,vT m
 |0=>⟨ew,ew,ew,ew,ew⟩
 |m+1=>⟨akP m<|vU m,akU m<|vU m,akZ m<|vU m,ak2 m<|vU m,ak8 m<|vU m⟩
def UV:au Un:=aD (dS .rel) (dL .int) fun r env=>([cd env r.ht],ak<|jD r env)
def ak9:aj 33 UV:=rP fun m=>(vU m).2.2.2.2
def Qr(r:List Term):RF Un:=([.c<|.sl (U:=Un) Ty.term r false],[])
def Qs:Nat→NS:=aO [(3,{ts:=bl 25 26,bs:=bl 25 2,nm:=[(.sl 3,100)],cs:=true})] true
def vV(r:Rel)(v0:Int)(v1:List Term):S Un:=(st 25 25 101 0 [(1,ax 1),(3,ao 100),(4,ai v0)] [(1,bg .rel r)] [(100,some ⟨(0:Nat),Ty.term,v1,some (0:Nat),true⟩)])
def G1:S Un→Option (EX Un):=aC av Qs Tryz.f75 [1,1,0,1,2,2] 3
def UW:Exit→S Un→Option (RF Un):=aE av Qs Tryz.f75 [1,1,0,1,2] [.d]
def UX(r:Rel):Option (RF Un):=aw av Qs Tryz.f75 1 [.d] [.d<|.agg<|enc Ty.rel r]
def ala(r):UX r=ae ((0+r.terms.length)*(128:Nat)≤ze) ((G1<|vV r (0:Int) r.terms).bind<|zd UW):=ah
def UY(r v0 v1):G1 (vV r v0 v1)=af (decide<|v0<(↑r.aggs.length:Int)) (ae (0≤v0∧v0<(↑r.aggs.length:Int))<|ae ((v1.length+(Agg.t<|r.aggs.getD v0.toNat zr).length)*(128:Nat)≤ze)<|G1<|vV r (IntKind.i64.wrap<|v0+1)<|v1++Agg.t (r.aggs.getD v0.toNat zr)) (some (.exit 0,(vV r v0 v1))):=aF
def alb(r v0 v1):UW (.exit 0) (vV r v0 v1)=some (Qr v1):=ah
def ei:List Agg→List Term
 |[]=>[]
 |a::l=>a.t++ei l
def UZ:∀(l:List Agg)(n:List Term),l.foldl (fun n a=>n++a.t) n=n++ei l
 |[],n=>by simp[ei]
 |a::l,n=>by rw[yq,UZ l,ei,yw]
def Mq:∀l:List Agg,ez (ei l)≤gI l
 |[]=>y7 _
 |a::l=>by
  have:=Mq l;have h:=a.sz_eq;grind[ei,LS,gI]
def U0:∀l:List Agg,aY (ei l)≤fx l
 |[]=>y7 _
 | .mk n d t::l=>by
  have:=U0 l;have h:∀a b:List Term,aY (a++b)=max (aY a) (aY b):=fun a b=>by
   induction a with
   |nil=>rfl
   |cons x a ih=>simp_all[eT,aY]
  grind[ei,fx,Agg.ht,Agg.t_mk]
def cw(r:Rel):List Term:=r.terms++ei r.aggs
def G2 r:(cw r).length≤r.sz:=by
 have h:=fG<|cw r;have h2:=Mq r.aggs;have h3:=r.sz_eq;grind[cw,LS]
def qa{r t}(h:t∈cw r):t.ht<r.ht∧t.sz<r.sz:=by
 have h2:=Mq r.aggs;have h3:=r.sz_eq;have h4:=U0 r.aggs;have h5:aY r.terms<r.ht∧fx r.aggs<r.ht:=by cases r;grind[Rel.ht,Rel.terms_mk,Rel.aggs_mk]
 rcases ye.1 h with h|h
 ·exact⟨by have:=jy h;omega,by have:=p4 h;omega⟩
 ·exact⟨by have:=jy h;omega,by have:=p4 h;omega⟩
def alc(r:Rel)(hr:WS .rel r)(h:r.sz≤2000000):UX r=some (Qr (cw r)):=by
 have h3:=r.sz_eq;have hl:=fG r.terms
 obtain⟨lp,_⟩:=zy (e:=.exit 0) (L:=G1) (st:=fun(n:List Term) i=>vV r i n) (l:=r.aggs) (d:=zr) (g:=fun n a=>n++a.t) (fun i n=>n.length+gI (r.aggs.drop i)≤2000000) (hr.rel_aggs).len
  (fun n i a hi ha hI=>by
   have hd:=vK (d:=zr) (show i<r.aggs.length by omega);rw[hd,ha]at hI;simp only[gI]at hI;have h1:=a.sz_eq;have h2:=fG a.t;rw[UY];simp only[z8,hi,decide_true,if_true,and_true,y5,ha]
   grind[z6,ze])
  (fun n _=>by rw[UY];simp[z8]) r.terms (by grind)
 rw[UZ]at lp;rw[ala,z6 (by grind[ze])];refine(zf lp).trans ?_;rw[alb];rfl
def Qt:au Un:=aQ (dS .rel) fun r=>([r.sz≤2000000],Qr<|cw r)
def U1:aj 75 Qt:=aU zo (M:=av) rfl trivial Tryz.func75 fun r=>GiF.r fun w o=>alc r (am w 0)<|aA o 0
def eY(n x:Int):Int:=List.foldl (fun a b=>if b<a then b else a) (IntKind.i64.wrap<|n+x) [(1048576:Int)]
def dh(n x:Int):Int:=List.foldl (fun a b=>if a<b then b else a) n [x]
mutual
def om:Term→Int
 | .mk op _ _ _ _ kids sub _=>qb (mE (if op=2 then 1 else 0) kids) sub
def mE:Int→List Term→Int
 |n,[]=>n
 |n,t::l=>mE (eY n<|om t) l
def U2:Int→Agg→Int
 |n,.mk _ _ t=>mE n t
def Eo:Int→List Agg→Int
 |n,[]=>n
 |n,a::l=>Eo (U2 n a) l
def uI:Rel→Int
 | .mk _ _ _ kids terms aggs _ _ _ _ _=>Eo (mE (qb 0 kids) terms) aggs
def qb:Int→List Rel→Int
 |n,[]=>n
 |n,r::l=>qb (eY n<|uI r) l
end
def oo:∀(l:List Term)(n:Int),l.foldl (fun n t=>eY n<|om t) n=mE n l
 |[],n=>by rfl
 |t::l,n=>by rw[yq,oo l,mE]
def Qu:∀(l:List Rel)(n:Int),l.foldl (fun n t=>eY n<|uI t) n=qb n l
 |[],n=>by rfl
 |t::l,n=>by rw[yq,Qu l,qb]
def U3:∀(l:List Agg)(n:Int),mE n (ei l)=Eo n l
 |[],n=>by rfl
 | .mk a b t::l,n=>by
  rw[ei,Eo,←U3 l,←oo,nP,oo,oo,U2,Agg.t_mk]
theorem ald t:om t=qb (mE (if t.op=2 then 1 else 0) t.kids) t.sub:=by cases t;rfl
theorem ale r:uI r=mE (qb 0 r.kids) (cw r):=by
 unfold cw;rw[←oo,nP,oo,oo,U3];cases r;rfl
def sX(t:Term):Int:=om t
def BP(r:Rel):Int:=uI r
def oq{t k:Term}(h:k∈t.kids):k.sz<t.sz:=by have:=p4 h;have:=t.sz_eq;omega
def ot{t:Term}{k}(h:k∈t.sub):k.sz<t.sz:=by have:=LR h;have:=t.sz_eq;omega
def hU{t k:Rel}(h:k∈t.kids):k.sz<t.sz:=by have:=LR h;have:=t.sz_eq;omega
def G3(m:Nat):au Un:=aQ (dS .term) fun t=>bB (2*t.ht) m ([t.sz≤2000000],ay<|sX t)
def G4(m:Nat):au Un:=aQ (dS .rel) fun r=>bB (2*r.ht+1) m ([r.sz≤2000000],ay<|BP r)
def vW(m:Nat):Mc Un:=az [(76,G3 m),(133,G4 m)] [] [] [] []
def BQ:Nat→NS:=aO [(5,{ts:=bl 42 26,bs:=bl 42 2,nm:=[],cs:=true}),(9,{ts:=bl 42 42,bs:=bl 42 2,nm:=[],cs:=true})] true
def qc(t:Term)(v0:Int)(v1:Int):S Un:=(st 42 42 168 0 [(1,ax 1),(3,ai v0),(4,ai v1)] [(1,bg .term t)] [])
def vX(t:Term)(v0:Int)(v2:Int):S Un:=(st 42 42 168 0 [(1,ax 1),(3,ai v0),(5,ai v2)] [(1,bg .term t)] [])
def vY(m:Nat):S Un→Option (EX Un):=aC (vW m) BQ Tryz.f76 [1,1,1,0,1,2,2] 5
def G5(m:Nat):S Un→Option (EX Un):=aC (vW m) BQ Tryz.f76 [1,1,1,1,0,1,2,2] 9
def G6(m:Nat):Exit→S Un→Option (RF Un):=aE (vW m) BQ Tryz.f76 [1,1,1,0,1,2] [.d]
def U4(m:Nat):Exit→S Un→Option (RF Un):=aE (vW m) BQ Tryz.f76 [1,1,1,1,0,1,2] [.d]
def Mr(m:Nat)(t:Term):Option (RF Un):=aw (vW m) BQ Tryz.f76 0 [.d] [.d<|.agg<|enc Ty.term t]
def alf(m t):Mr m t=af (t.op==2) ((vY m<|qc t (1:Int) (0:Int)).bind<|zd<|G6 m) ((vY m<|qc t (0:Int) (0:Int)).bind<|zd<|G6 m):=ah
def U5(m t v0 v1):vY m (qc t v0 v1)=af (decide<|v1<(↑t.kids.length:Int)) (ae (0≤v1∧v1<(↑t.kids.length:Int))<|ae ((2:Nat)*(Term.ids<|t.kids.getD v1.toNat zb).ht<m)<|ae ((Term.ids<|t.kids.getD v1.toNat zb).sz≤(2000000:Nat))<|vY m<|qc t (List.foldl (fun a b=>if b<a then b else a) (IntKind.i64.wrap<|v0+sX (Term.ids<|t.kids.getD v1.toNat zb)) [(1048576:Int)])<|IntKind.i64.wrap<|v1+1) (some (.exit 0,(qc t v0 v1))):=aF
theorem alg(m t v0 v1):G6 m (.exit 0) (qc t v0 v1)=(G5 m<|vX t v0 (0:Int)).bind (zd<|U4 m):=ah
def U6(m t v0 v2):G5 m (vX t v0 v2)=af (decide<|v2<(↑t.sub.length:Int)) (ae (0≤v2∧v2<(↑t.sub.length:Int))<|ae ((2:Nat)*(Rel.ids<|t.sub.getD v2.toNat za).ht+(1:Nat)<m)<|ae ((Rel.ids<|t.sub.getD v2.toNat za).sz≤(2000000:Nat))<|G5 m<|vX t (List.foldl (fun a b=>if b<a then b else a) (IntKind.i64.wrap<|v0+BP (Rel.ids<|t.sub.getD v2.toNat za)) [(1048576:Int)])<|IntKind.i64.wrap<|v2+1) (some (.exit 2,(vX t v0 v2))):=aF
theorem alh(m t v0 v2):U4 m (.exit 2) (vX t v0 v2)=some (ay v0):=ah
def ali m(t:Term)(ht:WS .term t)(hm:2*t.ht<m+1)(h:t.sz≤2000000):Mr m t=some (ay<|sX t):=by
 obtain⟨lp,_⟩:=zy (e:=.exit 0) (L:=vY m) (st:=fun(n:Int) i=>qc t n i) (l:=t.kids) (d:=zb) (g:=fun n k=>eY n<|om k) (fun _ _=>True) (ht.term_kids).len
  (fun n i k hi hk _=>by
   have hmem:k∈t.kids:=by grind
   have h1:=Term.ht_kid hmem;have h2:=oq hmem;refine⟨trivial,?_⟩;rw[U5];simp only[z8,hi,decide_true,if_true,and_true,y5,hk,Term.ids_eq];rw[z6<|by omega,z6<|by omega,z6<|by omega]
   rfl)
  (fun n _=>by rw[U5];simp[z8]) (if t.op=2 then 1 else 0) trivial
 rw[oo]at lp
 obtain⟨lq,_⟩:=zy (e:=.exit 2) (L:=G5 m) (st:=fun(n:Int) i=>vX t n i) (l:=t.sub) (d:=za) (g:=fun n k=>eY n<|uI k) (fun _ _=>True) (ht.term_sub).len
  (fun n i k hi hk _=>by
   have hmem:k∈t.sub:=by grind
   have h1:=Term.ht_sub hmem;have h2:=ot hmem;refine⟨trivial,?_⟩;rw[U6];simp only[z8,hi,decide_true,if_true,and_true,y5,hk,Rel.ids_eq];rw[z6<|by omega,z6<|by omega,z6<|by omega]
   rfl)
  (fun n _=>by rw[U6];simp[z8]) (mE (if t.op=2 then 1 else 0) t.kids) trivial
 rw[Qu]at lq;have e:Mr m t=(vY m<|qc t (if t.op=2 then 1 else 0) (0:Int)).bind (zd<|G6 m):=by
  rw[alf,z8];grind
 grind[zf,trans,alg,alh,sX,ald]
abbrev Ms(m:Nat):Prop:=aj 76 (G3 m)∧aj 133 (G4 m)
def alj(m:Nat)(hG:Ms m):aj 76 (G3<|m+1):=aU zo (M:=(vW m)) rfl ⟨hG.1,hG.2,trivial⟩ Tryz.func76 fun t=>GiF.r fun w o=>ali m t (am w 0) (aA o 0)<|aA o 1
def vZ(m:Nat):Mc Un:=az [(133,G4 m),(75,Qt),(76,G3 m)] [] [] [] []
def BR:Nat→NS:=aO [(3,{ts:=bl 40 26,bs:=bl 40 2,nm:=[],cs:=true}),(8,{ts:=bl 40 104,bs:=bl 40 0,nm:=[],cs:=true})] true
def wc(r:Rel)(v0:Int)(v1:Int):S Un:=(st 40 40 160 0 [(1,ax 1),(3,ai v0),(4,ai v1)] [(1,bg .rel r)] [])
def wg(r:Rel)(v0:Int)(v2:Int):S Un:=(st 40 40 160 0 [(3,ai v0),(5,al .term<|cw<|Rel.ids r),(6,ai v2)] [] [])
def G7(m:Nat):S Un→Option (EX Un):=aC (vZ m) BR Tryz.f133 [1,1,0,1,2,2] 3
def G8(m:Nat):S Un→Option (EX Un):=aC (vZ m) BR Tryz.f133 [1,1,1,1,0,1,2,2] 8
def U7(m:Nat):Exit→S Un→Option (RF Un):=aE (vZ m) BR Tryz.f133 [1,1,0,1,2] [.d]
def U8(m:Nat):Exit→S Un→Option (RF Un):=aE (vZ m) BR Tryz.f133 [1,1,1,1,0,1,2] [.d]
def U9(m:Nat)(r:Rel):Option (RF Un):=aw (vZ m) BR Tryz.f133 0 [.d] [.d<|.agg<|enc Ty.rel r]
def alk(m r):U9 m r=(G7 m<|wc r (0:Int) (0:Int)).bind (zd<|U7 m):=ah
def Va(m r v0 v1):G7 m (wc r v0 v1)=af (decide<|v1<(↑r.kids.length:Int)) (ae (0≤v1∧v1<(↑r.kids.length:Int))<|ae ((2:Nat)*(Rel.ids<|r.kids.getD v1.toNat za).ht+(1:Nat)<m)<|ae ((Rel.ids<|r.kids.getD v1.toNat za).sz≤(2000000:Nat))<|G7 m<|wc r (List.foldl (fun a b=>if b<a then b else a) (IntKind.i64.wrap<|v0+BP (Rel.ids<|r.kids.getD v1.toNat za)) [(1048576:Int)])<|IntKind.i64.wrap<|v1+1) (some (.exit 0,(wc r v0 v1))):=aF
def alm(m r v0 v1):U7 m (.exit 0) (wc r v0 v1)=ae ((Rel.ids r).sz≤(2000000:Nat)) ((G8 m<|wg r v0 (0:Int)).bind<|zd<|U8 m):=ah
def Vb(m r v0 v2):G8 m (wg r v0 v2)=af (decide<|v2<(↑(cw<|Rel.ids r).length:Int)) (ae (0≤v2∧v2<(↑(cw<|Rel.ids r).length:Int))<|ae ((2:Nat)*(Term.ids<|(cw<|Rel.ids r).getD v2.toNat zb).ht<m)<|ae ((Term.ids<|(cw<|Rel.ids r).getD v2.toNat zb).sz≤(2000000:Nat))<|G8 m<|wg r (List.foldl (fun a b=>if b<a then b else a) (IntKind.i64.wrap<|v0+sX (Term.ids<|(cw<|Rel.ids r).getD v2.toNat zb)) [(1048576:Int)])<|IntKind.i64.wrap<|v2+1) (some (.exit 2,(wg r v0 v2))):=aF
theorem aln(m r v0 v2):U8 m (.exit 2) (wg r v0 v2)=some (ay v0):=ah
def alo m(r:Rel)(hr:WS .rel r)(hm:2*r.ht+1<m+1)(h:r.sz≤2000000):U9 m r=some (ay (BP r)):=by
 obtain⟨lp,_⟩:=zy (e:=.exit 0) (L:=G7 m) (st:=fun(n:Int) i=>wc r n i) (l:=r.kids) (d:=za) (g:=fun n k=>eY n (uI k)) (fun _ _=>True) (hr.rel_kids).len
  (fun n i k hi hk _=>by
   have hmem:k∈r.kids:=by grind
   have h1:=Rel.ht_kid hmem;have h2:=hU hmem;refine⟨trivial,?_⟩;rw[Va];simp only[z8,hi,decide_true,if_true,and_true,y5,hk,Rel.ids_eq];rw[z6 (by omega),z6 (by omega),z6 (by omega)]
   rfl)
  (fun n _=>by rw[Va];simp[z8]) 0 trivial
 rw[Qu]at lp;have hlen:=G2 r
 obtain⟨lq,_⟩:=zy (e:=.exit 2) (L:=G8 m) (st:=fun(n:Int) i=>wg r n i) (l:=cw r) (d:=zb) (g:=fun n k=>eY n (om k)) (fun _ _=>True) (by omega)
  (fun n i k hi hk _=>by
   have hmem:k∈cw r:=by grind
   obtain⟨h1,h2⟩:=qa hmem;refine⟨trivial,?_⟩;rw[Vb];simp only[Rel.ids_eq,z8,hi,decide_true,if_true,and_true,y5,hk,Term.ids_eq];rw[z6 (by omega),z6 (by omega),z6 (by omega)]
   rfl)
  (fun n _=>by rw[Vb];simp[z8,Rel.ids_eq]) (qb 0 r.kids) trivial
 rw[oo]at lq;rw[alk];refine(zf lp).trans ?_;rw[alm,Rel.ids_eq,z6 h];grind[zf,trans,aln,BP,ale]
def alp(m:Nat)(hG:Ms m):aj 133 (G4<|m+1):=aU zo (M:=(vZ m)) rfl ⟨hG.2,U1,hG.1,trivial⟩ Tryz.func133 fun r=>GiF.r fun w o=>alo m r (am w 0) (aA o 0)<|aA o 1
def Mt:∀m,Ms m
 |0=>⟨rO,rO⟩
 |m+1=>⟨alj m<|Mt m,alp m<|Mt m⟩
def Vc:au Un:=aQ (dS .term) fun t=>([t.sz≤2000000],ay<|sX t)
def alq:aj 76 Vc:=D3 fun m=>(Mt m).1
def Mu(n:Int)(l:List Term):Int:=l.foldl (fun n t=>dh n<|om t) n
def Mv(op n most:Int):Int:=if op=4∨op=7 then List.foldl (fun a b=>if b<a then b else a) (IntKind.i64.wrap<|n*List.foldl (fun a b=>if b<a then b else a) most [(1048576:Int)]) [(1048576:Int)]else n
mutual
def rS:Term→Int
 | .mk _ _ _ _ _ kids sub _=>qd (mF 1 kids) sub
def mF:Int→List Term→Int
 |n,[]=>n
 |n,t::l=>mF (dh n<|rS t) l
def Vd:Int→Agg→Int
 |n,.mk _ _ t=>mF n t
def Ep:Int→List Agg→Int
 |n,[]=>n
 |n,a::l=>Ep (Vd n a) l
def uJ:Rel→Int
 | .mk op _ _ kids terms aggs _ _ _ _ _=>Mv op (Ep (mF (qd 1 kids) terms) aggs)<|Mu 1<|terms++ei aggs
def qd:Int→List Rel→Int
 |n,[]=>n
 |n,r::l=>qd (dh n<|uJ r) l
end
def ou:∀(l:List Term)(n:Int),l.foldl (fun n t=>dh n<|rS t) n=mF n l
 |[],n=>by rfl
 |t::l,n=>by rw[yq,ou l,mF]
def Mw:∀(l:List Rel)(n:Int),l.foldl (fun n t=>dh n<|uJ t) n=qd n l
 |[],n=>by rfl
 |t::l,n=>by rw[yq,Mw l,qd]
def Ve:∀(l:List Agg)(n:Int),mF n (ei l)=Ep n l
 |[],n=>by rfl
 | .mk a b t::l,n=>by
  rw[ei,Ep,←Ve l,←ou,nP,ou,ou,Vd,Agg.t_mk]
theorem alr t:rS t=qd (mF 1 t.kids) t.sub:=by cases t;rfl
def als r:uJ r=Mv r.op (mF (qd 1 r.kids)<|cw r) (Mu 1<|cw r):=by
 unfold cw;rw[←ou,nP,ou,ou,Ve];cases r;rfl
def Vf{α:Type} f g:∀(l:List α)(a b:Int),l.foldl (fun(p:Int×Int) x=>(f p.1 x,g p.2 x)) (a,b)=(l.foldl f a,l.foldl g b)
 |[],_,_=>rfl
 |x::l,a,b=>by rw[yq,Vf f g l];rfl
def BS(t:Term):Int:=rS t
def qe(r:Rel):Int:=uJ r
def G9(m:Nat):au Un:=aQ (dS .term) fun t=>bB (2*t.ht) m ([t.sz≤2000000],ay<|BS t)
def Ha(m:Nat):au Un:=aQ (dS .rel) fun r=>bB (2*r.ht+1) m ([r.sz≤2000000],ay<|qe r)
def wh(m:Nat):Mc Un:=az [(77,G9 m),(40,Ha m)] [] [] [] []
def BT:Nat→NS:=aO [(3,{ts:=bl 37 26,bs:=bl 37 2,nm:=[],cs:=true}),(7,{ts:=bl 37 42,bs:=bl 37 2,nm:=[],cs:=true})] true
def wi(t:Term)(v0:Int)(v1:Int):S Un:=(st 37 37 148 0 [(1,ax 1),(3,ai v0),(4,ai v1)] [(1,bg .term t)] [])
def wj(t:Term)(v0:Int)(v2:Int):S Un:=(st 37 37 148 0 [(1,ax 1),(3,ai v0),(5,ai v2)] [(1,bg .term t)] [])
def Hb(m:Nat):S Un→Option (EX Un):=aC (wh m) BT Tryz.f77 [1,1,0,1,2,2] 3
def Hc(m:Nat):S Un→Option (EX Un):=aC (wh m) BT Tryz.f77 [1,1,1,0,1,2,2] 7
def Vg(m:Nat):Exit→S Un→Option (RF Un):=aE (wh m) BT Tryz.f77 [1,1,0,1,2] [.d]
def Vh(m:Nat):Exit→S Un→Option (RF Un):=aE (wh m) BT Tryz.f77 [1,1,1,0,1,2] [.d]
def Vi(m:Nat)(t:Term):Option (RF Un):=aw (wh m) BT Tryz.f77 0 [.d] [.d<|.agg<|enc Ty.term t]
def alt(m t):Vi m t=(Hb m<|wi t (1:Int) (0:Int)).bind (zd<|Vg m):=ah
def Vj(m t v0 v1):Hb m (wi t v0 v1)=af (decide<|v1<(↑t.kids.length:Int)) (ae (0≤v1∧v1<(↑t.kids.length:Int))<|ae ((2:Nat)*(Term.ids<|t.kids.getD v1.toNat zb).ht<m)<|ae ((Term.ids<|t.kids.getD v1.toNat zb).sz≤(2000000:Nat))<|Hb m<|wi t (List.foldl (fun a b=>if a<b then b else a) v0 [BS<|Term.ids<|t.kids.getD v1.toNat zb])<|IntKind.i64.wrap<|v1+1) (some (.exit 0,(wi t v0 v1))):=aF
theorem alu(m t v0 v1):Vg m (.exit 0) (wi t v0 v1)=(Hc m<|wj t v0 (0:Int)).bind (zd<|Vh m):=ah
def Vk(m t v0 v2):Hc m (wj t v0 v2)=af (decide<|v2<(↑t.sub.length:Int)) (ae (0≤v2∧v2<(↑t.sub.length:Int))<|ae ((2:Nat)*(Rel.ids<|t.sub.getD v2.toNat za).ht+(1:Nat)<m)<|ae ((Rel.ids<|t.sub.getD v2.toNat za).sz≤(2000000:Nat))<|Hc m<|wj t (List.foldl (fun a b=>if a<b then b else a) v0 [qe<|Rel.ids<|t.sub.getD v2.toNat za])<|IntKind.i64.wrap<|v2+1) (some (.exit 2,(wj t v0 v2))):=aF
theorem alv(m t v0 v2):Vh m (.exit 2) (wj t v0 v2)=some (ay v0):=ah
def alw m(t:Term)(ht:WS .term t)(hm:2*t.ht<m+1)(h:t.sz≤2000000):Vi m t=some (ay<|BS t):=by
 obtain⟨lp,_⟩:=zy (e:=.exit 0) (L:=Hb m) (st:=fun(n:Int) i=>wi t n i) (l:=t.kids) (d:=zb) (g:=fun n k=>dh n<|rS k) (fun _ _=>True) (ht.term_kids).len
  (fun n i k hi hk _=>by
   have hmem:k∈t.kids:=by grind
   have h1:=Term.ht_kid hmem;have h2:=oq hmem;refine⟨trivial,?_⟩;rw[Vj];simp only[z8,hi,decide_true,if_true,and_true,y5,hk,Term.ids_eq];rw[z6<|by omega,z6<|by omega,z6<|by omega]
   rfl)
  (fun n _=>by rw[Vj];simp[z8]) 1 trivial
 rw[ou]at lp
 obtain⟨lq,_⟩:=zy (e:=.exit 2) (L:=Hc m) (st:=fun(n:Int) i=>wj t n i) (l:=t.sub) (d:=za) (g:=fun n k=>dh n<|uJ k) (fun _ _=>True) (ht.term_sub).len
  (fun n i k hi hk _=>by
   have hmem:k∈t.sub:=by grind
   have h1:=Term.ht_sub hmem;have h2:=ot hmem;refine⟨trivial,?_⟩;rw[Vk];simp only[z8,hi,decide_true,if_true,and_true,y5,hk,Rel.ids_eq];rw[z6<|by omega,z6<|by omega,z6<|by omega]
   rfl)
  (fun n _=>by rw[Vk];simp[z8]) (mF 1 t.kids) trivial
 rw[Mw]at lq;rw[alt];grind[zf,trans,alu,alv,BS,alr]
abbrev Mx(m:Nat):Prop:=aj 77 (G9 m)∧aj 40 (Ha m)
def alx(m:Nat)(hG:Mx m):aj 77 (G9<|m+1):=aU zo (M:=(wh m)) rfl ⟨hG.1,hG.2,trivial⟩ Tryz.func77 fun t=>GiF.r fun w o=>alw m t (am w 0) (aA o 0)<|aA o 1
def wl(m:Nat):Mc Un:=az [(40,Ha m),(75,Qt),(76,Vc),(77,G9 m)] [] [] [] []
def BU:Nat→NS:=aO [(3,{ts:=bl 59 58,bs:=bl 59 2,nm:=[],cs:=true}),(8,{ts:=bl 59 218,bs:=bl 59 2,nm:=[],cs:=true})] true
def mG(r:Rel):=cw<|Rel.mk r.op r.table r.cols r.kids r.terms r.aggs r.keys r.limit r.skip r.all r.rows
def wm(r:Rel)(v0:Int)(v1:Int):S Un:=(st 59 59 236 0 [(1,ax 1),(3,ai v0),(4,ai (1:Int)),(5,ai v1)] [(1,bg .rel r)] [])
def wn(r:Rel)(v0:Int)(v2:Int)(v3:Int):S Un:=(st 59 59 236 0 [(1,ax 1),(3,ai v0),(4,ai v2),(6,al .term<|mG r),(7,ai v3)] [(1,bg .rel r)] [])
def Hd(m:Nat):S Un→Option (EX Un):=aC (wl m) BU Tryz.f40 [1,1,0,1,2,2] 3
def He(m:Nat):S Un→Option (EX Un):=aC (wl m) BU Tryz.f40 [1,1,1,1,0,1,2,2] 8
def Vl(m:Nat):Exit→S Un→Option (RF Un):=aE (wl m) BU Tryz.f40 [1,1,0,1,2] [.d]
def Vm(m:Nat):Exit→S Un→Option (RF Un):=aE (wl m) BU Tryz.f40 [1,1,1,1,0,1,2] [.d]
def Vn(m:Nat)(r:Rel):Option (RF Un):=aw (wl m) BU Tryz.f40 0 [.d] [.d<|.agg<|enc Ty.rel r]
def aly(m r):Vn m r=(Hd m<|wm r (1:Int) (0:Int)).bind (zd<|Vl m):=ah
def Vo(m r v0 v1):Hd m (wm r v0 v1)=af (decide<|v1<(↑r.kids.length:Int)) (ae (0≤v1∧v1<(↑r.kids.length:Int))<|ae ((2:Nat)*(Rel.ids<|r.kids.getD v1.toNat za).ht+(1:Nat)<m)<|ae ((Rel.ids<|r.kids.getD v1.toNat za).sz≤(2000000:Nat))<|Hd m<|wm r (List.foldl (fun a b=>if a<b then b else a) v0 [qe<|Rel.ids<|r.kids.getD v1.toNat za])<|IntKind.i64.wrap<|v1+1) (some (.exit 0,(wm r v0 v1))):=aF
def alz(m r v0 v1):Vl m (.exit 0) (wm r v0 v1)=ae ((Rel.ids r).sz≤(2000000:Nat)) ((He m<|wn r v0 (1:Int) (0:Int)).bind<|zd<|Vm m):=ah
theorem Vp(m r v0 v2 v3):He m (wn r v0 v2 v3)=af (decide<|v3<(↑(mG r).length:Int)) (ae (0≤v3∧v3<(↑(mG r).length:Int))<|ae ((Term.ids<|(mG r).getD v3.toNat zb).sz≤(2000000:Nat))<|ae (0≤v3∧v3<(↑(mG r).length:Int))<|ae ((2:Nat)*(Term.ids<|(mG r).getD v3.toNat zb).ht<m)<|ae ((Term.ids<|(mG r).getD v3.toNat zb).sz≤(2000000:Nat))<|He m<|wn r (List.foldl (fun a b=>if a<b then b else a) v0 [BS<|Term.ids<|(mG r).getD v3.toNat zb]) (List.foldl (fun a b=>if a<b then b else a) v2 [sX<|Term.ids<|(mG r).getD v3.toNat zb])<|IntKind.i64.wrap<|v3+1) (some (.exit 2,(wn r v0 v2 v3))):=aF
def alA(m r v0 v2 v3):Vm m (.exit 2) (wn r v0 v2 v3)=af (r.op==4) (some<|ay<|List.foldl (fun a b=>if b<a then b else a) (IntKind.i64.wrap<|v0*List.foldl (fun a b=>if b<a then b else a) v2 [(1048576:Int)]) [(1048576:Int)]) (af (r.op==7) (some<|ay<|List.foldl (fun a b=>if b<a then b else a) (IntKind.i64.wrap<|v0*List.foldl (fun a b=>if b<a then b else a) v2 [(1048576:Int)]) [(1048576:Int)])<|some<|ay v0):=ah
def alB m(r:Rel)(hr:WS .rel r)(hm:2*r.ht+1<m+1)(h:r.sz≤2000000):Vn m r=some (ay (qe r)):=by
 obtain⟨lp,_⟩:=zy (e:=.exit 0) (L:=Hd m) (st:=fun(n:Int) i=>wm r n i) (l:=r.kids) (d:=za) (g:=fun n k=>dh n (uJ k)) (fun _ _=>True) (hr.rel_kids).len
  (fun n i k hi hk _=>by
   have hmem:k∈r.kids:=by grind
   have h1:=Rel.ht_kid hmem;have h2:=hU hmem;refine⟨trivial,?_⟩;rw[Vo];simp only[z8,hi,decide_true,if_true,and_true,y5,hk,Rel.ids_eq];rw[z6 (by omega),z6 (by omega),z6 (by omega)]
   rfl)
  (fun n _=>by rw[Vo];simp[z8]) 1 trivial
 rw[Mw]at lp;have hlen:=G2 r;have hc:mG r=cw r:=by rfl
 obtain⟨lq,_⟩:=zy (e:=.exit 2) (L:=He m) (st:=fun(n:Int×Int) i=>wn r n.1 n.2 i) (l:=cw r) (d:=zb) (g:=fun n k=>(dh n.1 (rS k),dh n.2 (om k))) (fun _ _=>True) (by omega)
  (fun n i k hi hk _=>by
   have hmem:k∈cw r:=by grind
   obtain⟨h1,h2⟩:=qa hmem;refine⟨trivial,?_⟩;rw[Vp];simp only[hc,z8,hi,decide_true,if_true,and_true,y5,hk,Term.ids_eq];rw[z6 (by omega),z6 (by omega),z6 (by omega),z6 (by omega),z6 (by omega)]
   rfl)
  (fun n _=>by grind[Vp,z8]) (qd 1 r.kids,1) trivial
 rw[Vf (fun n k=>dh n (rS k)) (fun n k=>dh n (om k)),ou]at lq;rw[aly];refine(zf lp).trans ?_;rw[alz,Rel.ids_eq,z6 h];refine(zf lq).trans ?_;rw[alA,qe,als];unfold Mv Mu;simp only[z8,beq_iff_eq];grind
def alC(m:Nat)(hG:Mx m):aj 40 (Ha<|m+1):=aU zo (M:=(wl m)) rfl ⟨hG.2,U1,alq,hG.1,trivial⟩ Tryz.func40 fun r=>GiF.r fun w o=>alB m r (am w 0) (aA o 0)<|aA o 1
def My:∀m,Mx m
 |0=>⟨rO,rO⟩
 |m+1=>⟨alx m<|My m,alC m<|My m⟩
def Vq:au Un:=aQ (dS .rel) fun r=>([r.sz≤2000000],ay<|qe r)
def alD:aj 40 Vq:=D3 fun m=>(My m).2
end
end B
end Go.Proofs.YtjfpbchdcbhfgaaGreat
