/- Part 8 of the proof: Sref15r Slight1. -/
import Derived.Test.YtjfpbchdcbhfgaaGreatNth7
set_option linter.unusedVariables false
set_option linter.unusedSimpArgs false
namespace Go.Proofs.YtjfpbchdcbhfgaaGreat
namespace B
open Go Go.RowKit
set_option maxRecDepth 100000
noncomputable section
attribute [local irreducible] awp ctxK zu z1d retQ z1p awf ctxF z1o
def z3b (r:Rel) : Option (RF Un):=fnF_ z1du z269 Tryz.f65 0 [.d] [.d (.agg (enc Ty.rel r))]
def z3c (r:Rel) : Bool :=
 (!(r.op == 1) && !(r.table.toList == (ByteArray.mk #[]).toList)) || (!(r.op == 2) && decide (0<r.rows.length)) || (!(r.op == 3 || r.op == 4 || r.op == 5 || r.op == 6 || r.op == 7) && decide (0<r.terms.length)) ||
 (!(r.op == 7) && decide (0<r.aggs.length)) || (!(r.op == 12) && decide (0<r.keys.length)) || (!(r.op == 9 || r.op == 10 || r.op == 11) && r.all) || (!(r.op == 13) && (!(r.limit == 0) || !(r.skip == 0)))
theorem zu7 {R:Bool→RF Un} (a p x:Bool) {X:Option (RF Un)} (h:X=some (R x)) : cndO a (cndO p (some (R true)) X) X=some (R ((a && p) || x)):=by subst h;cases a<;>cases p<;>cases x<;>rfl
def spX (g p:Bool) (X:Option (RF Un)) : Option (RF Un):=cndO g (cndO p (some (z9f true)) X) X
def spT (g1 g2 g3 g4 g5 g6 g7 tb rw_ tm ag ky al li sk:Bool) : Option (RF Un):=spX g1 tb (spX g2 rw_ (spX g3 tm (spX g4 ag (spX g5 ky (spX g6 al (cndO g7 (cndO li (some (z9f true)) (some (z9f sk))) (some (z9f false))))))))
theorem zcr (g1 g2 g3 g4 g5 g6 g7 tb rw_ tm ag ky al li sk:Bool) : spT g1 g2 g3 g4 g5 g6 g7 tb rw_ tm ag ky al li sk=some (z9f ((g1 && tb) || ((g2 && rw_) || ((g3 && tm) || ((g4 && ag) || ((g5 && ky) || ((g6 && al) || (g7 && (li || sk))))))))):=by
 have z:cndO g7 (cndO li (some (z9f true)) (some (z9f sk))) (some (z9f false))=some (z9f (g7 && (li || sk))):=by cases g7<;>cases li<;>rfl
 exact zu7 _ _ _ (zu7 _ _ _ (zu7 _ _ _ (zu7 _ _ _ (zu7 _ _ _ (zu7 _ _ _ z)))))
theorem z2md (table:ByteArray) (cols:List Col) (kids:List Rel) (terms:List Term) (aggs:List Agg) (keys:List By) (limit skip:Int) (all:Bool) (rows:List (List Val)) : z3b (.mk 1 table cols kids terms aggs keys limit skip all rows)=spT false true true true true true true (!(table.toList == (ByteArray.mk #[]).toList)) (decide ((rows.length:Int) > 0)) (decide ((terms.length:Int) > 0)) (decide ((aggs.length:Int) > 0)) (decide ((keys.length:Int) > 0)) all (limit != 0) (skip != 0):=by kernel_rfl
theorem z2me (table:ByteArray) (cols:List Col) (kids:List Rel) (terms:List Term) (aggs:List Agg) (keys:List By) (limit skip:Int) (all:Bool) (rows:List (List Val)) : z3b (.mk 2 table cols kids terms aggs keys limit skip all rows)=spT true false true true true true true (!(table.toList == (ByteArray.mk #[]).toList)) (decide ((rows.length:Int) > 0)) (decide ((terms.length:Int) > 0)) (decide ((aggs.length:Int) > 0)) (decide ((keys.length:Int) > 0)) all (limit != 0) (skip != 0):=by kernel_rfl
theorem z2mf (table:ByteArray) (cols:List Col) (kids:List Rel) (terms:List Term) (aggs:List Agg) (keys:List By) (limit skip:Int) (all:Bool) (rows:List (List Val)) : z3b (.mk 3 table cols kids terms aggs keys limit skip all rows)=spT true true false true true true true (!(table.toList == (ByteArray.mk #[]).toList)) (decide ((rows.length:Int) > 0)) (decide ((terms.length:Int) > 0)) (decide ((aggs.length:Int) > 0)) (decide ((keys.length:Int) > 0)) all (limit != 0) (skip != 0):=by kernel_rfl
theorem z2mg (table:ByteArray) (cols:List Col) (kids:List Rel) (terms:List Term) (aggs:List Agg) (keys:List By) (limit skip:Int) (all:Bool) (rows:List (List Val)) : z3b (.mk 4 table cols kids terms aggs keys limit skip all rows)=spT true true false true true true true (!(table.toList == (ByteArray.mk #[]).toList)) (decide ((rows.length:Int) > 0)) (decide ((terms.length:Int) > 0)) (decide ((aggs.length:Int) > 0)) (decide ((keys.length:Int) > 0)) all (limit != 0) (skip != 0):=by kernel_rfl
theorem z2mh (table:ByteArray) (cols:List Col) (kids:List Rel) (terms:List Term) (aggs:List Agg) (keys:List By) (limit skip:Int) (all:Bool) (rows:List (List Val)) : z3b (.mk 5 table cols kids terms aggs keys limit skip all rows)=spT true true false true true true true (!(table.toList == (ByteArray.mk #[]).toList)) (decide ((rows.length:Int) > 0)) (decide ((terms.length:Int) > 0)) (decide ((aggs.length:Int) > 0)) (decide ((keys.length:Int) > 0)) all (limit != 0) (skip != 0):=by kernel_rfl
theorem z2mi (table:ByteArray) (cols:List Col) (kids:List Rel) (terms:List Term) (aggs:List Agg) (keys:List By) (limit skip:Int) (all:Bool) (rows:List (List Val)) : z3b (.mk 6 table cols kids terms aggs keys limit skip all rows)=spT true true false true true true true (!(table.toList == (ByteArray.mk #[]).toList)) (decide ((rows.length:Int) > 0)) (decide ((terms.length:Int) > 0)) (decide ((aggs.length:Int) > 0)) (decide ((keys.length:Int) > 0)) all (limit != 0) (skip != 0):=by kernel_rfl
theorem z2mj (table:ByteArray) (cols:List Col) (kids:List Rel) (terms:List Term) (aggs:List Agg) (keys:List By) (limit skip:Int) (all:Bool) (rows:List (List Val)) : z3b (.mk 7 table cols kids terms aggs keys limit skip all rows)=spT true true false false true true true (!(table.toList == (ByteArray.mk #[]).toList)) (decide ((rows.length:Int) > 0)) (decide ((terms.length:Int) > 0)) (decide ((aggs.length:Int) > 0)) (decide ((keys.length:Int) > 0)) all (limit != 0) (skip != 0):=by kernel_rfl
theorem z2mk (table:ByteArray) (cols:List Col) (kids:List Rel) (terms:List Term) (aggs:List Agg) (keys:List By) (limit skip:Int) (all:Bool) (rows:List (List Val)) : z3b (.mk 8 table cols kids terms aggs keys limit skip all rows)=spT true true true true true true true (!(table.toList == (ByteArray.mk #[]).toList)) (decide ((rows.length:Int) > 0)) (decide ((terms.length:Int) > 0)) (decide ((aggs.length:Int) > 0)) (decide ((keys.length:Int) > 0)) all (limit != 0) (skip != 0):=by kernel_rfl
theorem z2ml (table:ByteArray) (cols:List Col) (kids:List Rel) (terms:List Term) (aggs:List Agg) (keys:List By) (limit skip:Int) (all:Bool) (rows:List (List Val)) : z3b (.mk 9 table cols kids terms aggs keys limit skip all rows)=spT true true true true true false true (!(table.toList == (ByteArray.mk #[]).toList)) (decide ((rows.length:Int) > 0)) (decide ((terms.length:Int) > 0)) (decide ((aggs.length:Int) > 0)) (decide ((keys.length:Int) > 0)) all (limit != 0) (skip != 0):=by kernel_rfl
theorem z2kk (table:ByteArray) (cols:List Col) (kids:List Rel) (terms:List Term) (aggs:List Agg) (keys:List By) (limit skip:Int) (all:Bool) (rows:List (List Val)) : z3b (.mk 10 table cols kids terms aggs keys limit skip all rows)=spT true true true true true false true (!(table.toList == (ByteArray.mk #[]).toList)) (decide ((rows.length:Int) > 0)) (decide ((terms.length:Int) > 0)) (decide ((aggs.length:Int) > 0)) (decide ((keys.length:Int) > 0)) all (limit != 0) (skip != 0):=by kernel_rfl
theorem z2kl (table:ByteArray) (cols:List Col) (kids:List Rel) (terms:List Term) (aggs:List Agg) (keys:List By) (limit skip:Int) (all:Bool) (rows:List (List Val)) : z3b (.mk 11 table cols kids terms aggs keys limit skip all rows)=spT true true true true true false true (!(table.toList == (ByteArray.mk #[]).toList)) (decide ((rows.length:Int) > 0)) (decide ((terms.length:Int) > 0)) (decide ((aggs.length:Int) > 0)) (decide ((keys.length:Int) > 0)) all (limit != 0) (skip != 0):=by kernel_rfl
theorem z2km (table:ByteArray) (cols:List Col) (kids:List Rel) (terms:List Term) (aggs:List Agg) (keys:List By) (limit skip:Int) (all:Bool) (rows:List (List Val)) : z3b (.mk 12 table cols kids terms aggs keys limit skip all rows)=spT true true true true false true true (!(table.toList == (ByteArray.mk #[]).toList)) (decide ((rows.length:Int) > 0)) (decide ((terms.length:Int) > 0)) (decide ((aggs.length:Int) > 0)) (decide ((keys.length:Int) > 0)) all (limit != 0) (skip != 0):=by kernel_rfl
theorem z2kn (table:ByteArray) (cols:List Col) (kids:List Rel) (terms:List Term) (aggs:List Agg) (keys:List By) (limit skip:Int) (all:Bool) (rows:List (List Val)) : z3b (.mk 13 table cols kids terms aggs keys limit skip all rows)=spT true true true true true true false (!(table.toList == (ByteArray.mk #[]).toList)) (decide ((rows.length:Int) > 0)) (decide ((terms.length:Int) > 0)) (decide ((aggs.length:Int) > 0)) (decide ((keys.length:Int) > 0)) all (limit != 0) (skip != 0):=by kernel_rfl
def zu8 (r:Rel) : Prop:=0≤z3j r.op
theorem z1rh (r:Rel) (_hr:WS .rel r) (h:zu8 r) : z3b r=some (z9f (z3c r)):=by
 have hop:r.op=1∨r.op=2∨r.op=3∨r.op=4∨r.op=5∨r.op=6∨r.op=7∨r.op=8∨r.op=9∨r.op=10∨r.op=11∨r.op=12∨r.op=13:=by
  grind [zu8,z3j]
 cases r with
 | mk op table cols kids terms aggs keys limit skip all rows =>
  rcases hop with rfl | rfl | rfl | rfl | rfl | rfl | rfl | rfl | rfl | rfl | rfl | rfl | rfl
  ·rw[z2md,zcr];unfold z3c;simp;grind
  ·rw[z2me,zcr];unfold z3c;simp;grind
  ·rw[z2mf,zcr];unfold z3c;simp;grind
  ·rw[z2mg,zcr];unfold z3c;simp;grind
  ·rw[z2mh,zcr];unfold z3c;simp;grind
  ·rw[z2mi,zcr];unfold z3c;simp;grind
  ·rw[z2mj,zcr];unfold z3c;simp;grind
  ·rw[z2mk,zcr];unfold z3c;simp;grind
  ·rw[z2ml,zcr];unfold z3c;simp;grind
  ·rw[z2kk,zcr];unfold z3c;simp;grind
  ·rw[z2kl,zcr];unfold z3c;simp;grind
  ·rw[z2km,zcr];unfold z3c;simp;grind
  ·rw[z2kn,zcr];unfold z3c;simp;grind
def z1ef : FnC Un:=fnF1 (dS .rel) fun r=>([zu8 r],z9f (z3c r))
theorem z21p : FnOK 65 z1ef:=fnK1 zq (M:=z1du) rfl trivial trivial trivial trivial trivial Tryz.func65 fun r=>GiF.r fun w o=>z1rh r (wfA_ w 0) (obA_ o 0)
def zv5 (t:Term) (env:List Int) : Bool:=(zi7 t).2.2 && decide (¬ (t.kids.length:Int)<(zi7 t).1) && decide (¬ (t.kids.length:Int) > (zi7 t).2.1) && decide ((t.sub.length:Int)=zkc t) && zu6 t env
def z10i (r:Rel) : Bool:=decide (¬ z3j r.op<0) && decide ((r.kids.length:Int)=z3j r.op) && !z3c r
def z1br (a:Agg) : Bool:=((a.name.toList == (ByteArray.mk #[99,111,117,110,116]).toList) || (a.name.toList == (ByteArray.mk #[115,117,109]).toList) || (a.name.toList == (ByteArray.mk #[109,105,110]).toList) || (a.name.toList == (ByteArray.mk #[109,97,120]).toList)) && decide (a.t.length≤1) && (decide (a.t.length≠0) || ((a.name.toList == (ByteArray.mk #[99,111,117,110,116]).toList) && !a.distinct))
mutual
def zbm : Term→List Int→Bool
 | .mk op v depth at_ name kids sub type,env=>zv5 (.mk op v depth at_ name kids sub type) env && z55 kids env && (decide (sub.length≠1) || (zeb sub env && (op == 27 || z1y (sub.getD 0 za) == 1)))
def z55 : List Term→List Int→Bool
 | [],_=>true
 | t::l,env=>zbm t env && z55 l env
def z1bs : Agg→List Int→Bool
 | .mk name distinct t,env=>z1br (.mk name distinct t) && z55 t env
def z10j : List Agg→List Int→Bool
 | [],_=>true
 | a::l,env=>z1bs a env && z10j l env
def zlq : Rel→List Int→Bool
  | .mk op table cols kids terms aggs keys limit skip all rows,env=>z10i (.mk op table cols kids terms aggs keys limit skip all rows) && zeb kids env && decide ((cols.length:Int)=z1y (.mk op table cols kids terms aggs keys limit skip all rows)) &&
    (if op=1 then !(table.toList == (ByteArray.mk #[]).toList)
     else if op=2 then zoa rows cols.length
     else if op=3∨op=6 then decide (terms.length=1) && z55 terms (z97 (.mk op table cols kids terms aggs keys limit skip all rows)::env)
     else if op=4 then z55 terms (z97 (.mk op table cols kids terms aggs keys limit skip all rows)::env)
     else if op=5 then decide (terms.length≤1) && z55 terms (z97 (.mk op table cols kids terms aggs keys limit skip all rows)::env)
     else if op=7 then z55 terms (z97 (.mk op table cols kids terms aggs keys limit skip all rows)::env) && z10j aggs (z97 (.mk op table cols kids terms aggs keys limit skip all rows)::env)
     else if op=9∨op=10∨op=11 then z1y (kids.getD 0 za) == z1y (kids.getD 1 za)
     else if op=12 then zv4 keys (z1y (.mk op table cols kids terms aggs keys limit skip all rows))
     else if op=13 then decide (-1≤limit∧limit≤1000000000000000∧0≤skip∧skip≤1000000000000000)
     else true)
def zeb : List Rel→List Int→Bool
 | [],_=>true
 | r::l,env=>zlq r env && zeb l env
end
def zec (r:Rel) (env:List Int) : Bool :=
 if r.op=1 then !(r.table.toList == (ByteArray.mk #[]).toList)
 else if r.op=2 then zoa r.rows r.cols.length
 else if r.op=3∨r.op=6 then decide (r.terms.length=1) && z55 r.terms (z97 r::env)
 else if r.op=4 then z55 r.terms (z97 r::env)
 else if r.op=5 then decide (r.terms.length≤1) && z55 r.terms (z97 r::env)
 else if r.op=7 then z55 r.terms (z97 r::env) && z10j r.aggs (z97 r::env)
 else if r.op=9∨r.op=10∨r.op=11 then z1y (r.kids.getD 0 za) == z1y (r.kids.getD 1 za)
 else if r.op=12 then zv4 r.keys (z1y r)
 else if r.op=13 then decide (-1≤r.limit∧r.limit≤1000000000000000∧0≤r.skip∧r.skip≤1000000000000000)
 else true
theorem z1vd (t:Term) (env:List Int) : zbm t env=(zv5 t env && z55 t.kids env && (decide (t.sub.length≠1) || (zeb t.sub env && (t.op == 27 || z1y (t.sub.getD 0 za) == 1)))):=by cases t;rfl
theorem z21q (a:Agg) (env:List Int) : z1bs a env=(z1br a && z55 a.t env):=by cases a;rfl
theorem z21r (r:Rel) (env:List Int) : zlq r env=(z10i r && zeb r.kids env && decide ((r.cols.length:Int)=z1y r) && zec r env):=by cases r;rfl
theorem zes : ∀ (l:List Term) (env:List Int),z55 l env=l.all fun t=>zbm t env
 | [],_=>rfl
 | t::l,env=>by simp only[z55,y1g,zes l env]
theorem z138 : ∀ (l:List Agg) (env:List Int),z10j l env=l.all fun t=>z1bs t env
 | [],_=>rfl
 | t::l,env=>by simp only[z10j,y1g,z138 l env]
theorem zt5 : ∀ (l:List Rel) (env:List Int),zeb l env=l.all fun t=>zlq t env
 | [],_=>rfl
 | t::l,env=>by simp only[zeb,y1g,zt5 l env]
def z17k (r:Rel) : Prop:=(r.op=9∨r.op=10∨r.op=11)→2≤r.kids.length
def z7h (t:Term) (env:List Int) : Bool:=zbm t env
def zcs (l:List Term) (env:List Int) : Bool:=z55 l env
def z139 (l:List Agg) (env:List Int) : Bool:=z10j l env
def z1hs (r:Rel) (env:List Int) : Bool:=zec r env
def z9x (r:Rel) (env:List Int) : Bool:=zlq r env
def zp9 (m:Nat) : FnC Un:=fnF2 (dS .term) (dL .int) fun t env=>z2m (3*t.ht) m ([z2l env t.ht],z9f (z7h t env))
def zt6 (m:Nat) : FnC Un:=fnF2 (dL .term) (dL .int) fun l env=>z2m (3*htTs l+1) m ([z2l env (htTs l)],z9f (zcs l env))
def zz1 (m:Nat) : FnC Un:=fnF2 (dL .agg) (dL .int) fun l env=>z2m (3*htAs l) m ([z2l env (htAs l)],z9f (z139 l env))
def zz2 (m:Nat) : FnC Un:=fnF2 (dS .rel) (dL .int) fun r env=>z2m (3*r.ht+1) m ([z2l env r.ht,z17k r],z9f (z1hs r env))
def zt7 (m:Nat) : FnC Un:=fnF2 (dS .rel) (dL .int) fun r env=>z2m (3*r.ht+2) m ([z2l env r.ht],z9f (z9x r env))
def zt8 (m:Nat) : Mc Un:=mcF_ [(56,z21l),(57,z1lh),(58,z1vb),(18,zp9 m),(33,zt7 m),(19,zer)] [] [] [] []
def z13a : Nat→NS:=nsF_ [(5,{ ts:=bl 83 278,bs:=bl 83 4,nm:=[],cs:=true })] true
def z7s (t:Term) (env:List Int) (v0:Int) : S Un:=(st 83 83 332 0 [(1,al .int env),(2,ax 2),(4,ab false),(8,ai v0)] [(2,bg .term t)] [])
def zpa (m:Nat) : S Un→Option (EX Un):=lpF_ (zt8 m) z13a Tryz.f18 [1,1,1,0,1,2,2] 5
def zi8 (m:Nat) : Exit→S Un→Option (RF Un):=cxF_ (zt8 m) z13a Tryz.f18 [1,1,1,0,1,2] [.d]
def z1eg (m:Nat) (t:Term) (env:List Int) : Option (RF Un):=fnF_ (zt8 m) z13a Tryz.f18 0 [.d] [.d (.agg (enc Ty.term t)),.d (.v (.dat (U:=Un) Ty.int env))]
theorem z26j (m:Nat) (t:Term) (env:List Int) : z1eg m t env=cndO (!(zi7 (Term.ids t)).snd.snd) (some (z9f (false))) (cndO (decide ((↑t.kids.length:Int)<(zi7 (Term.ids t)).fst)) (some (z9f (false))) (cndO (decide ((↑t.kids.length:Int) > (zi7 (Term.ids t)).snd.fst)) (some (z9f (false))) (cndO ((↑t.sub.length:Int) != zkc (Term.ids t)) (some (z9f (false))) (cndO (!zu6 (Term.ids t) env) (some (z9f (false))) ((zpa m (z7s t env (0:Int))).bind (zd (zi8 m))))))):=by kernel_rfl
theorem z1eh (m:Nat) (t:Term) (env:List Int) (v0:Int) : zpa m (z7s t env v0)=cndO (decide (v0<(↑t.kids.length:Int))) (obO (0≤v0∧v0<(↑t.kids.length:Int)) (obO ((3:Nat)*(Term.ids (t.kids.getD v0.toNat zb)).ht<m) (obO (z2l env (Term.ids (t.kids.getD v0.toNat zb)).ht) (cndO (!z7h (Term.ids (t.kids.getD v0.toNat zb)) env) (some (.ret,(z7s t env v0))) (zpa m (z7s t env (IntKind.i64.wrap (v0+1)))))))) (some (.exit 0,(z7s t env v0))):=lpQ_ (by kernel_rfl)
theorem z1lo (m:Nat) (t:Term) (env:List Int) (v0:Int) : zi8 m .ret (z7s t env v0)=some (z9f (false)):=by kernel_rfl
theorem z1ri (m:Nat) (t:Term) (env:List Int) (v0:Int) : zi8 m (.exit 0) (z7s t env v0)=cndO ((↑t.sub.length:Int) == (1:Int)) (obO ((0:Int)≤(0:Int)∧(0:Int)<(↑t.sub.length:Int)) (obO ((3:Nat)*(Rel.ids (t.sub.getD 0 za)).ht+(2:Nat)<m) (obO (z2l env (Rel.ids (t.sub.getD 0 za)).ht) (cndO (z9x (Rel.ids (t.sub.getD 0 za)) env) (cndO (t.op == 27) (some (z9f (true))) (obO ((0:Int)≤(0:Int)∧(0:Int)<(↑t.sub.length:Int)) (some (z9f (z2i (Rel.ids (t.sub.getD 0 za)) == 1))))) (some (z9f (false))))))) (some (z9f (true))):=by kernel_rfl
theorem z26k (m:Nat) (t:Term) (env:List Int) (hm:3*t.ht<m+1) (h:env.length+t.ht≤8000000) (i:Int) : zi8 m (.exit 0) (z7s t env i)=some (z9f (decide (t.sub.length≠1) || (zeb t.sub env && (t.op == 27 || z1y (t.sub.getD 0 za) == 1)))):=by
 rw[z1ri,z8];by_cases h1 : t.sub.length=1
 ·obtain⟨s,hs⟩ : ∃ s,t.sub=[s]:=by
   match hk : t.sub,h1 with
   | [s],_=>simp
  have hht:s.ht<t.ht:=Term.ht_sub (by grind);have hg:t.sub.getD 0 za=s:=by grind
  rw[if_pos (by grind),hg,decide_eq_false (fun e=>e h1),y3n];simp only[Rel.ids_eq];rw[z6 (by omega),z6 (by omega),z6 (show z2l env s.ht by grind [z2l])];have hr:zeb t.sub env=z9x s env:=by rw[hs];simp only[zeb,Bool.and_true];rfl
  rw[hr,zah];cases z9x s env
  ·rfl
  ·rw[z8,if_pos rfl,y18,z8];cases t.op == 27
   all_goals simp_all [if_neg,z6,y3n]
 grind
theorem z1xl (m:Nat) (t:Term) (env:List Int) (_ht:WS .term t) (_he:WL .int env) (hm:3*t.ht<m+1) (h:z2l env t.ht) : z1eg m t env=some (z9f (z7h t env)):=by
 have hk:WL .term t.kids:=_ht.term_kids
 have lp:=z32 (L:=zpa m) (st:=fun i=>z7s t env i) (C:=zi8 m) (e:=.exit 0) (fun b=>some (z9f (b && (decide (t.sub.length≠1) || (zeb t.sub env && (t.op == 27 || z1y (t.sub.getD 0 za) == 1)))))) (d:=zb) (fun k=>z7h k env) hk.len
  (fun i x hi hx hmem=>by
   have hht:=Term.ht_kid hmem;rw[z1eh];simp only[z8,hi,decide_true,if_true,and_true,y5,hx,Term.ids_eq]
   grind [z6,z2l,z7h])
  (by rw[z1eh];simp [z8]) (fun i=>by rw[z1lo,y1p]) (fun i=>by rw[z26k m t env hm h,y18])
 have e:z7h t env=(zv5 t env && (t.kids.all (fun k=>z7h k env) && (decide (t.sub.length≠1) || (zeb t.sub env && (t.op == 27 || z1y (t.sub.getD 0 za) == 1))))):=by
  show zbm t env=_;rw[z1vd,zes,y3o];rfl
 rw[z26j,e];simp only[Term.ids_eq];unfold zv5;generalize zi7 t=o;cases o.2.2
 ·rfl
 simp only[z8,decide_eq_true_eq,y4a,y18];grind
abbrev zks (m:Nat) : Prop:=FnOK 18 (zp9 m)∧FnOK 114 (zt6 m)∧FnOK 115 (zz1 m)∧FnOK 66 (zz2 m)∧FnOK 33 (zt7 m)
theorem z21s (m:Nat) (hG:zks m) : FnOK 18 (zp9 (m+1)):=fnK2 zq z10 (M:=(zt8 m)) rfl ⟨z2ef,z26c,z2ap,hG.1,hG.2.2.2.2,zft,trivial⟩ trivial trivial trivial trivial Tryz.func18 fun t env=>GiF.r fun w o=>z1xl m t env (wfA_ w 0) (wfA_ w 1) (obA_ o 0) (obA_ o 1)
def zwz (m:Nat) : Mc Un:=mcF_ [(18,zp9 m)] [] [] [] []
def z17l : Nat→NS:=nsF_ [(2,{ ts:=bl 19 51,bs:=bl 19 0,nm:=[],cs:=true })] true
def zbn (l:List Term) (env:List Int) (v0:Int) : S Un:=(st 19 19 76 0 [(0,al .term l),(1,al .int env),(4,ab false),(5,ai v0)] [] [])
def zt9 (m:Nat) : S Un→Option (EX Un):=lpF_ (zwz m) z17l Tryz.f114 [1,0,1,2,2] 2
def z13b (m:Nat) : Exit→S Un→Option (RF Un):=cxF_ (zwz m) z17l Tryz.f114 [1,0,1,2] [.d]
def z1lp (m:Nat) (l:List Term) (env:List Int) : Option (RF Un):=fnF_ (zwz m) z17l Tryz.f114 0 [.d] [.d (.v (.dat (U:=Un) Ty.term l)),.d (.v (.dat (U:=Un) Ty.int env))]
theorem z2ar (m:Nat) (l:List Term) (env:List Int) : z1lp m l env=(zt9 m (zbn l env (0:Int))).bind (zd (z13b m)):=by kernel_rfl
theorem z1lq (m:Nat) (l:List Term) (env:List Int) (v0:Int) : zt9 m (zbn l env v0)=cndO (decide (v0<(↑l.length:Int))) (obO (0≤v0∧v0<(↑l.length:Int)) (obO ((3:Nat)*(Term.ids (l.getD v0.toNat zb)).ht<m) (obO (z2l env (Term.ids (l.getD v0.toNat zb)).ht) (cndO (!z7h (Term.ids (l.getD v0.toNat zb)) env) (some (.ret,(zbn l env v0))) (zt9 m (zbn l env (IntKind.i64.wrap (v0+1)))))))) (some (.exit 0,(zbn l env v0))):=lpQ_ (by kernel_rfl)
theorem z1rj (m:Nat) (l:List Term) (env:List Int) (v0:Int) : z13b m .ret (zbn l env v0)=some (z9f (false)):=by kernel_rfl
theorem z1xm (m:Nat) (l:List Term) (env:List Int) (v0:Int) : z13b m (.exit 0) (zbn l env v0)=some (z9f (true)):=by kernel_rfl
theorem z21t (m:Nat) (l:List Term) (env:List Int) (hl:WL .term l) (_he:WL .int env) (hm:3*htTs l+1<m+1) (h:z2l env (htTs l)) : z1lp m l env=some (z9f (zcs l env)):=by
 have e:zcs l env=l.all fun t=>z7h t env:=zes l env;rw[z2ar,e]
 exact z32 (L:=zt9 m) (st:=fun i=>zbn l env i) (fun b=>some (z9f b)) (d:=zb) (fun t=>z7h t env) hl.len
  (fun i x hi hx hmem=>by
   have hht:=zc6 hmem;rw[z1lq];simp only[z8,hi,decide_true,if_true,and_true,y5,hx,Term.ids_eq]
   grind [z6,z2l,z7h])
  (by rw[z1lq];simp [z8]) (fun i=>z1rj _ _ _ _) (fun i=>z1xm _ _ _ _)
theorem z26l (m:Nat) (hG:zks m) : FnOK 114 (zt6 (m+1)):=fnK2 z10 z10 (M:=(zwz m)) rfl ⟨hG.1,trivial⟩ trivial trivial trivial trivial Tryz.func114 fun l env=>GiF.r fun w o=>z21t m l env (wfA_ w 0) (wfA_ w 1) (obA_ o 0) (obA_ o 1)
def zta (m:Nat) : Mc Un:=mcF_ [(114,zt6 m)] [] [] [] []
def z13c : Nat→NS:=nsF_ [(2,{ ts:=bl 61 51,bs:=bl 61 0,nm:=[],cs:=true })] true
def z3v (l:List Agg) (env:List Int) (v0:Int) : S Un:=(st 61 61 244 0 [(0,al .agg l),(1,al .int env),(4,ab false),(5,ai v0)] [] [])
def zi9 (m:Nat) : S Un→Option (EX Un):=lpF_ (zta m) z13c Tryz.f115 [1,0,1,2,2] 2
def zz3 (m:Nat) : Exit→S Un→Option (RF Un):=cxF_ (zta m) z13c Tryz.f115 [1,0,1,2] [.d]
def z1ei (m:Nat) (l:List Agg) (env:List Int) : Option (RF Un):=fnF_ (zta m) z13c Tryz.f115 0 [.d] [.d (.v (.dat (U:=Un) Ty.agg l)),.d (.v (.dat (U:=Un) Ty.int env))]
theorem z26m (m:Nat) (l:List Agg) (env:List Int) : z1ei m l env=(zi9 m (z3v l env (0:Int))).bind (zd (zz3 m)):=by kernel_rfl
def zpb (m:Nat) (l:List Agg) (env:List Int) (v0:Int) : Option (EX Un):=obO ((3:Nat)*htTs (Agg.t (l.getD v0.toNat zp))+(1:Nat)<m) (obO (z2l env (htTs (Agg.t (l.getD v0.toNat zp)))) (cndO (!zcs (Agg.t (l.getD v0.toNat zp)) env) (some (.ret,(z3v l env v0))) (zi9 m (z3v l env (IntKind.i64.wrap (v0+1))))))
def zia (m:Nat) (l:List Agg) (env:List Int) (v0:Int) : Option (EX Un):=cndO (decide ((↑(Agg.t (l.getD v0.toNat zp)).length:Int) > (1:Int))) (some (.ret,(z3v l env v0))) (cndO ((↑(Agg.t (l.getD v0.toNat zp)).length:Int) == (0:Int)) (cndO (!(Agg.name (l.getD v0.toNat zp)).toList == (ByteArray.mk #[99,111,117,110,116]).toList) (some (.ret,(z3v l env v0))) (cndO (Agg.distinct (l.getD v0.toNat zp)) (some (.ret,(z3v l env v0))) (zpb m l env v0))) (zpb m l env v0))
theorem z1ej (m:Nat) (l:List Agg) (env:List Int) (v0:Int) : zi9 m (z3v l env v0)=cndO (decide (v0<(↑l.length:Int))) (obO (0≤v0∧v0<(↑l.length:Int)) (cndO (!(Agg.name (l.getD v0.toNat zp)).toList == (ByteArray.mk #[99,111,117,110,116]).toList) (cndO (!(Agg.name (l.getD v0.toNat zp)).toList == (ByteArray.mk #[115,117,109]).toList) (cndO (!(Agg.name (l.getD v0.toNat zp)).toList == (ByteArray.mk #[109,105,110]).toList) (cndO (!(Agg.name (l.getD v0.toNat zp)).toList == (ByteArray.mk #[109,97,120]).toList) (some (.ret,(z3v l env v0))) (zia m l env v0)) (zia m l env v0)) (zia m l env v0)) (zia m l env v0))) (some (.exit 0,(z3v l env v0))):=lpQ_ (by kernel_rfl)
theorem z1lr (m:Nat) (l:List Agg) (env:List Int) (v0:Int) : zz3 m .ret (z3v l env v0)=some (z9f (false)):=by kernel_rfl
theorem z1rk (m:Nat) (l:List Agg) (env:List Int) (v0:Int) : zz3 m (.exit 0) (z3v l env v0)=some (z9f (true)):=by kernel_rfl
theorem z1xn (m:Nat) (l:List Agg) (env:List Int) (hl:WL .agg l) (_he:WL .int env) (hm:3*htAs l<m+1) (h:z2l env (htAs l)) : z1ei m l env=some (z9f (z139 l env)):=by
 have e:z139 l env=l.all fun t=>z1bs t env:=z138 l env;rw[z26m,e]
 exact z32 (L:=zi9 m) (st:=fun i=>z3v l env i) (fun b=>some (z9f b)) (d:=zp) (fun t=>z1bs t env) hl.len
  (fun i x hi hx hmem=>by
   have hht:=z130 hmem;have hax:x.ht=htTs x.t+1:=by cases x;rfl
   have key:zpb m l env (i:Int)=if zcs x.t env=true then zi9 m (z3v l env (IntKind.i64.wrap ((i:Int)+1))) else some (.ret,z3v l env (i:Int)):=by
    unfold zpb;grind [Int.toNat_natCast,z6,z2l,htTs,z8,zcs]
   have e2:z1bs x env=(z1br x && zcs x.t env):=z21q x env;rw[z1ej,e2];unfold zia;simp only[y5,hx,key];unfold z1br;generalize zcs x.t env=q;generalize (x.name.toList == (ByteArray.mk #[99,111,117,110,116]).toList)=n1;generalize (x.name.toList == (ByteArray.mk #[115,117,109]).toList)=n2;generalize (x.name.toList == (ByteArray.mk #[109,105,110]).toList)=n3;generalize (x.name.toList == (ByteArray.mk #[109,97,120]).toList)=n4;rw[z8,if_pos (decide_eq_true hi),z6 (by omega)];by_cases c1 : x.t.length≤1
   ·have d1:decide ((x.t.length:Int) > 1)=false:=decide_eq_false (by omega);rw[d1,decide_eq_true c1];by_cases c0 : x.t.length=0
    ·have d0:((x.t.length:Int) == 0)=true:=by grind
     rw[d0,decide_eq_false (fun e=>e c0)];cases n1<;>cases n2<;>cases n3<;>cases n4<;>cases x.distinct<;>cases q<;>rfl
    ·have d0:((x.t.length:Int) == 0)=false:=by grind
     rw[d0,decide_eq_true c0];cases n1<;>cases n2<;>cases n3<;>cases n4<;>cases q<;>rfl
   ·have d1:decide ((x.t.length:Int) > 1)=true:=decide_eq_true (by omega);rw[d1,decide_eq_false c1]
    cases n1<;>cases n2<;>cases n3<;>cases n4<;>rfl)
  (by rw[z1ej];simp [z8]) (fun i=>z1lr _ _ _ _) (fun i=>z1rk _ _ _ _)
theorem z21u (m:Nat) (hG:zks m) : FnOK 115 (zz1 (m+1)):=fnK2 z10 z10 (M:=(zta m)) rfl ⟨hG.2.1,trivial⟩ trivial trivial trivial trivial Tryz.func115 fun l env=>GiF.r fun w o=>z1xn m l env (wfA_ w 0) (wfA_ w 1) (obA_ o 0) (obA_ o 1)
def z1ls (m:Nat) : Mc Un:=mcF_ [(112,z21o),(113,z1ll),(114,zt6 m),(115,zz1 m),(19,zer),(116,z1ln)] [] [] [] []
def z1ek (m:Nat) (r:Rel) (env:List Int) : Option (RF Un):=fnF_ (z1ls m) z269 Tryz.f66 0 [.d] [.d (.agg (enc Ty.rel r)),.d (.v (.dat (U:=Un) Ty.int env))]
def zib (m:Nat) (r:Rel) (env:List Int) : Option (RF Un):=obO ((3:Nat)*htTs r.terms+(1:Nat)<m) (obO (z2l (zbl (Rel.ids r) env) (htTs r.terms)) (some (z9f (zcs r.terms (zbl (Rel.ids r) env)))))
def zz4 (m:Nat) (r:Rel) (env:List Int) : Option (RF Un):=cndO ((↑r.terms.length:Int) == (1:Int)) (zib m r env) (some (z9f (false)))
def zpc (r:Rel) : Option (RF Un):=obO ((0:Int)≤(0:Int)∧(0:Int)<(↑r.kids.length:Int)) (obO ((0:Int)≤(1:Int)∧(1:Int)<(↑r.kids.length:Int)) (some (z9f (z2i (Rel.ids (r.kids.getD 0 za)) == z2i (Rel.ids (r.kids.getD 1 za))))))
theorem z26n (m:Nat) (r:Rel) (env:List Int) : z1ek m r env=obO (z2l env (1:Nat)) (cndO (r.op == 1) (some (z9f (!r.table.toList == (ByteArray.mk #[]).toList))) (cndO (r.op == 2) (some (z9f (zoa r.rows (↑r.cols.length:Int)))) (cndO (r.op == 3) (zz4 m r env) (cndO (r.op == 6) (zz4 m r env) (cndO (r.op == 4) (zib m r env) (cndO (r.op == 5) (cndO (decide ((↑r.terms.length:Int)≤(1:Int))) (zib m r env) (some (z9f (false)))) (cndO (r.op == 7) (obO ((3:Nat)*htTs r.terms+(1:Nat)<m) (obO (z2l (zbl (Rel.ids r) env) (htTs r.terms)) (cndO (zcs r.terms (zbl (Rel.ids r) env)) (obO ((3:Nat)*htAs r.aggs<m) (obO (z2l (zbl (Rel.ids r) env) (htAs r.aggs)) (some (z9f (z139 r.aggs (zbl (Rel.ids r) env)))))) (some (z9f (false)))))) (cndO (r.op == 9) (zpc r) (cndO (r.op == 10) (zpc r) (cndO (r.op == 11) (zpc r) (cndO (r.op == 12) (some (z9f (zv4 r.keys (z2i (Rel.ids r))))) (cndO (r.op == 13) (cndO (decide (r.limit≥(-1:Int))) (cndO (decide (r.limit≤1000000000000000)) (cndO (decide (r.skip≥0)) (some (z9f (decide (r.skip≤1000000000000000)))) (some (z9f (false)))) (some (z9f (false)))) (some (z9f (false)))) (some (z9f (true))))))))))))))):=by kernel_rfl
theorem z1xo (m:Nat) (r:Rel) (env:List Int) (_hr:WS .rel r) (_he:WL .int env) (hm:3*r.ht+1<m+1) (h:z2l env r.ht) (hk:z17k r) : z1ek m r env=some (z9f (z1hs r env)):=by
 have hh:htTs r.terms+1≤r.ht∧htAs r.aggs+1≤r.ht:=by cases r;grind [Rel.ht,Rel.terms_mk,Rel.aggs_mk]
 have o1:z2l env 1:=by grind [z2l]
 have o2:z2l (zbl r env) (htTs r.terms):=by grind [z2l,zbl,List.length_cons]
 have o3:z2l (zbl r env) (htAs r.aggs):=by grind [z2l,zbl,List.length_cons]
 have t1:zib m r env=some (z9f (z55 r.terms (z97 r::env))):=by
  unfold zib;simp only[Rel.ids_eq];rw[z6 (by omega),z6 o2];rfl
 rw[z26n,z6 o1];unfold zz4 zpc;simp only[zu5,Rel.ids_eq,zah];simp only[z8,y1i,beq_iff_eq,decide_eq_true_eq];show _=some (z9f (zec r env));unfold zec;by_cases h1 : r.op=1
 ·grind
 rw[if_neg h1,if_neg h1];by_cases h2 : r.op=2
 ·grind
 rw[if_neg h2,if_neg h2];by_cases h3 : r.op=3∨r.op=6
 ·by_cases hl : r.terms.length=1
  all_goals grind
 rw[if_neg (by omega),if_neg h3];by_cases h4 : r.op=4
 ·grind
 rw[if_neg h4,if_neg h4];by_cases h5 : r.op=5
 ·grind
 rw[if_neg h5,if_neg h5];by_cases h7 : r.op=7
 ·rw[if_pos h7,if_pos h7,z6 (by omega),z6 o2];have e:zcs r.terms (zbl r env)=z55 r.terms (z97 r::env):=rfl;rw[e];cases z55 r.terms (z97 r::env)
  ·rfl
  ·rw[if_pos rfl,z6 (by omega),z6 o3];rfl
 rw[if_neg h7,if_neg h7];by_cases h9 : r.op=9∨r.op=10∨r.op=11
 ·have:=hk h9;rw[if_pos (by omega),if_pos h9,z6 (by omega),z6 (by omega)]
 grind
theorem z21v (m:Nat) (hG:zks m) : FnOK 66 (zz2 (m+1)):=fnK2 zq z10 (M:=(z1ls m)) rfl ⟨z2ei,z26f,hG.2.1,hG.2.2.1,zft,z26h,trivial⟩ trivial trivial trivial trivial Tryz.func66 fun r env=>GiF.r fun w o=>z1xo m r env (wfA_ w 0) (wfA_ w 1) (obA_ o 0) (obA_ o 1) (obA_ o 2)
def zx0 (m:Nat) : Mc Un:=mcF_ [(59,z135),(65,z1ef),(33,zt7 m),(19,zer),(66,zz2 m)] [] [] [] []
def z17m : Nat→NS:=nsF_ [(4,{ ts:=bl 49 54,bs:=bl 49 4,nm:=[],cs:=true })] true
def z98 (r:Rel) (env:List Int) (v0:Int) : S Un:=(st 49 49 196 0 [(1,al .int env),(2,ax 2),(4,ab false),(5,ai v0)] [(2,bg .rel r)] [])
def ztb (m:Nat) : S Un→Option (EX Un):=lpF_ (zx0 m) z17m Tryz.f33 [1,1,0,1,2,2] 4
def zls (m:Nat) : Exit→S Un→Option (RF Un):=cxF_ (zx0 m) z17m Tryz.f33 [1,1,0,1,2] [.d]
def z1lt (m:Nat) (r:Rel) (env:List Int) : Option (RF Un):=fnF_ (zx0 m) z17m Tryz.f33 0 [.d] [.d (.agg (enc Ty.rel r)),.d (.v (.dat (U:=Un) Ty.int env))]
theorem z2at (m:Nat) (r:Rel) (env:List Int) : z1lt m r env=cndO (decide (zdx r.op<0)) (some (z9f (false))) (cndO ((↑r.kids.length:Int) != zdx r.op) (some (z9f (false))) (obO (zu8 (Rel.ids r)) (cndO (z3c (Rel.ids r)) (some (z9f (false))) ((ztb m (z98 r env (0:Int))).bind (zd (zls m)))))):=by kernel_rfl
theorem z1lu (m:Nat) (r:Rel) (env:List Int) (v0:Int) : ztb m (z98 r env v0)=cndO (decide (v0<(↑r.kids.length:Int))) (obO (0≤v0∧v0<(↑r.kids.length:Int)) (obO ((3:Nat)*(Rel.ids (r.kids.getD v0.toNat za)).ht+(2:Nat)<m) (obO (z2l env (Rel.ids (r.kids.getD v0.toNat za)).ht) (cndO (!z9x (Rel.ids (r.kids.getD v0.toNat za)) env) (some (.ret,(z98 r env v0))) (ztb m (z98 r env (IntKind.i64.wrap (v0+1)))))))) (some (.exit 0,(z98 r env v0))):=lpQ_ (by kernel_rfl)
theorem z1rl (m:Nat) (r:Rel) (env:List Int) (v0:Int) : zls m .ret (z98 r env v0)=some (z9f (false)):=by kernel_rfl
theorem z1xp (m:Nat) (r:Rel) (env:List Int) (v0:Int) : zls m (.exit 0) (z98 r env v0)=cndO ((↑r.cols.length:Int) == z2i (Rel.ids r)) (obO ((3:Nat)*(Rel.ids r).ht+(1:Nat)<m) (obO (z2l env (Rel.ids r).ht) (obO (z17k (Rel.ids r)) (some (z9f (z1hs (Rel.ids r) env)))))) (some (z9f (false))):=by kernel_rfl
theorem z2au (m:Nat) (r:Rel) (env:List Int) (hm:3*r.ht+2<m+1) (h:z2l env r.ht) (hk:z17k r) (i:Int) : zls m (.exit 0) (z98 r env i)=some (z9f (decide ((r.cols.length:Int)=z1y r) && zec r env)):=by
 rw[z1xp,z8];simp only[Rel.ids_eq,zah];by_cases h1 : (r.cols.length:Int)=z1y r
 ·rw[if_pos (by grind),z6 (by omega),z6 h,z6 hk,decide_eq_true h1,y18];rfl
 grind
theorem z21w (m:Nat) (r:Rel) (env:List Int) (_hr:WS .rel r) (_he:WL .int env) (hm:3*r.ht+2<m+1) (h:z2l env r.ht) : z1lt m r env=some (z9f (z9x r env)):=by
 have hkl:WL .rel r.kids:=_hr.rel_kids;have e:z9x r env=(z10i r && (r.kids.all (fun k=>z9x k env) && (decide ((r.cols.length:Int)=z1y r) && zec r env))):=by
  show zlq r env=_;rw[z21r,zt5,y3o,y3o];rfl
 rw[z2at,e];simp only[Rel.ids_eq,z8,decide_eq_true_eq,z1e3];unfold z10i;by_cases c1 : z3j r.op<0
 ·grind
 by_cases c2 : (r.kids.length:Int)=z3j r.op
 ·have hok:z17k r:=fun h9=>by
   have : z3j r.op=2:=by
    rcases h9 with h9 | h9 | h9<;>rw[h9]<;>rfl
   omega
  have lp:=z32 (L:=ztb m) (st:=fun i=>z98 r env i) (C:=zls m) (e:=.exit 0) (fun b=>some (z9f (b && (decide ((r.cols.length:Int)=z1y r) && zec r env)))) (d:=za) (fun k=>z9x k env) hkl.len
   (fun i x hi hx hmem=>by
    have hht:=Rel.ht_kid hmem;rw[z1lu];simp only[z8,hi,decide_true,if_true,and_true,y5,hx,Rel.ids_eq]
    grind [z6,z2l,z9x])
   (by rw[z1lu];simp [z8]) (fun i=>by rw[z1rl,y1p]) (fun i=>by simp_all [z2au,y18])
  rw[if_neg (by grind),decide_eq_true c2,z6 (show zu8 r by grind [zu8]),lp];grind
 grind
theorem z26o (m:Nat) (hG:zks m) : FnOK 33 (zt7 (m+1)):=fnK2 zq z10 (M:=(zx0 m)) rfl ⟨z1e4,z21p,hG.2.2.2.2,zft,hG.2.2.2.1,trivial⟩ trivial trivial trivial trivial Tryz.func33 fun r env=>GiF.r fun w o=>z21w m r env (wfA_ w 0) (wfA_ w 1) (obA_ o 0) (obA_ o 1)
theorem z8u : ∀ m,zks m
 | 0=>⟨fnZ2,fnZ2,fnZ2,fnZ2,fnZ2⟩
 | m+1=>⟨z21s m (z8u m),z26l m (z8u m),z21u m (z8u m),z21v m (z8u m),z26o m (z8u m)⟩
def z1lv : FnC Un:=fnF2 (dS .term) (dL .int) fun t env=>([z2l env t.ht],z9f (z7h t env))
theorem z26p : FnOK 18 z1lv:=fnA2 fun m=>(z8u m).1
def z1ve : FnC Un:=fnF2 (dS .rel) (dL .int) fun r env=>([z2l env r.ht],z9f (z9x r env))
theorem z2av : FnOK 33 z1ve:=fnA2 fun m=>(z8u m).2.2.2.2
end
end B
namespace B
open Go Go.RowKit
set_option maxRecDepth 100000
noncomputable section
attribute [local irreducible] awp ctxK zu z1d retQ z1p awf ctxF z1o
def zrx (r:List Term) : RF Un:=([.c (.sl (U:=Un) Ty.term r false)],[])
def zry : Nat→NS:=nsF_ [(3,{ ts:=bl 25 26,bs:=bl 25 2,nm:=[(.sl 3,100)],cs:=true })] true
def z9y (r:Rel) (v0:Int) (v1:List Term) : S Un:=(st 25 25 101 0 [(1,ax 1),(3,ao 100),(4,ai v0)] [(1,bg .rel r)] [(100,some ⟨(0:Nat),Ty.term,v1,some (0:Nat),true⟩)])
def zgz : S Un→Option (EX Un):=lpF_ z1du zry Tryz.f75 [1,1,0,1,2,2] 3
def z10k : Exit→S Un→Option (RF Un):=cxF_ z1du zry Tryz.f75 [1,1,0,1,2] [.d]
def z10l (r:Rel) : Option (RF Un):=fnF_ z1du zry Tryz.f75 1 [.d] [.d (.agg (enc Ty.rel r))]
theorem z1rm (r:Rel) : z10l r=obO ((0+r.terms.length)*(128:Nat)≤zi) ((zgz (z9y r (0:Int) r.terms)).bind (zd z10k)):=by kernel_rfl
theorem z10m (r:Rel) (v0:Int) (v1:List Term) : zgz (z9y r v0 v1)=cndO (decide (v0<(↑r.aggs.length:Int))) (obO (0≤v0∧v0<(↑r.aggs.length:Int)) (obO ((v1.length+(Agg.t (r.aggs.getD v0.toNat zp)).length)*(128:Nat)≤zi) (zgz (z9y r (IntKind.i64.wrap (v0+1)) (v1++Agg.t (r.aggs.getD v0.toNat zp)))))) (some (.exit 0,(z9y r v0 v1))):=lpQ_ (by kernel_rfl)
theorem z1cn (r:Rel) (v0:Int) (v1:List Term) : z10k (.exit 0) (z9y r v0 v1)=some (zrx (v1)):=by kernel_rfl
def z7t : List Agg→List Term
 | []=>[]
 | a::l=>a.t++z7t l
theorem z1lw : ∀ (l:List Agg) (n:List Term),l.foldl (fun n a=>n++a.t) n=n++z7t l
 | [],n=>by simp [z7t]
 | a::l,n=>by rw[yr,z1lw l,z7t,y12]
theorem z17n : ∀ l : List Agg,szTs (z7t l)≤szAs l
 | []=>y6 _
 | a::l=>by
  have:=z17n l;have h:=a.sz_eq;grind [z7t,zyr,szAs]
theorem z1vf : ∀ l : List Agg,htTs (z7t l)≤htAs l
 | []=>y6 _
 | .mk n d t::l=>by
  have:=z1vf l;have h:∀ a b : List Term,htTs (a++b)=max (htTs a) (htTs b):=fun a b=>by
   induction a with
   | nil=>rfl
   | cons x a ih=>simp_all [y15,htTs]
  grind [z7t,htAs,Agg.ht,Agg.t_mk]
def z11 (r:Rel) : List Term:=r.terms++z7t r.aggs
theorem zpd (r:Rel) : (z11 r).length≤r.sz:=by
 have h:=z62 (z11 r);have h2:=z17n r.aggs;have h3:=r.sz_eq;grind [z11,zyr]
theorem z9g {r:Rel} {t:Term} (h:t∈z11 r) : t.ht<r.ht∧t.sz<r.sz:=by
 have h2:=z17n r.aggs;have h3:=r.sz_eq;have h4:=z1vf r.aggs;have h5:htTs r.terms<r.ht∧htAs r.aggs<r.ht:=by cases r;grind [Rel.ht,Rel.terms_mk,Rel.aggs_mk]
 rcases yd.1 h with h | h
 ·exact⟨by have:=zc6 h;omega,by have:=zka h;omega⟩
 ·exact⟨by have:=zc6 h;omega,by have:=zka h;omega⟩
theorem z1ht (r:Rel) (hr:WS .rel r) (h:r.sz≤2000000) : z10l r=some (zrx (z11 r)):=by
 have h3:=r.sz_eq;have hl:=z62 r.terms
 obtain⟨lp,_⟩:=z1q (e:=.exit 0) (L:=zgz) (st:=fun (n:List Term) i=>z9y r i n) (l:=r.aggs) (d:=zp) (g:=fun n a=>n++a.t) (fun i n=>n.length+szAs (r.aggs.drop i)≤2000000) (hr.rel_aggs).len
  (fun n i a hi ha hI=>by
   have hd:=zkq (d:=zp) (show i<r.aggs.length by omega);rw[hd,ha] at hI;simp only[szAs] at hI;have h1:=a.sz_eq;have h2:=z62 a.t;rw[z10m];simp only[z8,hi,decide_true,if_true,and_true,y5,ha]
   grind [z6,zi])
  (fun n _=>by rw[z10m];simp [z8]) r.terms (by grind)
 rw[z1lw] at lp;rw[z1rm,z6 (by grind [zi])];refine (zg lp).trans ?_;rw[z1cn];rfl
def zrz : FnC Un:=fnF1 (dS .rel) fun r=>([r.sz≤2000000],zrx (z11 r))
theorem z10n : FnOK 75 zrz:=fnK1 zq (M:=z1du) rfl trivial trivial trivial trivial trivial Tryz.func75 fun r=>GiF.r fun w o=>z1ht r (wfA_ w 0) (obA_ o 0)
def capI (n x:Int) : Int:=List.foldl (fun a b=>if b<a then b else a) (IntKind.i64.wrap (n+x)) [(1048576:Int)]
def maxI (n x:Int) : Int:=List.foldl (fun a b=>if a<b then b else a) n [x]
mutual
def zlt : Term→Int
 | .mk op _ _ _ _ kids sub _=>zfw (zet (if op=2 then 1 else 0) kids) sub
def zet : Int→List Term→Int
 | n,[]=>n
 | n,t::l=>zet (capI n (zlt t)) l
def z2ej : Int→Agg→Int
 | n,.mk _ _ t=>zet n t
def z1bt : Int→List Agg→Int
 | n,[]=>n
 | n,a::l=>z1bt (z2ej n a) l
def zu9 : Rel→Int
 | .mk _ _ _ kids terms aggs _ _ _ _ _=>z1bt (zet (zfw 0 kids) terms) aggs
def zfw : Int→List Rel→Int
 | n,[]=>n
 | n,r::l=>zfw (capI n (zu9 r)) l
end
theorem z6p : ∀ (l:List Term) (n:Int),l.foldl (fun n t=>capI n (zlt t)) n=zet n l
 | [],n=>by rfl
 | t::l,n=>by rw[yr,z6p l,zet]
theorem zs0 : ∀ (l:List Rel) (n:Int),l.foldl (fun n t=>capI n (zu9 t)) n=zfw n l
 | [],n=>by rfl
 | t::l,n=>by rw[yr,zs0 l,zfw]
theorem z17o : ∀ (l:List Agg) (n:Int),zet n (z7t l)=z1bt n l
 | [],n=>by rfl
 | .mk a b t::l,n=>by
  rw[z7t,z1bt,← z17o l,← z6p,y2g,z6p,z6p,z2ej,Agg.t_mk]
theorem z2ek (t:Term) : zlt t=zfw (zet (if t.op=2 then 1 else 0) t.kids) t.sub:=by cases t;rfl
theorem z2aw (r:Rel) : zu9 r=zet (zfw 0 r.kids) (z11 r):=by
 unfold z11;rw[← z6p,y2g,z6p,z6p,z17o];cases r;rfl
def zfx (t:Term) : Int:=zlt t
def zlu (r:Rel) : Int:=zu9 r
theorem zlv {t k:Term} (h:k∈t.kids) : k.sz<t.sz:=by have:=zka h;have:=t.sz_eq;omega
theorem zlw {t:Term} {k:Rel} (h:k∈t.sub) : k.sz<t.sz:=by have:=z1hh h;have:=t.sz_eq;omega
theorem z9z {t k:Rel} (h:k∈t.kids) : k.sz<t.sz:=by have:=z1hh h;have:=t.sz_eq;omega
def zlx (m:Nat) : FnC Un:=fnF1 (dS .term) fun t=>z2m (2*t.ht) m ([t.sz≤2000000],z2f (zfx t))
def zj5 (m:Nat) : FnC Un:=fnF1 (dS .rel) fun r=>z2m (2*r.ht+1) m ([r.sz≤2000000],z2f (zlu r))
def zeu (m:Nat) : Mc Un:=mcF_ [(76,zlx m),(133,zj5 m)] [] [] [] []
def zic : Nat→NS:=nsF_ [(5,{ ts:=bl 42 26,bs:=bl 42 2,nm:=[],cs:=true }),(9,{ ts:=bl 42 42,bs:=bl 42 2,nm:=[],cs:=true })] true
def z82 (t:Term) (v0:Int) (v1:Int) : S Un:=(st 42 42 168 0 [(1,ax 1),(3,ai v0),(4,ai v1)] [(1,bg .term t)] [])
def zct (t:Term) (v0:Int) (v2:Int) : S Un:=(st 42 42 168 0 [(1,ax 1),(3,ai v0),(5,ai v2)] [(1,bg .term t)] [])
def zcu (m:Nat) : S Un→Option (EX Un):=lpF_ (zeu m) zic Tryz.f76 [1,1,1,0,1,2,2] 5
def zly (m:Nat) : S Un→Option (EX Un):=lpF_ (zeu m) zic Tryz.f76 [1,1,1,1,0,1,2,2] 9
def zlz (m:Nat) : Exit→S Un→Option (RF Un):=cxF_ (zeu m) zic Tryz.f76 [1,1,1,0,1,2] [.d]
def z17p (m:Nat) : Exit→S Un→Option (RF Un):=cxF_ (zeu m) zic Tryz.f76 [1,1,1,1,0,1,2] [.d]
def zv7 (m:Nat) (t:Term) : Option (RF Un):=fnF_ (zeu m) zic Tryz.f76 0 [.d] [.d (.agg (enc Ty.term t))]
theorem z21x (m:Nat) (t:Term) : zv7 m t=cndO (t.op == 2) ((zcu m (z82 t (1:Int) (0:Int))).bind (zd (zlz m))) ((zcu m (z82 t (0:Int) (0:Int))).bind (zd (zlz m))):=by kernel_rfl
theorem z17q (m:Nat) (t:Term) (v0:Int) (v1:Int) : zcu m (z82 t v0 v1)=cndO (decide (v1<(↑t.kids.length:Int))) (obO (0≤v1∧v1<(↑t.kids.length:Int)) (obO ((2:Nat)*(Term.ids (t.kids.getD v1.toNat zb)).ht<m) (obO ((Term.ids (t.kids.getD v1.toNat zb)).sz≤(2000000:Nat)) (zcu m (z82 t (List.foldl (fun a b=>if b<a then b else a) (IntKind.i64.wrap (v0+zfx (Term.ids (t.kids.getD v1.toNat zb)))) [(1048576:Int)]) (IntKind.i64.wrap (v1+1))))))) (some (.exit 0,(z82 t v0 v1))):=lpQ_ (by kernel_rfl)
theorem z1lx (m:Nat) (t:Term) (v0:Int) (v1:Int) : zlz m (.exit 0) (z82 t v0 v1)=(zly m (zct t v0 (0:Int))).bind (zd (z17p m)):=by kernel_rfl
theorem z17r (m:Nat) (t:Term) (v0:Int) (v2:Int) : zly m (zct t v0 v2)=cndO (decide (v2<(↑t.sub.length:Int))) (obO (0≤v2∧v2<(↑t.sub.length:Int)) (obO ((2:Nat)*(Rel.ids (t.sub.getD v2.toNat za)).ht+(1:Nat)<m) (obO ((Rel.ids (t.sub.getD v2.toNat za)).sz≤(2000000:Nat)) (zly m (zct t (List.foldl (fun a b=>if b<a then b else a) (IntKind.i64.wrap (v0+zlu (Rel.ids (t.sub.getD v2.toNat za)))) [(1048576:Int)]) (IntKind.i64.wrap (v2+1))))))) (some (.exit 2,(zct t v0 v2))):=lpQ_ (by kernel_rfl)
theorem z1ly (m:Nat) (t:Term) (v0:Int) (v2:Int) : z17p m (.exit 2) (zct t v0 v2)=some (z2f (v0)):=by kernel_rfl
theorem z1rn (m:Nat) (t:Term) (ht:WS .term t) (hm:2*t.ht<m+1) (h:t.sz≤2000000) : zv7 m t=some (z2f (zfx t)):=by
 obtain⟨lp,_⟩:=z1q (e:=.exit 0) (L:=zcu m) (st:=fun (n:Int) i=>z82 t n i) (l:=t.kids) (d:=zb) (g:=fun n k=>capI n (zlt k)) (fun _ _=>True) (ht.term_kids).len
  (fun n i k hi hk _=>by
   have hmem:k∈t.kids:=by grind
   have h1:=Term.ht_kid hmem;have h2:=zlv hmem;refine⟨trivial,?_⟩;rw[z17q];simp only[z8,hi,decide_true,if_true,and_true,y5,hk,Term.ids_eq];rw[z6 (by omega),z6 (by omega),z6 (by omega)]
   rfl)
  (fun n _=>by rw[z17q];simp [z8]) (if t.op=2 then 1 else 0) trivial
 rw[z6p] at lp
 obtain⟨lq,_⟩:=z1q (e:=.exit 2) (L:=zly m) (st:=fun (n:Int) i=>zct t n i) (l:=t.sub) (d:=za) (g:=fun n k=>capI n (zu9 k)) (fun _ _=>True) (ht.term_sub).len
  (fun n i k hi hk _=>by
   have hmem:k∈t.sub:=by grind
   have h1:=Term.ht_sub hmem;have h2:=zlw hmem;refine⟨trivial,?_⟩;rw[z17r];simp only[z8,hi,decide_true,if_true,and_true,y5,hk,Rel.ids_eq];rw[z6 (by omega),z6 (by omega),z6 (by omega)]
   rfl)
  (fun n _=>by rw[z17r];simp [z8]) (zet (if t.op=2 then 1 else 0) t.kids) trivial
 rw[zs0] at lq;have e:zv7 m t=(zcu m (z82 t (if t.op=2 then 1 else 0) (0:Int))).bind (zd (zlz m)):=by
  rw[z21x,z8];grind
 grind [zg,trans,z1lx,z1ly,zfx,z2ek]
abbrev z1hu (m:Nat) : Prop:=FnOK 76 (zlx m)∧FnOK 133 (zj5 m)
theorem z1xq (m:Nat) (hG:z1hu m) : FnOK 76 (zlx (m+1)):=fnK1 zq (M:=(zeu m)) rfl ⟨hG.1,hG.2,trivial⟩ trivial trivial trivial trivial Tryz.func76 fun t=>GiF.r fun w o=>z1rn m t (wfA_ w 0) (obA_ o 0) (obA_ o 1)
def zcv (m:Nat) : Mc Un:=mcF_ [(133,zj5 m),(75,zrz),(76,zlx m)] [] [] [] []
def zfy : Nat→NS:=nsF_ [(3,{ ts:=bl 40 26,bs:=bl 40 2,nm:=[],cs:=true }),(8,{ ts:=bl 40 104,bs:=bl 40 0,nm:=[],cs:=true })] true
def zay (r:Rel) (v0:Int) (v1:Int) : S Un:=(st 40 40 160 0 [(1,ax 1),(3,ai v0),(4,ai v1)] [(1,bg .rel r)] [])
def zaz (r:Rel) (v0:Int) (v2:Int) : S Un:=(st 40 40 160 0 [(3,ai v0),(5,al .term (z11 (Rel.ids r))),(6,ai v2)] [] [])
def zj6 (m:Nat) : S Un→Option (EX Un):=lpF_ (zcv m) zfy Tryz.f133 [1,1,0,1,2,2] 3
def zj7 (m:Nat) : S Un→Option (EX Un):=lpF_ (zcv m) zfy Tryz.f133 [1,1,1,1,0,1,2,2] 8
def z14n (m:Nat) : Exit→S Un→Option (RF Un):=cxF_ (zcv m) zfy Tryz.f133 [1,1,0,1,2] [.d]
def z14o (m:Nat) : Exit→S Un→Option (RF Un):=cxF_ (zcv m) zfy Tryz.f133 [1,1,1,1,0,1,2] [.d]
def z14p (m:Nat) (r:Rel) : Option (RF Un):=fnF_ (zcv m) zfy Tryz.f133 0 [.d] [.d (.agg (enc Ty.rel r))]
theorem z1xr (m:Nat) (r:Rel) : z14p m r=(zj6 m (zay r (0:Int) (0:Int))).bind (zd (z14n m)):=by kernel_rfl
theorem z14q (m:Nat) (r:Rel) (v0:Int) (v1:Int) : zj6 m (zay r v0 v1)=cndO (decide (v1<(↑r.kids.length:Int))) (obO (0≤v1∧v1<(↑r.kids.length:Int)) (obO ((2:Nat)*(Rel.ids (r.kids.getD v1.toNat za)).ht+(1:Nat)<m) (obO ((Rel.ids (r.kids.getD v1.toNat za)).sz≤(2000000:Nat)) (zj6 m (zay r (List.foldl (fun a b=>if b<a then b else a) (IntKind.i64.wrap (v0+zlu (Rel.ids (r.kids.getD v1.toNat za)))) [(1048576:Int)]) (IntKind.i64.wrap (v1+1))))))) (some (.exit 0,(zay r v0 v1))):=lpQ_ (by kernel_rfl)
theorem z1hv (m:Nat) (r:Rel) (v0:Int) (v1:Int) : z14n m (.exit 0) (zay r v0 v1)=obO ((Rel.ids r).sz≤(2000000:Nat)) ((zj7 m (zaz r v0 (0:Int))).bind (zd (z14o m))):=by kernel_rfl
theorem z14r (m:Nat) (r:Rel) (v0:Int) (v2:Int) : zj7 m (zaz r v0 v2)=cndO (decide (v2<(↑(z11 (Rel.ids r)).length:Int))) (obO (0≤v2∧v2<(↑(z11 (Rel.ids r)).length:Int)) (obO ((2:Nat)*(Term.ids ((z11 (Rel.ids r)).getD v2.toNat zb)).ht<m) (obO ((Term.ids ((z11 (Rel.ids r)).getD v2.toNat zb)).sz≤(2000000:Nat)) (zj7 m (zaz r (List.foldl (fun a b=>if b<a then b else a) (IntKind.i64.wrap (v0+zfx (Term.ids ((z11 (Rel.ids r)).getD v2.toNat zb)))) [(1048576:Int)]) (IntKind.i64.wrap (v2+1))))))) (some (.exit 2,(zaz r v0 v2))):=lpQ_ (by kernel_rfl)
theorem z1hw (m:Nat) (r:Rel) (v0:Int) (v2:Int) : z14o m (.exit 2) (zaz r v0 v2)=some (z2f (v0)):=by kernel_rfl
theorem z1lz (m:Nat) (r:Rel) (hr:WS .rel r) (hm:2*r.ht+1<m+1) (h:r.sz≤2000000) : z14p m r=some (z2f (zlu r)):=by
 obtain⟨lp,_⟩:=z1q (e:=.exit 0) (L:=zj6 m) (st:=fun (n:Int) i=>zay r n i) (l:=r.kids) (d:=za) (g:=fun n k=>capI n (zu9 k)) (fun _ _=>True) (hr.rel_kids).len
  (fun n i k hi hk _=>by
   have hmem:k∈r.kids:=by grind
   have h1:=Rel.ht_kid hmem;have h2:=z9z hmem;refine⟨trivial,?_⟩;rw[z14q];simp only[z8,hi,decide_true,if_true,and_true,y5,hk,Rel.ids_eq];rw[z6 (by omega),z6 (by omega),z6 (by omega)]
   rfl)
  (fun n _=>by rw[z14q];simp [z8]) 0 trivial
 rw[zs0] at lp;have hlen:=zpd r
 obtain⟨lq,_⟩:=z1q (e:=.exit 2) (L:=zj7 m) (st:=fun (n:Int) i=>zaz r n i) (l:=z11 r) (d:=zb) (g:=fun n k=>capI n (zlt k)) (fun _ _=>True) (by omega)
  (fun n i k hi hk _=>by
   have hmem:k∈z11 r:=by grind
   obtain⟨h1,h2⟩:=z9g hmem;refine⟨trivial,?_⟩;rw[z14r];simp only[Rel.ids_eq,z8,hi,decide_true,if_true,and_true,y5,hk,Term.ids_eq];rw[z6 (by omega),z6 (by omega),z6 (by omega)]
   rfl)
  (fun n _=>by rw[z14r];simp [z8,Rel.ids_eq]) (zfw 0 r.kids) trivial
 rw[z6p] at lq;rw[z1xr];refine (zg lp).trans ?_;rw[z1hv,Rel.ids_eq,z6 h];grind [zg,trans,z1hw,zlu,z2aw]
theorem z1ro (m:Nat) (hG:z1hu m) : FnOK 133 (zj5 (m+1)):=fnK1 zq (M:=(zcv m)) rfl ⟨hG.2,z10n,hG.1,trivial⟩ trivial trivial trivial trivial Tryz.func133 fun r=>GiF.r fun w o=>z1lz m r (wfA_ w 0) (obA_ o 0) (obA_ o 1)
theorem zv8 : ∀ m,z1hu m
 | 0=>⟨fnZ1,fnZ1⟩
 | m+1=>⟨z1xq m (zv8 m),z1ro m (zv8 m)⟩
def z1el : FnC Un:=fnF1 (dS .term) fun t=>([t.sz≤2000000],z2f (zfx t))
theorem z21y : FnOK 76 z1el:=fnA1 fun m=>(zv8 m).1
def z2ax (n:Int) (l:List Term) : Int:=l.foldl (fun n t=>maxI n (zlt t)) n
def z2ay (op n most:Int) : Int:=if op=4∨op=7 then List.foldl (fun a b=>if b<a then b else a) (IntKind.i64.wrap (n*List.foldl (fun a b=>if b<a then b else a) most [(1048576:Int)])) [(1048576:Int)] else n
mutual
def z13d : Term→Int
 | .mk _ _ _ _ _ kids sub _=>zr6 (zid 1 kids) sub
def zid : Int→List Term→Int
 | n,[]=>n
 | n,t::l=>zid (maxI n (z13d t)) l
def z2k3 : Int→Agg→Int
 | n,.mk _ _ t=>zid n t
def z1m0 : Int→List Agg→Int
 | n,[]=>n
 | n,a::l=>z1m0 (z2k3 n a) l
def z1bu : Rel→Int
 | .mk op _ _ kids terms aggs _ _ _ _ _=>z2ay op (z1m0 (zid (zr6 1 kids) terms) aggs) (z2ax 1 (terms++z7t aggs))
def zr6 : Int→List Rel→Int
 | n,[]=>n
 | n,r::l=>zr6 (maxI n (z1bu r)) l
end
theorem z7u : ∀ (l:List Term) (n:Int),l.foldl (fun n t=>maxI n (z13d t)) n=zid n l
 | [],n=>by rfl
 | t::l,n=>by rw[yr,z7u l,zid]
theorem zz5 : ∀ (l:List Rel) (n:Int),l.foldl (fun n t=>maxI n (z1bu t)) n=zr6 n l
 | [],n=>by rfl
 | t::l,n=>by rw[yr,zz5 l,zr6]
theorem z1em : ∀ (l:List Agg) (n:Int),zid n (z7t l)=z1m0 n l
 | [],n=>by rfl
 | .mk a b t::l,n=>by
  rw[z7t,z1m0,← z1em l,← z7u,y2g,z7u,z7u,z2k3,Agg.t_mk]
theorem z2i7 (t:Term) : z13d t=zr6 (zid 1 t.kids) t.sub:=by cases t;rfl
theorem z2i8 (r:Rel) : z1bu r=z2ay r.op (zid (zr6 1 r.kids) (z11 r)) (z2ax 1 (z11 r)):=by
 unfold z11;rw[← z7u,y2g,z7u,z7u,z1em];cases r;rfl
theorem z1vg {α:Type} (f g:Int→α→Int) : ∀ (l:List α) (a b:Int),l.foldl (fun (p:Int×Int) x=>(f p.1 x,g p.2 x)) (a,b)=(l.foldl f a,l.foldl g b)
 | [],_,_=>rfl
 | x::l,a,b=>by rw[yr,z1vg f g l];rfl
def zie (t:Term) : Int:=z13d t
def zdo (r:Rel) : Int:=z1bu r
def zh0 (m:Nat) : FnC Un:=fnF1 (dS .term) fun t=>z2m (2*t.ht) m ([t.sz≤2000000],z2f (zie t))
def zm0 (m:Nat) : FnC Un:=fnF1 (dS .rel) fun r=>z2m (2*r.ht+1) m ([r.sz≤2000000],z2f (zdo r))
def zb0 (m:Nat) : Mc Un:=mcF_ [(77,zh0 m),(40,zm0 m)] [] [] [] []
def zed : Nat→NS:=nsF_ [(3,{ ts:=bl 37 26,bs:=bl 37 2,nm:=[],cs:=true }),(7,{ ts:=bl 37 42,bs:=bl 37 2,nm:=[],cs:=true })] true
def za0 (t:Term) (v0:Int) (v1:Int) : S Un:=(st 37 37 148 0 [(1,ax 1),(3,ai v0),(4,ai v1)] [(1,bg .term t)] [])
def za1 (t:Term) (v0:Int) (v2:Int) : S Un:=(st 37 37 148 0 [(1,ax 1),(3,ai v0),(5,ai v2)] [(1,bg .term t)] [])
def zh1 (m:Nat) : S Un→Option (EX Un):=lpF_ (zb0 m) zed Tryz.f77 [1,1,0,1,2,2] 3
def zh2 (m:Nat) : S Un→Option (EX Un):=lpF_ (zb0 m) zed Tryz.f77 [1,1,1,0,1,2,2] 7
def z10o (m:Nat) : Exit→S Un→Option (RF Un):=cxF_ (zb0 m) zed Tryz.f77 [1,1,0,1,2] [.d]
def z10p (m:Nat) : Exit→S Un→Option (RF Un):=cxF_ (zb0 m) zed Tryz.f77 [1,1,1,0,1,2] [.d]
def z10q (m:Nat) (t:Term) : Option (RF Un):=fnF_ (zb0 m) zed Tryz.f77 0 [.d] [.d (.agg (enc Ty.term t))]
theorem z1rp (m:Nat) (t:Term) : z10q m t=(zh1 m (za0 t (1:Int) (0:Int))).bind (zd (z10o m)):=by kernel_rfl
theorem z10r (m:Nat) (t:Term) (v0:Int) (v1:Int) : zh1 m (za0 t v0 v1)=cndO (decide (v1<(↑t.kids.length:Int))) (obO (0≤v1∧v1<(↑t.kids.length:Int)) (obO ((2:Nat)*(Term.ids (t.kids.getD v1.toNat zb)).ht<m) (obO ((Term.ids (t.kids.getD v1.toNat zb)).sz≤(2000000:Nat)) (zh1 m (za0 t (List.foldl (fun a b=>if a<b then b else a) v0 [zie (Term.ids (t.kids.getD v1.toNat zb))]) (IntKind.i64.wrap (v1+1))))))) (some (.exit 0,(za0 t v0 v1))):=lpQ_ (by kernel_rfl)
theorem z1co (m:Nat) (t:Term) (v0:Int) (v1:Int) : z10o m (.exit 0) (za0 t v0 v1)=(zh2 m (za1 t v0 (0:Int))).bind (zd (z10p m)):=by kernel_rfl
theorem z10s (m:Nat) (t:Term) (v0:Int) (v2:Int) : zh2 m (za1 t v0 v2)=cndO (decide (v2<(↑t.sub.length:Int))) (obO (0≤v2∧v2<(↑t.sub.length:Int)) (obO ((2:Nat)*(Rel.ids (t.sub.getD v2.toNat za)).ht+(1:Nat)<m) (obO ((Rel.ids (t.sub.getD v2.toNat za)).sz≤(2000000:Nat)) (zh2 m (za1 t (List.foldl (fun a b=>if a<b then b else a) v0 [zdo (Rel.ids (t.sub.getD v2.toNat za))]) (IntKind.i64.wrap (v2+1))))))) (some (.exit 2,(za1 t v0 v2))):=lpQ_ (by kernel_rfl)
theorem z1cp (m:Nat) (t:Term) (v0:Int) (v2:Int) : z10p m (.exit 2) (za1 t v0 v2)=some (z2f (v0)):=by kernel_rfl
theorem z1hx (m:Nat) (t:Term) (ht:WS .term t) (hm:2*t.ht<m+1) (h:t.sz≤2000000) : z10q m t=some (z2f (zie t)):=by
 obtain⟨lp,_⟩:=z1q (e:=.exit 0) (L:=zh1 m) (st:=fun (n:Int) i=>za0 t n i) (l:=t.kids) (d:=zb) (g:=fun n k=>maxI n (z13d k)) (fun _ _=>True) (ht.term_kids).len
  (fun n i k hi hk _=>by
   have hmem:k∈t.kids:=by grind
   have h1:=Term.ht_kid hmem;have h2:=zlv hmem;refine⟨trivial,?_⟩;rw[z10r];simp only[z8,hi,decide_true,if_true,and_true,y5,hk,Term.ids_eq];rw[z6 (by omega),z6 (by omega),z6 (by omega)]
   rfl)
  (fun n _=>by rw[z10r];simp [z8]) 1 trivial
 rw[z7u] at lp
 obtain⟨lq,_⟩:=z1q (e:=.exit 2) (L:=zh2 m) (st:=fun (n:Int) i=>za1 t n i) (l:=t.sub) (d:=za) (g:=fun n k=>maxI n (z1bu k)) (fun _ _=>True) (ht.term_sub).len
  (fun n i k hi hk _=>by
   have hmem:k∈t.sub:=by grind
   have h1:=Term.ht_sub hmem;have h2:=zlw hmem;refine⟨trivial,?_⟩;rw[z10s];simp only[z8,hi,decide_true,if_true,and_true,y5,hk,Rel.ids_eq];rw[z6 (by omega),z6 (by omega),z6 (by omega)]
   rfl)
  (fun n _=>by rw[z10s];simp [z8]) (zid 1 t.kids) trivial
 rw[zz5] at lq;rw[z1rp];grind [zg,trans,z1co,z1cp,zie,z2i7]
abbrev z1hy (m:Nat) : Prop:=FnOK 77 (zh0 m)∧FnOK 40 (zm0 m)
theorem z1m1 (m:Nat) (hG:z1hy m) : FnOK 77 (zh0 (m+1)):=fnK1 zq (M:=(zb0 m)) rfl ⟨hG.1,hG.2,trivial⟩ trivial trivial trivial trivial Tryz.func77 fun t=>GiF.r fun w o=>z1hx m t (wfA_ w 0) (obA_ o 0) (obA_ o 1)
def zew (m:Nat) : Mc Un:=mcF_ [(40,zm0 m),(75,zrz),(76,z1el),(77,zh0 m)] [] [] [] []
def zif : Nat→NS:=nsF_ [(3,{ ts:=bl 59 58,bs:=bl 59 2,nm:=[],cs:=true }),(8,{ ts:=bl 59 218,bs:=bl 59 2,nm:=[],cs:=true })] true
def z5h (r:Rel):=z11 (Rel.mk r.op r.table r.cols r.kids r.terms r.aggs r.keys r.limit r.skip r.all r.rows)
def zcw (r:Rel) (v0:Int) (v1:Int) : S Un:=(st 59 59 236 0 [(1,ax 1),(3,ai v0),(4,ai (1:Int)),(5,ai v1)] [(1,bg .rel r)] [])
def zcx (r:Rel) (v0:Int) (v2:Int) (v3:Int) : S Un:=(st 59 59 236 0 [(1,ax 1),(3,ai v0),(4,ai v2),(6,al .term (z5h r)),(7,ai v3)] [(1,bg .rel r)] [])
def zm1 (m:Nat) : S Un→Option (EX Un):=lpF_ (zew m) zif Tryz.f40 [1,1,0,1,2,2] 3
def zm2 (m:Nat) : S Un→Option (EX Un):=lpF_ (zew m) zif Tryz.f40 [1,1,1,1,0,1,2,2] 8
def z17s (m:Nat) : Exit→S Un→Option (RF Un):=cxF_ (zew m) zif Tryz.f40 [1,1,0,1,2] [.d]
def z17t (m:Nat) : Exit→S Un→Option (RF Un):=cxF_ (zew m) zif Tryz.f40 [1,1,1,1,0,1,2] [.d]
def z17u (m:Nat) (r:Rel) : Option (RF Un):=fnF_ (zew m) zif Tryz.f40 0 [.d] [.d (.agg (enc Ty.rel r))]
theorem z21z (m:Nat) (r:Rel) : z17u m r=(zm1 m (zcw r (1:Int) (0:Int))).bind (zd (z17s m)):=by kernel_rfl
theorem z17v (m:Nat) (r:Rel) (v0:Int) (v1:Int) : zm1 m (zcw r v0 v1)=cndO (decide (v1<(↑r.kids.length:Int))) (obO (0≤v1∧v1<(↑r.kids.length:Int)) (obO ((2:Nat)*(Rel.ids (r.kids.getD v1.toNat za)).ht+(1:Nat)<m) (obO ((Rel.ids (r.kids.getD v1.toNat za)).sz≤(2000000:Nat)) (zm1 m (zcw r (List.foldl (fun a b=>if a<b then b else a) v0 [zdo (Rel.ids (r.kids.getD v1.toNat za))]) (IntKind.i64.wrap (v1+1))))))) (some (.exit 0,(zcw r v0 v1))):=lpQ_ (by kernel_rfl)
theorem z1m2 (m:Nat) (r:Rel) (v0:Int) (v1:Int) : z17s m (.exit 0) (zcw r v0 v1)=obO ((Rel.ids r).sz≤(2000000:Nat)) ((zm2 m (zcx r v0 (1:Int) (0:Int))).bind (zd (z17t m))):=by kernel_rfl
theorem z17w (m:Nat) (r:Rel) (v0:Int) (v2:Int) (v3:Int) : zm2 m (zcx r v0 v2 v3)=cndO (decide (v3<(↑(z5h r).length:Int))) (obO (0≤v3∧v3<(↑(z5h r).length:Int)) (obO ((Term.ids ((z5h r).getD v3.toNat zb)).sz≤(2000000:Nat)) (obO (0≤v3∧v3<(↑(z5h r).length:Int)) (obO ((2:Nat)*(Term.ids ((z5h r).getD v3.toNat zb)).ht<m) (obO ((Term.ids ((z5h r).getD v3.toNat zb)).sz≤(2000000:Nat)) (zm2 m (zcx r (List.foldl (fun a b=>if a<b then b else a) v0 [zie (Term.ids ((z5h r).getD v3.toNat zb))]) (List.foldl (fun a b=>if a<b then b else a) v2 [zfx (Term.ids ((z5h r).getD v3.toNat zb))]) (IntKind.i64.wrap (v3+1))))))))) (some (.exit 2,(zcx r v0 v2 v3))):=lpQ_ (by kernel_rfl)
theorem z1m3 (m:Nat) (r:Rel) (v0:Int) (v2:Int) (v3:Int) : z17t m (.exit 2) (zcx r v0 v2 v3)=cndO (r.op == 4) (some (z2f (List.foldl (fun a b=>if b<a then b else a) (IntKind.i64.wrap (v0*List.foldl (fun a b=>if b<a then b else a) v2 [(1048576:Int)])) [(1048576:Int)]))) (cndO (r.op == 7) (some (z2f (List.foldl (fun a b=>if b<a then b else a) (IntKind.i64.wrap (v0*List.foldl (fun a b=>if b<a then b else a) v2 [(1048576:Int)])) [(1048576:Int)]))) (some (z2f (v0)))):=by kernel_rfl
theorem z1rq (m:Nat) (r:Rel) (hr:WS .rel r) (hm:2*r.ht+1<m+1) (h:r.sz≤2000000) : z17u m r=some (z2f (zdo r)):=by
 obtain⟨lp,_⟩:=z1q (e:=.exit 0) (L:=zm1 m) (st:=fun (n:Int) i=>zcw r n i) (l:=r.kids) (d:=za) (g:=fun n k=>maxI n (z1bu k)) (fun _ _=>True) (hr.rel_kids).len
  (fun n i k hi hk _=>by
   have hmem:k∈r.kids:=by grind
   have h1:=Rel.ht_kid hmem;have h2:=z9z hmem;refine⟨trivial,?_⟩;rw[z17v];simp only[z8,hi,decide_true,if_true,and_true,y5,hk,Rel.ids_eq];rw[z6 (by omega),z6 (by omega),z6 (by omega)]
   rfl)
  (fun n _=>by rw[z17v];simp [z8]) 1 trivial
 rw[zz5] at lp;have hlen:=zpd r;have hc:z5h r=z11 r:=by rfl
 obtain⟨lq,_⟩:=z1q (e:=.exit 2) (L:=zm2 m) (st:=fun (n:Int×Int) i=>zcx r n.1 n.2 i) (l:=z11 r) (d:=zb) (g:=fun n k=>(maxI n.1 (z13d k),maxI n.2 (zlt k))) (fun _ _=>True) (by omega)
  (fun n i k hi hk _=>by
   have hmem:k∈z11 r:=by grind
   obtain⟨h1,h2⟩:=z9g hmem;refine⟨trivial,?_⟩;rw[z17w];simp only[hc,z8,hi,decide_true,if_true,and_true,y5,hk,Term.ids_eq];rw[z6 (by omega),z6 (by omega),z6 (by omega),z6 (by omega),z6 (by omega)]
   rfl)
  (fun n _=>by grind [z17w,z8]) (zr6 1 r.kids,1) trivial
 rw[z1vg (fun n k=>maxI n (z13d k)) (fun n k=>maxI n (zlt k)),z7u] at lq;rw[z21z];refine (zg lp).trans ?_;rw[z1m2,Rel.ids_eq,z6 h];refine (zg lq).trans ?_;rw[z1m3,zdo,z2i8];unfold z2ay z2ax;simp only[z8,beq_iff_eq];grind
theorem z1xs (m:Nat) (hG:z1hy m) : FnOK 40 (zm0 (m+1)):=fnK1 zq (M:=(zew m)) rfl ⟨hG.2,z10n,z21y,hG.1,trivial⟩ trivial trivial trivial trivial Tryz.func40 fun r=>GiF.r fun w o=>z1rq m r (wfA_ w 0) (obA_ o 0) (obA_ o 1)
theorem zv9 : ∀ m,z1hy m
 | 0=>⟨fnZ1,fnZ1⟩
 | m+1=>⟨z1m1 m (zv9 m),z1xs m (zv9 m)⟩
def z1en : FnC Un:=fnF1 (dS .rel) fun r=>([r.sz≤2000000],z2f (zdo r))
theorem z220 : FnOK 40 z1en:=fnA1 fun m=>(zv9 m).2
end
end B
end Go.Proofs.YtjfpbchdcbhfgaaGreat
