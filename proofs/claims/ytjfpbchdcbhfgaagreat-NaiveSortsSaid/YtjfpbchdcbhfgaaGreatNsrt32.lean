/- Part 32 of the proof: Sref15r. -/
import Derived.Test.YtjfpbchdcbhfgaaGreatNsrt31
namespace Go.Proofs.YtjfpbchdcbhfgaaGreat.B
open Go Go.RowKit
set_option maxRecDepth 100000
noncomputable section
attribute [local irreducible] awp ctxK z12 z1o retQ z2i awf ctxF zt
def ztn : Mc Un:=mach (tbl []) (tbl []) (tbl []) (tbl []) (tbl [])
def z17v (r:Bool) : List (A Un):=[.c (.s (.bool r))]
def z17w (_r:Bool) : List (Ob Un):=[]
def z6k (r:Bool) : RF Un:=(z17v r,z17w r)
def z17x : Nat→NS:=fun l=>(look l []).getD ⟨[],[],[],[],[],true⟩
def z3i (r:Rel) : Option (RF Un):=awf ztn z17x (z8 Tryz.f65) (zg Tryz.f65.ntmps 0 [.d (.agg (enc Ty.rel r))]) (retF ztn Tryz.f65.results.toList [.d])
def z3j (r:Rel) : Bool :=
 (!(r.op == 1) && !(r.table.toList == (ByteArray.mk #[]).toList)) || (!(r.op == 2) && decide (0<r.rows.length)) || (!(r.op == 3 || r.op == 4 || r.op == 5 || r.op == 6 || r.op == 7) && decide (0<r.terms.length)) ||
 (!(r.op == 7) && decide (0<r.aggs.length)) || (!(r.op == 12) && decide (0<r.keys.length)) || (!(r.op == 9 || r.op == 10 || r.op == 11) && r.all) || (!(r.op == 13) && (!(r.limit == 0) || !(r.skip == 0)))
theorem zoe {R:Bool→RF Un} (a p x:Bool) {X:Option (RF Un)} (h:X=some (R x)) : cndO a (cndO p (some (R true)) X) X=some (R ((a && p) || x)):=by subst h;cases a<;>cases p<;>cases x<;>rfl
def spX (g p:Bool) (X:Option (RF Un)) : Option (RF Un):=cndO g (cndO p (some (z6k true)) X) X
def spT (g1 g2 g3 g4 g5 g6 g7 tb rw_ tm ag ky al li sk:Bool) : Option (RF Un):=spX g1 tb (spX g2 rw_ (spX g3 tm (spX g4 ag (spX g5 ky (spX g6 al (cndO g7 (cndO li (some (z6k true)) (some (z6k sk))) (some (z6k false))))))))
theorem zbx (g1 g2 g3 g4 g5 g6 g7 tb rw_ tm ag ky al li sk:Bool) : spT g1 g2 g3 g4 g5 g6 g7 tb rw_ tm ag ky al li sk=some (z6k ((g1 && tb) || ((g2 && rw_) || ((g3 && tm) || ((g4 && ag) || ((g5 && ky) || ((g6 && al) || (g7 && (li || sk))))))))):=by
 have z:cndO g7 (cndO li (some (z6k true)) (some (z6k sk))) (some (z6k false))=some (z6k (g7 && (li || sk))):=by cases g7<;>cases li<;>rfl
 exact zoe _ _ _ (zoe _ _ _ (zoe _ _ _ (zoe _ _ _ (zoe _ _ _ (zoe _ _ _ z)))))
theorem z24q (table:ByteArray) (cols:List Col) (kids:List Rel) (terms:List Term) (aggs:List Agg) (keys:List By) (limit skip:Int) (all:Bool) (rows:List (List Val)) : z3i (.mk 1 table cols kids terms aggs keys limit skip all rows)=spT false true true true true true true (!(table.toList == (ByteArray.mk #[]).toList)) (decide ((rows.length:Int) > 0)) (decide ((terms.length:Int) > 0)) (decide ((aggs.length:Int) > 0)) (decide ((keys.length:Int) > 0)) all (limit != 0) (skip != 0):=by kernel_rfl
theorem z24r (table:ByteArray) (cols:List Col) (kids:List Rel) (terms:List Term) (aggs:List Agg) (keys:List By) (limit skip:Int) (all:Bool) (rows:List (List Val)) : z3i (.mk 2 table cols kids terms aggs keys limit skip all rows)=spT true false true true true true true (!(table.toList == (ByteArray.mk #[]).toList)) (decide ((rows.length:Int) > 0)) (decide ((terms.length:Int) > 0)) (decide ((aggs.length:Int) > 0)) (decide ((keys.length:Int) > 0)) all (limit != 0) (skip != 0):=by kernel_rfl
theorem z24s (table:ByteArray) (cols:List Col) (kids:List Rel) (terms:List Term) (aggs:List Agg) (keys:List By) (limit skip:Int) (all:Bool) (rows:List (List Val)) : z3i (.mk 3 table cols kids terms aggs keys limit skip all rows)=spT true true false true true true true (!(table.toList == (ByteArray.mk #[]).toList)) (decide ((rows.length:Int) > 0)) (decide ((terms.length:Int) > 0)) (decide ((aggs.length:Int) > 0)) (decide ((keys.length:Int) > 0)) all (limit != 0) (skip != 0):=by kernel_rfl
theorem z24t (table:ByteArray) (cols:List Col) (kids:List Rel) (terms:List Term) (aggs:List Agg) (keys:List By) (limit skip:Int) (all:Bool) (rows:List (List Val)) : z3i (.mk 4 table cols kids terms aggs keys limit skip all rows)=spT true true false true true true true (!(table.toList == (ByteArray.mk #[]).toList)) (decide ((rows.length:Int) > 0)) (decide ((terms.length:Int) > 0)) (decide ((aggs.length:Int) > 0)) (decide ((keys.length:Int) > 0)) all (limit != 0) (skip != 0):=by kernel_rfl
theorem z24u (table:ByteArray) (cols:List Col) (kids:List Rel) (terms:List Term) (aggs:List Agg) (keys:List By) (limit skip:Int) (all:Bool) (rows:List (List Val)) : z3i (.mk 5 table cols kids terms aggs keys limit skip all rows)=spT true true false true true true true (!(table.toList == (ByteArray.mk #[]).toList)) (decide ((rows.length:Int) > 0)) (decide ((terms.length:Int) > 0)) (decide ((aggs.length:Int) > 0)) (decide ((keys.length:Int) > 0)) all (limit != 0) (skip != 0):=by kernel_rfl
theorem z24v (table:ByteArray) (cols:List Col) (kids:List Rel) (terms:List Term) (aggs:List Agg) (keys:List By) (limit skip:Int) (all:Bool) (rows:List (List Val)) : z3i (.mk 6 table cols kids terms aggs keys limit skip all rows)=spT true true false true true true true (!(table.toList == (ByteArray.mk #[]).toList)) (decide ((rows.length:Int) > 0)) (decide ((terms.length:Int) > 0)) (decide ((aggs.length:Int) > 0)) (decide ((keys.length:Int) > 0)) all (limit != 0) (skip != 0):=by kernel_rfl
theorem z24w (table:ByteArray) (cols:List Col) (kids:List Rel) (terms:List Term) (aggs:List Agg) (keys:List By) (limit skip:Int) (all:Bool) (rows:List (List Val)) : z3i (.mk 7 table cols kids terms aggs keys limit skip all rows)=spT true true false false true true true (!(table.toList == (ByteArray.mk #[]).toList)) (decide ((rows.length:Int) > 0)) (decide ((terms.length:Int) > 0)) (decide ((aggs.length:Int) > 0)) (decide ((keys.length:Int) > 0)) all (limit != 0) (skip != 0):=by kernel_rfl
theorem z24x (table:ByteArray) (cols:List Col) (kids:List Rel) (terms:List Term) (aggs:List Agg) (keys:List By) (limit skip:Int) (all:Bool) (rows:List (List Val)) : z3i (.mk 8 table cols kids terms aggs keys limit skip all rows)=spT true true true true true true true (!(table.toList == (ByteArray.mk #[]).toList)) (decide ((rows.length:Int) > 0)) (decide ((terms.length:Int) > 0)) (decide ((aggs.length:Int) > 0)) (decide ((keys.length:Int) > 0)) all (limit != 0) (skip != 0):=by kernel_rfl
theorem z24y (table:ByteArray) (cols:List Col) (kids:List Rel) (terms:List Term) (aggs:List Agg) (keys:List By) (limit skip:Int) (all:Bool) (rows:List (List Val)) : z3i (.mk 9 table cols kids terms aggs keys limit skip all rows)=spT true true true true true false true (!(table.toList == (ByteArray.mk #[]).toList)) (decide ((rows.length:Int) > 0)) (decide ((terms.length:Int) > 0)) (decide ((aggs.length:Int) > 0)) (decide ((keys.length:Int) > 0)) all (limit != 0) (skip != 0):=by kernel_rfl
theorem z23y (table:ByteArray) (cols:List Col) (kids:List Rel) (terms:List Term) (aggs:List Agg) (keys:List By) (limit skip:Int) (all:Bool) (rows:List (List Val)) : z3i (.mk 10 table cols kids terms aggs keys limit skip all rows)=spT true true true true true false true (!(table.toList == (ByteArray.mk #[]).toList)) (decide ((rows.length:Int) > 0)) (decide ((terms.length:Int) > 0)) (decide ((aggs.length:Int) > 0)) (decide ((keys.length:Int) > 0)) all (limit != 0) (skip != 0):=by kernel_rfl
theorem z23z (table:ByteArray) (cols:List Col) (kids:List Rel) (terms:List Term) (aggs:List Agg) (keys:List By) (limit skip:Int) (all:Bool) (rows:List (List Val)) : z3i (.mk 11 table cols kids terms aggs keys limit skip all rows)=spT true true true true true false true (!(table.toList == (ByteArray.mk #[]).toList)) (decide ((rows.length:Int) > 0)) (decide ((terms.length:Int) > 0)) (decide ((aggs.length:Int) > 0)) (decide ((keys.length:Int) > 0)) all (limit != 0) (skip != 0):=by kernel_rfl
theorem z240 (table:ByteArray) (cols:List Col) (kids:List Rel) (terms:List Term) (aggs:List Agg) (keys:List By) (limit skip:Int) (all:Bool) (rows:List (List Val)) : z3i (.mk 12 table cols kids terms aggs keys limit skip all rows)=spT true true true true false true true (!(table.toList == (ByteArray.mk #[]).toList)) (decide ((rows.length:Int) > 0)) (decide ((terms.length:Int) > 0)) (decide ((aggs.length:Int) > 0)) (decide ((keys.length:Int) > 0)) all (limit != 0) (skip != 0):=by kernel_rfl
theorem z241 (table:ByteArray) (cols:List Col) (kids:List Rel) (terms:List Term) (aggs:List Agg) (keys:List By) (limit skip:Int) (all:Bool) (rows:List (List Val)) : z3i (.mk 13 table cols kids terms aggs keys limit skip all rows)=spT true true true true true true false (!(table.toList == (ByteArray.mk #[]).toList)) (decide ((rows.length:Int) > 0)) (decide ((terms.length:Int) > 0)) (decide ((aggs.length:Int) > 0)) (decide ((keys.length:Int) > 0)) all (limit != 0) (skip != 0):=by kernel_rfl
def zof (r:Rel) : Prop:=0≤z79 r.op
theorem z1ia (r:Rel) (_hr:WS .rel r) (h:zof r) : z3i r=some (z6k (z3j r)):=by
 have g:∀ n : Nat,decide ((n:Int) > 0)=decide (0<n):=fun n=>decide_eq_decide.2 (by omega)
 have hop:r.op=1∨r.op=2∨r.op=3∨r.op=4∨r.op=5∨r.op=6∨r.op=7∨r.op=8∨r.op=9∨r.op=10∨r.op=11∨r.op=12∨r.op=13:=by
  unfold zof z79 at h
  split at h
  ·omega
  ·split at h
   ·omega
   ·split at h<;>omega
 cases r with
 | mk op table cols kids terms aggs keys limit skip all rows =>
  simp only[Rel.op_mk] at hop
  rcases hop with rfl | rfl | rfl | rfl | rfl | rfl | rfl | rfl | rfl | rfl | rfl | rfl | rfl
  ·rw[z24q,zbx];unfold z3j;simp only[g,Rel.op_mk,Rel.table_mk,Rel.rows_mk,Rel.terms_mk,Rel.aggs_mk,Rel.keys_mk,Rel.limit_mk,Rel.skip_mk,Rel.all_mk,bne];simp [Bool.or_assoc];rfl
  ·rw[z24r,zbx];unfold z3j;simp only[g,Rel.op_mk,Rel.table_mk,Rel.rows_mk,Rel.terms_mk,Rel.aggs_mk,Rel.keys_mk,Rel.limit_mk,Rel.skip_mk,Rel.all_mk,bne];simp [Bool.or_assoc];rfl
  ·rw[z24s,zbx];unfold z3j;simp only[g,Rel.op_mk,Rel.table_mk,Rel.rows_mk,Rel.terms_mk,Rel.aggs_mk,Rel.keys_mk,Rel.limit_mk,Rel.skip_mk,Rel.all_mk,bne];simp [Bool.or_assoc];rfl
  ·rw[z24t,zbx];unfold z3j;simp only[g,Rel.op_mk,Rel.table_mk,Rel.rows_mk,Rel.terms_mk,Rel.aggs_mk,Rel.keys_mk,Rel.limit_mk,Rel.skip_mk,Rel.all_mk,bne];simp [Bool.or_assoc];rfl
  ·rw[z24u,zbx];unfold z3j;simp only[g,Rel.op_mk,Rel.table_mk,Rel.rows_mk,Rel.terms_mk,Rel.aggs_mk,Rel.keys_mk,Rel.limit_mk,Rel.skip_mk,Rel.all_mk,bne];simp [Bool.or_assoc];rfl
  ·rw[z24v,zbx];unfold z3j;simp only[g,Rel.op_mk,Rel.table_mk,Rel.rows_mk,Rel.terms_mk,Rel.aggs_mk,Rel.keys_mk,Rel.limit_mk,Rel.skip_mk,Rel.all_mk,bne];simp [Bool.or_assoc];rfl
  ·rw[z24w,zbx];unfold z3j;simp only[g,Rel.op_mk,Rel.table_mk,Rel.rows_mk,Rel.terms_mk,Rel.aggs_mk,Rel.keys_mk,Rel.limit_mk,Rel.skip_mk,Rel.all_mk,bne];simp [Bool.or_assoc];rfl
  ·rw[z24x,zbx];unfold z3j;simp only[g,Rel.op_mk,Rel.table_mk,Rel.rows_mk,Rel.terms_mk,Rel.aggs_mk,Rel.keys_mk,Rel.limit_mk,Rel.skip_mk,Rel.all_mk,bne];simp [Bool.or_assoc];rfl
  ·rw[z24y,zbx];unfold z3j;simp only[g,Rel.op_mk,Rel.table_mk,Rel.rows_mk,Rel.terms_mk,Rel.aggs_mk,Rel.keys_mk,Rel.limit_mk,Rel.skip_mk,Rel.all_mk,bne];simp [Bool.or_assoc];rfl
  ·rw[z23y,zbx];unfold z3j;simp only[g,Rel.op_mk,Rel.table_mk,Rel.rows_mk,Rel.terms_mk,Rel.aggs_mk,Rel.keys_mk,Rel.limit_mk,Rel.skip_mk,Rel.all_mk,bne];simp [Bool.or_assoc];rfl
  ·rw[z23z,zbx];unfold z3j;simp only[g,Rel.op_mk,Rel.table_mk,Rel.rows_mk,Rel.terms_mk,Rel.aggs_mk,Rel.keys_mk,Rel.limit_mk,Rel.skip_mk,Rel.all_mk,bne];simp [Bool.or_assoc];rfl
  ·rw[z240,zbx];unfold z3j;simp only[g,Rel.op_mk,Rel.table_mk,Rel.rows_mk,Rel.terms_mk,Rel.aggs_mk,Rel.keys_mk,Rel.limit_mk,Rel.skip_mk,Rel.all_mk,bne];simp [Bool.or_assoc];rfl
  ·rw[z241,zbx];unfold z3j;simp only[g,Rel.op_mk,Rel.table_mk,Rel.rows_mk,Rel.terms_mk,Rel.aggs_mk,Rel.keys_mk,Rel.limit_mk,Rel.skip_mk,Rel.all_mk,bne];simp [Bool.or_assoc];rfl
def zld : FnC Un:=fun args=>match args with
 | [x0]=>(dS .rel x0).bind fun r=>some ([zof r],z17v (z3j r),z17w (z3j r))
 | _=>none
theorem z1rr : FnOK 65 zld:=by
 intro args ob rs os h hob
 unfold zld at h
 split at h
 ·simp only[Option.bind_eq_some_iff,Option.some.injEq,Prod.mk.injEq] at h
  obtain⟨r,e0,rfl,rfl,rfl⟩:=h
  obtain rfl:=z18 e0
  exact⟨zd (M:=ztn) rfl (zf (l1:=[]) (l2:=[]) (l3:=[]) (l4:=[]) (l5:=[]) trivial trivial trivial trivial trivial) Tryz.func65 (by kernel_rfl) z17x 0 [.d] (fun hwf=>(z1ia r (ze hwf (a:=.d (.agg (enc Ty.rel r))) (List.mem_of_getElem? (i:=0) rfl)) (hob _ (List.mem_of_getElem? (i:=0) rfl)))),zb Tryz.func65 (by kernel_rfl) (by kernel_rfl)⟩
 ·simp at h
def z1f7 (t:Term) (env:List Int) : Bool:=(zee t).2.2 && decide (¬ (t.kids.length:Int)<(zee t).1) && decide (¬ (t.kids.length:Int) > (zee t).2.1) && decide ((t.sub.length:Int)=zhe t) && zkc t env
def z14e (r:Rel) : Bool:=decide (¬ z79 r.op<0) && decide ((r.kids.length:Int)=z79 r.op) && !z3j r
def z14f (a:Agg) : Bool:=((a.name.toList == (ByteArray.mk #[99,111,117,110,116]).toList) || (a.name.toList == (ByteArray.mk #[115,117,109]).toList) || (a.name.toList == (ByteArray.mk #[109,105,110]).toList) || (a.name.toList == (ByteArray.mk #[109,97,120]).toList)) && decide (a.t.length≤1) && (decide (a.t.length≠0) || ((a.name.toList == (ByteArray.mk #[99,111,117,110,116]).toList) && !a.distinct))
mutual
def zw3 : Term→List Int→Bool
 | .mk op v depth at_ name kids sub type,env=>z1f7 (.mk op v depth at_ name kids sub type) env && z5c kids env && (decide (sub.length≠1) || (zby sub env && (op == 27 || z45 (sub.getD 0 zi) == 1)))
def z5c : List Term→List Int→Bool
 | [],_=>true
 | t::l,env=>zw3 t env && z5c l env
def zxy : Agg→List Int→Bool
 | .mk name distinct t,env=>z14f (.mk name distinct t) && z5c t env
def zw4 : List Agg→List Int→Bool
 | [],_=>true
 | a::l,env=>zxy a env && zw4 l env
def z14g : Rel→List Int→Bool
  | .mk op table cols kids terms aggs keys limit skip all rows,env=>z14e (.mk op table cols kids terms aggs keys limit skip all rows) && zby kids env && decide ((cols.length:Int)=z45 (.mk op table cols kids terms aggs keys limit skip all rows)) &&
    (if op=1 then !(table.toList == (ByteArray.mk #[]).toList)
     else if op=2 then zkd rows cols.length
     else if op=3∨op=6 then decide (terms.length=1) && z5c terms (zci (.mk op table cols kids terms aggs keys limit skip all rows)::env)
     else if op=4 then z5c terms (zci (.mk op table cols kids terms aggs keys limit skip all rows)::env)
     else if op=5 then decide (terms.length≤1) && z5c terms (zci (.mk op table cols kids terms aggs keys limit skip all rows)::env)
     else if op=7 then z5c terms (zci (.mk op table cols kids terms aggs keys limit skip all rows)::env) && zw4 aggs (zci (.mk op table cols kids terms aggs keys limit skip all rows)::env)
     else if op=9∨op=10∨op=11 then z45 (kids.getD 0 zi) == z45 (kids.getD 1 zi)
     else if op=12 then zke keys (z45 (.mk op table cols kids terms aggs keys limit skip all rows))
     else if op=13 then decide (-1≤limit∧limit≤1000000000000000∧0≤skip∧skip≤1000000000000000)
     else true)
def zby : List Rel→List Int→Bool
 | [],_=>true
 | r::l,env=>z14g r env && zby l env
end
def zq0 (r:Rel) (env:List Int) : Bool :=
 if r.op=1 then !(r.table.toList == (ByteArray.mk #[]).toList)
 else if r.op=2 then zkd r.rows r.cols.length
 else if r.op=3∨r.op=6 then decide (r.terms.length=1) && z5c r.terms (zci r::env)
 else if r.op=4 then z5c r.terms (zci r::env)
 else if r.op=5 then decide (r.terms.length≤1) && z5c r.terms (zci r::env)
 else if r.op=7 then z5c r.terms (zci r::env) && zw4 r.aggs (zci r::env)
 else if r.op=9∨r.op=10∨r.op=11 then z45 (r.kids.getD 0 zi) == z45 (r.kids.getD 1 zi)
 else if r.op=12 then zke r.keys (z45 r)
 else if r.op=13 then decide (-1≤r.limit∧r.limit≤1000000000000000∧0≤r.skip∧r.skip≤1000000000000000)
 else true
theorem z20c (t:Term) (env:List Int) : zw3 t env=(z1f7 t env && z5c t.kids env && (decide (t.sub.length≠1) || (zby t.sub env && (t.op == 27 || z45 (t.sub.getD 0 zi) == 1)))):=by cases t;simp only[zw3];rfl
theorem z22k (a:Agg) (env:List Int) : zxy a env=(z14f a && z5c a.t env):=by cases a;simp only[zxy];rfl
theorem z22l (r:Rel) (env:List Int) : z14g r env=(z14e r && zby r.kids env && decide ((r.cols.length:Int)=z45 r) && zq0 r env):=by cases r;simp only[z14g];rfl
theorem zto : ∀ (l:List Term) (env:List Int),z5c l env=l.all fun t=>zw3 t env
 | [],_=>rfl
 | t::l,env=>by simp only[z5c,List.all_cons,zto l env]
theorem z1f8 : ∀ (l:List Agg) (env:List Int),zw4 l env=l.all fun t=>zxy t env
 | [],_=>rfl
 | t::l,env=>by simp only[zw4,List.all_cons,z1f8 l env]
theorem z1f9 : ∀ (l:List Rel) (env:List Int),zby l env=l.all fun t=>z14g t env
 | [],_=>rfl
 | t::l,env=>by simp only[zby,List.all_cons,z1f9 l env]
def z13v (r:Rel) : Prop:=(r.op=9∨r.op=10∨r.op=11)→2≤r.kids.length
def z7g (t:Term) (env:List Int) : Bool:=zw3 t env
def zah (l:List Term) (env:List Int) : Bool:=z5c l env
def zq1 (l:List Agg) (env:List Int) : Bool:=zw4 l env
def zxz (r:Rel) (env:List Int) : Bool:=zq0 r env
def z8a (r:Rel) (env:List Int) : Bool:=z14g r env
def z1fa (r:Bool) : List (A Un):=[.c (.s (.bool r))]
def z1fb (_r:Bool) : List (Ob Un):=[]
def z4j (m:Nat) : FnC Un:=fun args=>match args with
 | [x0,x1]=>(dS .term x0).bind fun t=>(dL .int x1).bind fun env=>some ([3*t.ht<m,z29 env t.ht],z1fa (z7g t env),z1fb (z7g t env))
 | _=>none
def z1lj (r:Bool) : List (A Un):=[.c (.s (.bool r))]
def z1lk (_r:Bool) : List (Ob Un):=[]
def z5d (m:Nat) : FnC Un:=fun args=>match args with
 | [x0,x1]=>(dL .term x0).bind fun l=>(dL .int x1).bind fun env=>some ([3*htTs l+1<m,z29 env (htTs l)],z1lj (zah l env),z1lk (zah l env))
 | _=>none
def z1fc (r:Bool) : List (A Un):=[.c (.s (.bool r))]
def z1fd (_r:Bool) : List (Ob Un):=[]
def z5v (m:Nat) : FnC Un:=fun args=>match args with
 | [x0,x1]=>(dL .agg x0).bind fun l=>(dL .int x1).bind fun env=>some ([3*htAs l<m,z29 env (htAs l)],z1fc (zq1 l env),z1fd (zq1 l env))
 | _=>none
def z1fe (r:Bool) : List (A Un):=[.c (.s (.bool r))]
def z1ff (_r:Bool) : List (Ob Un):=[]
def z5w (m:Nat) : FnC Un:=fun args=>match args with
 | [x0,x1]=>(dS .rel x0).bind fun r=>(dL .int x1).bind fun env=>some ([3*r.ht+1<m,z29 env r.ht,z13v r],z1fe (zxz r env),z1ff (zxz r env))
 | _=>none
def z13w (r:Bool) : List (A Un):=[.c (.s (.bool r))]
def z13x (_r:Bool) : List (Ob Un):=[]
def z49 (m:Nat) : FnC Un:=fun args=>match args with
 | [x0,x1]=>(dS .rel x0).bind fun r=>(dL .int x1).bind fun env=>some ([3*r.ht+2<m,z29 env r.ht],z13w (z8a r env),z13x (z8a r env))
 | _=>none
def zfi (m:Nat) : Mc Un:=mach (tbl [(56,zxv),(57,znu),(58,zs9),(18,z4j m),(33,z49 m),(19,z6j)]) (tbl []) (tbl []) (tbl []) (tbl [])
def z5e (r:Bool) : RF Un:=(z1fa r,z1fb r)
def zfj : Nat→NS:=fun l=>(look l [(5,{ ts:=bl 83 278,bs:=bl 83 4,nm:=[],cs:=true })]).getD ⟨[],[],[],[],[],true⟩
def z7u (t:Term) (env:List Int) (v0:Int) : S Un:=(st 83 83 332 0 [(1,al .int env),(2,ax 2),(4,ab false),(8,ai v0)] [(2,bg .term t)] [])
noncomputable def z17y : Code:=sub (z8 Tryz.f18) [1,1,1,0,1,2,2]
def zle (m:Nat) : S Un→Option (EX Un):=zt (zfj 5) (fun s Q=>awf (zfi m) zfj z17y s Q)
def zg7 (m:Nat) : Exit→S Un→Option (RF Un):=ctxF (zfi m) zfj (z8 Tryz.f18) [1,1,1,0,1,2] (retF (zfi m) Tryz.f18.results.toList [.d])
def z17z (m:Nat) (t:Term) (env:List Int) : Option (RF Un):=awf (zfi m) zfj (z8 Tryz.f18) (zg Tryz.f18.ntmps 0 [.d (.agg (enc Ty.term t)),.d (.v (.dat (U:=Un) Ty.int env))]) (retF (zfi m) Tryz.f18.results.toList [.d])
theorem z1tp (m:Nat) (t:Term) (env:List Int) : z17z m t env=cndO (!(zee (Term.ids t)).snd.snd) (some (z5e (false))) (cndO (decide ((↑t.kids.length:Int)<(zee (Term.ids t)).fst)) (some (z5e (false))) (cndO (decide ((↑t.kids.length:Int) > (zee (Term.ids t)).snd.fst)) (some (z5e (false))) (cndO ((↑t.sub.length:Int) != zhe (Term.ids t)) (some (z5e (false))) (cndO (!zkc (Term.ids t) env) (some (z5e (false))) ((zle m (z7u t env (0:Int))).bind (zx (zg7 m))))))):=by kernel_rfl
theorem z180 (m:Nat) (t:Term) (env:List Int) (v0:Int) : zle m (z7u t env v0)=cndO (decide (v0<(↑t.kids.length:Int))) (obO (0≤v0∧v0<(↑t.kids.length:Int)) (obO ((3:Nat)*(Term.ids (t.kids.getD v0.toNat z1h)).ht<m) (obO (z29 env (Term.ids (t.kids.getD v0.toNat z1h)).ht) (cndO (!z7g (Term.ids (t.kids.getD v0.toNat z1h)) env) (some (.ret,(z7u t env v0))) (zle m (z7u t env (IntKind.i64.wrap (v0+1)))))))) (some (.exit 0,(z7u t env v0))):=(z11 (zfj 5) z17y _).trans (by kernel_rfl)
theorem z1fg (m:Nat) (t:Term) (env:List Int) (v0:Int) : zg7 m .ret (z7u t env v0)=some (z5e (false)):=by kernel_rfl
theorem z1ib (m:Nat) (t:Term) (env:List Int) (v0:Int) : zg7 m (.exit 0) (z7u t env v0)=cndO ((↑t.sub.length:Int) == (1:Int)) (obO ((0:Int)≤(0:Int)∧(0:Int)<(↑t.sub.length:Int)) (obO ((3:Nat)*(Rel.ids (t.sub.getD 0 zi)).ht+(2:Nat)<m) (obO (z29 env (Rel.ids (t.sub.getD 0 zi)).ht) (cndO (z8a (Rel.ids (t.sub.getD 0 zi)) env) (cndO (t.op == 27) (some (z5e (true))) (obO ((0:Int)≤(0:Int)∧(0:Int)<(↑t.sub.length:Int)) (some (z5e (z2r (Rel.ids (t.sub.getD 0 zi)) == 1))))) (some (z5e (false))))))) (some (z5e (true))):=by kernel_rfl
theorem z1tq (m:Nat) (t:Term) (env:List Int) (hm:3*t.ht<m+1) (h:env.length+t.ht≤8000000) (i:Int) : zg7 m (.exit 0) (z7u t env i)=some (z5e (decide (t.sub.length≠1) || (zby t.sub env && (t.op == 27 || z45 (t.sub.getD 0 zi) == 1)))):=by
 rw[z1ib,za]
 by_cases h1 : t.sub.length=1
 ·obtain⟨s,hs⟩ : ∃ s,t.sub=[s]:=by
   match hk : t.sub,h1 with
   | [s],_=>exact⟨s,rfl⟩
  have hht:s.ht<t.ht:=Term.ht_sub (by rw[hs];simp)
  have hg:t.sub.getD 0 zi=s:=by rw[hs];rfl
  rw[if_pos (by rw[beq_iff_eq];omega),hg,decide_eq_false (fun e=>e h1),Bool.false_or]
  simp only[Rel.ids_eq]
  rw[z6 (by omega),z6 (by omega),z6 (show z29 env s.ht by unfold z29;omega)]
  have hr:zby t.sub env=z8a s env:=by rw[hs];simp only[zby,Bool.and_true];rfl
  rw[hr,z9l]
  cases z8a s env
  ·rfl
  ·rw[za,if_pos rfl,Bool.true_and,za]
   cases t.op == 27
   ·rw[if_neg (by decide),z6 (by omega),Bool.false_or]
   ·rfl
 ·rw[if_neg (by rw[beq_iff_eq];omega),decide_eq_true h1];rfl
theorem z1n6 (m:Nat) (t:Term) (env:List Int) (_ht:WS .term t) (_he:WL .int env) (hm:3*t.ht<m+1) (h:z29 env t.ht) : z17z m t env=some (z5e (z7g t env)):=by
 have hk:WL .term t.kids:=_ht.term_kids
 unfold z29 at h
 have lp:=zhd (L:=zle m) (st:=fun i=>z7u t env i) (C:=zg7 m) (e:=.exit 0) (fun b=>some (z5e (b && (decide (t.sub.length≠1) || (zby t.sub env && (t.op == 27 || z45 (t.sub.getD 0 zi) == 1)))))) (d:=z1h) (fun k=>z7g k env) hk.len
  (fun i x hi hx hmem=>by
   have hht:=Term.ht_kid hmem
   rw[z180]
   simp only[za,hi,decide_true,if_true,and_true,Int.toNat_natCast,hx,Term.ids_eq]
   rw[z6 (by omega),z6 (by omega),z6 (show z29 env x.ht by unfold z29;omega)]
   cases z7g x env<;>rfl)
  (by rw[z180];simp [za]) (fun i=>by rw[z1fg,Bool.false_and]) (fun i=>by rw[z1tq m t env hm h,Bool.true_and])
 have e:z7g t env=(z1f7 t env && (t.kids.all (fun k=>z7g k env) && (decide (t.sub.length≠1) || (zby t.sub env && (t.op == 27 || z45 (t.sub.getD 0 zi) == 1))))):=by
  show zw3 t env=_
  rw[z20c,zto,Bool.and_assoc];rfl
 rw[z1tp,e]
 generalize (t.kids.all (fun k=>z7g k env) && (decide (t.sub.length≠1) || (zby t.sub env && (t.op == 27 || z45 (t.sub.getD 0 zi) == 1))))=B at lp
 simp only[Term.ids_eq]
 unfold z1f7
 generalize zee t=o
 generalize zkc t env=w
 generalize zhe t=sb
 cases o.2.2
 ·rfl
 simp only[za,decide_eq_true_eq,Bool.not_true,Bool.true_and]
 rw[if_neg (by decide)]
 by_cases c1 : (t.kids.length:Int)<o.1
 ·rw[if_pos c1,decide_eq_false (fun e=>e c1)];rfl
 rw[if_neg c1,decide_eq_true c1]
 by_cases c2 : (t.kids.length:Int) > o.2.1
 ·rw[if_pos c2,decide_eq_false (fun e=>e c2)];rfl
 rw[if_neg c2,decide_eq_true c2]
 by_cases c3 : (t.sub.length:Int)=sb
 ·rw[if_neg (by simpa using c3),decide_eq_true c3]
  cases w
  ·rfl
  ·rw[if_neg (by decide)]
   exact lp
 ·rw[if_pos (by simpa using c3),decide_eq_false c3];rfl
theorem z1rs (m:Nat) (h_r15_Term:FnOK 18 (z4j m)) (h_r15_all:FnOK 114 (z5d m)) (h_r15_aggs:FnOK 115 (z5v m)) (h_r15_rest:FnOK 66 (z5w m)) (h_r15_Rel:FnOK 33 (z49 m)) : FnOK 18 (z4j (m+1)):=by
 intro args ob rs os h hob
 unfold z4j at h
 split at h
 ·simp only[Option.bind_eq_some_iff,Option.some.injEq,Prod.mk.injEq] at h
  obtain⟨t,e0,env,e1,rfl,rfl,rfl⟩:=h
  obtain rfl:=z18 e0
  obtain rfl:=z1i e1
  exact⟨zd (M:=(zfi m)) rfl (zf (l1:=[(56,zxv),(57,znu),(58,zs9),(18,z4j m),(33,z49 m),(19,z6j)]) (l2:=[]) (l3:=[]) (l4:=[]) (l5:=[]) ⟨z209,z1tj,z1x8,h_r15_Term,h_r15_Rel,zji,trivial⟩ trivial trivial trivial trivial) Tryz.func18 (by kernel_rfl) zfj 0 [.d] (fun hwf=>(z1n6 m t env (ze hwf (a:=.d (.agg (enc Ty.term t))) (List.mem_of_getElem? (i:=0) rfl)) (ze hwf (a:=.d (.v (.dat (U:=Un) Ty.int env))) (List.mem_of_getElem? (i:=1) rfl)) (hob _ (List.mem_of_getElem? (i:=0) rfl)) (hob _ (List.mem_of_getElem? (i:=1) rfl)))),zb Tryz.func18 (by kernel_rfl) (by kernel_rfl)⟩
 ·simp at h
def zi2 (m:Nat) : Mc Un:=mach (tbl [(18,z4j m)]) (tbl []) (tbl []) (tbl []) (tbl [])
def zsc (r:Bool) : RF Un:=(z1lj r,z1lk r)
def zi3 : Nat→NS:=fun l=>(look l [(2,{ ts:=bl 19 51,bs:=bl 19 0,nm:=[],cs:=true })]).getD ⟨[],[],[],[],[],true⟩
def zax (l:List Term) (env:List Int) (v0:Int) : S Un:=(st 19 19 76 0 [(0,al .term l),(1,al .int env),(4,ab false),(5,ai v0)] [] [])
noncomputable def z1fh : Code:=sub (z8 Tryz.f114) [1,0,1,2,2]
def znz (m:Nat) : S Un→Option (EX Un):=zt (zi3 2) (fun s Q=>awf (zi2 m) zi3 z1fh s Q)
def zy0 (m:Nat) : Exit→S Un→Option (RF Un):=ctxF (zi2 m) zi3 (z8 Tryz.f114) [1,0,1,2] (retF (zi2 m) Tryz.f114.results.toList [.d])
def z1fi (m:Nat) (l:List Term) (env:List Int) : Option (RF Un):=awf (zi2 m) zi3 (z8 Tryz.f114) (zg Tryz.f114.ntmps 0 [.d (.v (.dat (U:=Un) Ty.term l)),.d (.v (.dat (U:=Un) Ty.int env))]) (retF (zi2 m) Tryz.f114.results.toList [.d])
theorem z1xa (m:Nat) (l:List Term) (env:List Int) : z1fi m l env=(znz m (zax l env (0:Int))).bind (zx (zy0 m)):=by kernel_rfl
theorem z1fj (m:Nat) (l:List Term) (env:List Int) (v0:Int) : znz m (zax l env v0)=cndO (decide (v0<(↑l.length:Int))) (obO (0≤v0∧v0<(↑l.length:Int)) (obO ((3:Nat)*(Term.ids (l.getD v0.toNat z1h)).ht<m) (obO (z29 env (Term.ids (l.getD v0.toNat z1h)).ht) (cndO (!z7g (Term.ids (l.getD v0.toNat z1h)) env) (some (.ret,(zax l env v0))) (znz m (zax l env (IntKind.i64.wrap (v0+1)))))))) (some (.exit 0,(zax l env v0))):=(z11 (zi3 2) z1fh _).trans (by kernel_rfl)
theorem z1ic (m:Nat) (l:List Term) (env:List Int) (v0:Int) : zy0 m .ret (zax l env v0)=some (zsc (false)):=by kernel_rfl
theorem z1n7 (m:Nat) (l:List Term) (env:List Int) (v0:Int) : zy0 m (.exit 0) (zax l env v0)=some (zsc (true)):=by kernel_rfl
theorem z1rt (m:Nat) (l:List Term) (env:List Int) (hl:WL .term l) (_he:WL .int env) (hm:3*htTs l+1<m+1) (h:z29 env (htTs l)) : z1fi m l env=some (zsc (zah l env)):=by
 unfold z29 at h
 have e:zah l env=l.all fun t=>z7g t env:=zto l env
 rw[z1xa,e]
 exact zhd (L:=znz m) (st:=fun i=>zax l env i) (fun b=>some (zsc b)) (d:=z1h) (fun t=>z7g t env) hl.len
  (fun i x hi hx hmem=>by
   have hht:=zk2 hmem
   rw[z1fj]
   simp only[za,hi,decide_true,if_true,and_true,Int.toNat_natCast,hx,Term.ids_eq]
   rw[z6 (by omega),z6 (by omega),z6 (show z29 env x.ht by unfold z29;omega)]
   cases z7g x env<;>rfl)
  (by rw[z1fj];simp [za]) (fun i=>z1ic _ _ _ _) (fun i=>z1n7 _ _ _ _)
theorem z1tr (m:Nat) (h_r15_Term:FnOK 18 (z4j m)) (h_r15_all:FnOK 114 (z5d m)) (h_r15_aggs:FnOK 115 (z5v m)) (h_r15_rest:FnOK 66 (z5w m)) (h_r15_Rel:FnOK 33 (z49 m)) : FnOK 114 (z5d (m+1)):=by
 intro args ob rs os h hob
 unfold z5d at h
 split at h
 ·simp only[Option.bind_eq_some_iff,Option.some.injEq,Prod.mk.injEq] at h
  obtain⟨l,e0,env,e1,rfl,rfl,rfl⟩:=h
  obtain rfl:=z1i e0
  obtain rfl:=z1i e1
  exact⟨zd (M:=(zi2 m)) rfl (zf (l1:=[(18,z4j m)]) (l2:=[]) (l3:=[]) (l4:=[]) (l5:=[]) ⟨h_r15_Term,trivial⟩ trivial trivial trivial trivial) Tryz.func114 (by kernel_rfl) zi3 0 [.d] (fun hwf=>(z1rt m l env (ze hwf (a:=.d (.v (.dat (U:=Un) Ty.term l))) (List.mem_of_getElem? (i:=0) rfl)) (ze hwf (a:=.d (.v (.dat (U:=Un) Ty.int env))) (List.mem_of_getElem? (i:=1) rfl)) (hob _ (List.mem_of_getElem? (i:=0) rfl)) (hob _ (List.mem_of_getElem? (i:=1) rfl)))),zb Tryz.func114 (by kernel_rfl) (by kernel_rfl)⟩
 ·simp at h
def zfk (m:Nat) : Mc Un:=mach (tbl [(114,z5d m)]) (tbl []) (tbl []) (tbl []) (tbl [])
def zo0 (r:Bool) : RF Un:=(z1fc r,z1fd r)
def zfl : Nat→NS:=fun l=>(look l [(2,{ ts:=bl 61 51,bs:=bl 61 0,nm:=[],cs:=true })]).getD ⟨[],[],[],[],[],true⟩
def z41 (l:List Agg) (env:List Int) (v0:Int) : S Un:=(st 61 61 244 0 [(0,al .agg l),(1,al .int env),(4,ab false),(5,ai v0)] [] [])
noncomputable def z181 : Code:=sub (z8 Tryz.f115) [1,0,1,2,2]
def zg8 (m:Nat) : S Un→Option (EX Un):=zt (zfl 2) (fun s Q=>awf (zfk m) zfl z181 s Q)
def ztp (m:Nat) : Exit→S Un→Option (RF Un):=ctxF (zfk m) zfl (z8 Tryz.f115) [1,0,1,2] (retF (zfk m) Tryz.f115.results.toList [.d])
def z182 (m:Nat) (l:List Agg) (env:List Int) : Option (RF Un):=awf (zfk m) zfl (z8 Tryz.f115) (zg Tryz.f115.ntmps 0 [.d (.v (.dat (U:=Un) Ty.agg l)),.d (.v (.dat (U:=Un) Ty.int env))]) (retF (zfk m) Tryz.f115.results.toList [.d])
theorem z1ts (m:Nat) (l:List Agg) (env:List Int) : z182 m l env=(zg8 m (z41 l env (0:Int))).bind (zx (ztp m)):=by kernel_rfl
def zlf (m:Nat) (l:List Agg) (env:List Int) (v0:Int) : Option (EX Un):=obO ((3:Nat)*htTs (Agg.t (l.getD v0.toNat z37))+(1:Nat)<m) (obO (z29 env (htTs (Agg.t (l.getD v0.toNat z37)))) (cndO (!zah (Agg.t (l.getD v0.toNat z37)) env) (some (.ret,(z41 l env v0))) (zg8 m (z41 l env (IntKind.i64.wrap (v0+1))))))
def zg9 (m:Nat) (l:List Agg) (env:List Int) (v0:Int) : Option (EX Un):=cndO (decide ((↑(Agg.t (l.getD v0.toNat z37)).length:Int) > (1:Int))) (some (.ret,(z41 l env v0))) (cndO ((↑(Agg.t (l.getD v0.toNat z37)).length:Int) == (0:Int)) (cndO (!(Agg.name (l.getD v0.toNat z37)).toList == (ByteArray.mk #[99,111,117,110,116]).toList) (some (.ret,(z41 l env v0))) (cndO (Agg.distinct (l.getD v0.toNat z37)) (some (.ret,(z41 l env v0))) (zlf m l env v0))) (zlf m l env v0))
theorem z183 (m:Nat) (l:List Agg) (env:List Int) (v0:Int) : zg8 m (z41 l env v0)=cndO (decide (v0<(↑l.length:Int))) (obO (0≤v0∧v0<(↑l.length:Int)) (cndO (!(Agg.name (l.getD v0.toNat z37)).toList == (ByteArray.mk #[99,111,117,110,116]).toList) (cndO (!(Agg.name (l.getD v0.toNat z37)).toList == (ByteArray.mk #[115,117,109]).toList) (cndO (!(Agg.name (l.getD v0.toNat z37)).toList == (ByteArray.mk #[109,105,110]).toList) (cndO (!(Agg.name (l.getD v0.toNat z37)).toList == (ByteArray.mk #[109,97,120]).toList) (some (.ret,(z41 l env v0))) (zg9 m l env v0)) (zg9 m l env v0)) (zg9 m l env v0)) (zg9 m l env v0))) (some (.exit 0,(z41 l env v0))):=(z11 (zfl 2) z181 _).trans (by kernel_rfl)
theorem z1fk (m:Nat) (l:List Agg) (env:List Int) (v0:Int) : ztp m .ret (z41 l env v0)=some (zo0 (false)):=by kernel_rfl
theorem z1id (m:Nat) (l:List Agg) (env:List Int) (v0:Int) : ztp m (.exit 0) (z41 l env v0)=some (zo0 (true)):=by kernel_rfl
theorem z1n8 (m:Nat) (l:List Agg) (env:List Int) (hl:WL .agg l) (_he:WL .int env) (hm:3*htAs l<m+1) (h:z29 env (htAs l)) : z182 m l env=some (zo0 (zq1 l env)):=by
 unfold z29 at h
 have e:zq1 l env=l.all fun t=>zxy t env:=z1f8 l env
 rw[z1ts,e]
 exact zhd (L:=zg8 m) (st:=fun i=>z41 l env i) (fun b=>some (zo0 b)) (d:=z37) (fun t=>zxy t env) hl.len
  (fun i x hi hx hmem=>by
   have hht:=z19k hmem
   have hax:x.ht=htTs x.t+1:=by cases x;rfl
   have key:zlf m l env (i:Int)=if zah x.t env=true then zg8 m (z41 l env (IntKind.i64.wrap ((i:Int)+1))) else some (.ret,z41 l env (i:Int)):=by
    unfold zlf
    simp only[Int.toNat_natCast,hx]
    rw[z6 (by omega),z6 (show z29 env (htTs x.t) by unfold z29;omega),za]
    cases zah x.t env<;>rfl
   have e2:zxy x env=(z14f x && zah x.t env):=z22k x env
   rw[z183,e2]
   unfold zg9
   simp only[Int.toNat_natCast,hx,key]
   unfold z14f
   generalize zah x.t env=q
   generalize (x.name.toList == (ByteArray.mk #[99,111,117,110,116]).toList)=n1
   generalize (x.name.toList == (ByteArray.mk #[115,117,109]).toList)=n2
   generalize (x.name.toList == (ByteArray.mk #[109,105,110]).toList)=n3
   generalize (x.name.toList == (ByteArray.mk #[109,97,120]).toList)=n4
   rw[za,if_pos (decide_eq_true hi),z6 (by omega)]
   by_cases c1 : x.t.length≤1
   ·have d1:decide ((x.t.length:Int) > 1)=false:=decide_eq_false (by omega)
    rw[d1,decide_eq_true c1]
    by_cases c0 : x.t.length=0
    ·have d0:((x.t.length:Int) == 0)=true:=by rw[beq_iff_eq];omega
     rw[d0,decide_eq_false (fun e=>e c0)]
     cases n1<;>cases n2<;>cases n3<;>cases n4<;>cases x.distinct<;>cases q<;>rfl
    ·have d0:((x.t.length:Int) == 0)=false:=by rw[beq_eq_false_iff_ne];omega
     rw[d0,decide_eq_true c0]
     cases n1<;>cases n2<;>cases n3<;>cases n4<;>cases q<;>rfl
   ·have d1:decide ((x.t.length:Int) > 1)=true:=decide_eq_true (by omega)
    rw[d1,decide_eq_false c1]
    cases n1<;>cases n2<;>cases n3<;>cases n4<;>rfl)
  (by rw[z183];simp [za]) (fun i=>z1fk _ _ _ _) (fun i=>z1id _ _ _ _)
theorem z1ru (m:Nat) (h_r15_Term:FnOK 18 (z4j m)) (h_r15_all:FnOK 114 (z5d m)) (h_r15_aggs:FnOK 115 (z5v m)) (h_r15_rest:FnOK 66 (z5w m)) (h_r15_Rel:FnOK 33 (z49 m)) : FnOK 115 (z5v (m+1)):=by
 intro args ob rs os h hob
 unfold z5v at h
 split at h
 ·simp only[Option.bind_eq_some_iff,Option.some.injEq,Prod.mk.injEq] at h
  obtain⟨l,e0,env,e1,rfl,rfl,rfl⟩:=h
  obtain rfl:=z1i e0
  obtain rfl:=z1i e1
  exact⟨zd (M:=(zfk m)) rfl (zf (l1:=[(114,z5d m)]) (l2:=[]) (l3:=[]) (l4:=[]) (l5:=[]) ⟨h_r15_all,trivial⟩ trivial trivial trivial trivial) Tryz.func115 (by kernel_rfl) zfl 0 [.d] (fun hwf=>(z1n8 m l env (ze hwf (a:=.d (.v (.dat (U:=Un) Ty.agg l))) (List.mem_of_getElem? (i:=0) rfl)) (ze hwf (a:=.d (.v (.dat (U:=Un) Ty.int env))) (List.mem_of_getElem? (i:=1) rfl)) (hob _ (List.mem_of_getElem? (i:=0) rfl)) (hob _ (List.mem_of_getElem? (i:=1) rfl)))),zb Tryz.func115 (by kernel_rfl) (by kernel_rfl)⟩
 ·simp at h
def zy1 (m:Nat) : Mc Un:=mach (tbl [(112,zxx),(113,znw),(114,z5d m),(115,z5v m),(19,z6j),(116,zny)]) (tbl []) (tbl []) (tbl []) (tbl [])
def z3k (r:Bool) : RF Un:=(z1fe r,z1ff r)
def z1fl : Nat→NS:=fun l=>(look l []).getD ⟨[],[],[],[],[],true⟩
def z184 (m:Nat) (r:Rel) (env:List Int) : Option (RF Un):=awf (zy1 m) z1fl (z8 Tryz.f66) (zg Tryz.f66.ntmps 0 [.d (.agg (enc Ty.rel r)),.d (.v (.dat (U:=Un) Ty.int env))]) (retF (zy1 m) Tryz.f66.results.toList [.d])
def zga (m:Nat) (r:Rel) (env:List Int) : Option (RF Un):=obO ((3:Nat)*htTs r.terms+(1:Nat)<m) (obO (z29 (z9m (Rel.ids r) env) (htTs r.terms)) (some (z3k (zah r.terms (z9m (Rel.ids r) env)))))
def ztq (m:Nat) (r:Rel) (env:List Int) : Option (RF Un):=cndO ((↑r.terms.length:Int) == (1:Int)) (zga m r env) (some (z3k (false)))
def zlg (r:Rel) : Option (RF Un):=obO ((0:Int)≤(0:Int)∧(0:Int)<(↑r.kids.length:Int)) (obO ((0:Int)≤(1:Int)∧(1:Int)<(↑r.kids.length:Int)) (some (z3k (z2r (Rel.ids (r.kids.getD 0 zi)) == z2r (Rel.ids (r.kids.getD 1 zi))))))
theorem z1tt (m:Nat) (r:Rel) (env:List Int) : z184 m r env=obO (z29 env (1:Nat)) (cndO (r.op == 1) (some (z3k (!r.table.toList == (ByteArray.mk #[]).toList))) (cndO (r.op == 2) (some (z3k (zkd r.rows (↑r.cols.length:Int)))) (cndO (r.op == 3) (ztq m r env) (cndO (r.op == 6) (ztq m r env) (cndO (r.op == 4) (zga m r env) (cndO (r.op == 5) (cndO (decide ((↑r.terms.length:Int)≤(1:Int))) (zga m r env) (some (z3k (false)))) (cndO (r.op == 7) (obO ((3:Nat)*htTs r.terms+(1:Nat)<m) (obO (z29 (z9m (Rel.ids r) env) (htTs r.terms)) (cndO (zah r.terms (z9m (Rel.ids r) env)) (obO ((3:Nat)*htAs r.aggs<m) (obO (z29 (z9m (Rel.ids r) env) (htAs r.aggs)) (some (z3k (zq1 r.aggs (z9m (Rel.ids r) env)))))) (some (z3k (false)))))) (cndO (r.op == 9) (zlg r) (cndO (r.op == 10) (zlg r) (cndO (r.op == 11) (zlg r) (cndO (r.op == 12) (some (z3k (zke r.keys (z2r (Rel.ids r))))) (cndO (r.op == 13) (cndO (decide (r.limit≥(-1:Int))) (cndO (decide (r.limit≤1000000000000000)) (cndO (decide (r.skip≥0)) (some (z3k (decide (r.skip≤1000000000000000)))) (some (z3k (false)))) (some (z3k (false)))) (some (z3k (false)))) (some (z3k (true))))))))))))))):=by kernel_rfl
theorem z1n9 (m:Nat) (r:Rel) (env:List Int) (_hr:WS .rel r) (_he:WL .int env) (hm:3*r.ht+1<m+1) (h:z29 env r.ht) (hk:z13v r) : z184 m r env=some (z3k (zxz r env)):=by
 unfold z29 at h
 have hh:htTs r.terms+1≤r.ht∧htAs r.aggs+1≤r.ht:=by cases r;simp only[Rel.ht,Rel.terms_mk,Rel.aggs_mk];omega
 have o1:z29 env 1:=by unfold z29;omega
 have o2:z29 (z9m r env) (htTs r.terms):=by unfold z29 z9m;rw[List.length_cons];omega
 have o3:z29 (z9m r env) (htAs r.aggs):=by unfold z29 z9m;rw[List.length_cons];omega
 have t1:zga m r env=some (z3k (z5c r.terms (zci r::env))):=by
  unfold zga
  simp only[Rel.ids_eq]
  rw[z6 (by omega),z6 o2]
  rfl
 rw[z1tt,z6 o1]
 unfold ztq zlg
 rw[t1]
 simp only[zhu,Rel.ids_eq,z9l]
 simp only[za,Bool.or_eq_true,beq_iff_eq,decide_eq_true_eq]
 show _=some (z3k (zq0 r env))
 unfold zq0
 by_cases h1 : r.op=1
 ·rw[if_pos h1,if_pos h1]
 rw[if_neg h1,if_neg h1]
 by_cases h2 : r.op=2
 ·rw[if_pos h2,if_pos h2]
 rw[if_neg h2,if_neg h2]
 by_cases h3 : r.op=3∨r.op=6
 ·rw[if_pos (by omega),if_pos h3]
  by_cases hl : r.terms.length=1
  ·rw[if_pos (by omega),decide_eq_true hl,Bool.true_and]
  ·rw[if_neg (by omega),decide_eq_false hl,Bool.false_and]
 rw[if_neg (by omega),if_neg h3]
 by_cases h4 : r.op=4
 ·rw[if_pos h4,if_pos h4]
 rw[if_neg h4,if_neg h4]
 by_cases h5 : r.op=5
 ·rw[if_pos h5,if_pos h5]
  by_cases hl : r.terms.length≤1
  ·rw[if_pos (by omega),decide_eq_true hl,Bool.true_and]
  ·rw[if_neg (by omega),decide_eq_false hl,Bool.false_and]
 rw[if_neg h5,if_neg h5]
 by_cases h7 : r.op=7
 ·rw[if_pos h7,if_pos h7,z6 (by omega),z6 o2]
  have e:zah r.terms (z9m r env)=z5c r.terms (zci r::env):=rfl
  rw[e]
  cases z5c r.terms (zci r::env)
  ·rfl
  ·rw[if_pos rfl,z6 (by omega),z6 o3];rfl
 rw[if_neg h7,if_neg h7]
 by_cases h9 : r.op=9∨r.op=10∨r.op=11
 ·have:=hk h9
  rw[if_pos (by omega),if_pos h9,z6 (by omega),z6 (by omega)]
 rw[if_neg (by omega),if_neg h9]
 by_cases h12 : r.op=12
 ·rw[if_pos h12,if_pos h12]
 rw[if_neg h12,if_neg h12]
 by_cases h13 : r.op=13
 ·rw[if_pos h13,if_pos h13]
  by_cases k1 : r.limit≥-1
  ·rw[if_pos k1]
   by_cases k2 : r.limit≤1000000000000000
   ·rw[if_pos k2]
    by_cases k3 : r.skip≥0
    ·rw[if_pos k3]
     congr 2
     by_cases k4 : r.skip≤1000000000000000
     ·rw[decide_eq_true k4,decide_eq_true ⟨k1,k2,k3,k4⟩]
     ·rw[decide_eq_false k4,decide_eq_false (fun e=>k4 e.2.2.2)]
    ·rw[if_neg k3,decide_eq_false (fun e=>k3 e.2.2.1)]
   ·rw[if_neg k2,decide_eq_false (fun e=>k2 e.2.1)]
  ·rw[if_neg k1,decide_eq_false (fun e=>k1 e.1)]
 ·rw[if_neg h13,if_neg h13]
theorem z1rv (m:Nat) (h_r15_Term:FnOK 18 (z4j m)) (h_r15_all:FnOK 114 (z5d m)) (h_r15_aggs:FnOK 115 (z5v m)) (h_r15_rest:FnOK 66 (z5w m)) (h_r15_Rel:FnOK 33 (z49 m)) : FnOK 66 (z5w (m+1)):=by
 intro args ob rs os h hob
 unfold z5w at h
 split at h
 ·simp only[Option.bind_eq_some_iff,Option.some.injEq,Prod.mk.injEq] at h
  obtain⟨r,e0,env,e1,rfl,rfl,rfl⟩:=h
  obtain rfl:=z18 e0
  obtain rfl:=z1i e1
  exact⟨zd (M:=(zy1 m)) rfl (zf (l1:=[(112,zxx),(113,znw),(114,z5d m),(115,z5v m),(19,z6j),(116,zny)]) (l2:=[]) (l3:=[]) (l4:=[]) (l5:=[]) ⟨z20b,z1tm,h_r15_all,h_r15_aggs,zji,z1to,trivial⟩ trivial trivial trivial trivial) Tryz.func66 (by kernel_rfl) z1fl 0 [.d] (fun hwf=>(z1n9 m r env (ze hwf (a:=.d (.agg (enc Ty.rel r))) (List.mem_of_getElem? (i:=0) rfl)) (ze hwf (a:=.d (.v (.dat (U:=Un) Ty.int env))) (List.mem_of_getElem? (i:=1) rfl)) (hob _ (List.mem_of_getElem? (i:=0) rfl)) (hob _ (List.mem_of_getElem? (i:=1) rfl)) (hob _ (List.mem_of_getElem? (i:=2) rfl)))),zb Tryz.func66 (by kernel_rfl) (by kernel_rfl)⟩
 ·simp at h
def zi4 (m:Nat) : Mc Un:=mach (tbl [(59,zfd),(65,zld),(33,z49 m),(19,z6j),(66,z5w m)]) (tbl []) (tbl []) (tbl []) (tbl [])
def zay (r:Bool) : RF Un:=(z13w r,z13x r)
def zi5 : Nat→NS:=fun l=>(look l [(4,{ ts:=bl 49 54,bs:=bl 49 4,nm:=[],cs:=true })]).getD ⟨[],[],[],[],[],true⟩
def z8n (r:Rel) (env:List Int) (v0:Int) : S Un:=(st 49 49 196 0 [(1,al .int env),(2,ax 2),(4,ab false),(5,ai v0)] [(2,bg .rel r)] [])
noncomputable def z1fm : Code:=sub (z8 Tryz.f33) [1,1,0,1,2,2]
def zo1 (m:Nat) : S Un→Option (EX Un):=zt (zi5 4) (fun s Q=>awf (zi4 m) zi5 z1fm s Q)
def zjm (m:Nat) : Exit→S Un→Option (RF Un):=ctxF (zi4 m) zi5 (z8 Tryz.f33) [1,1,0,1,2] (retF (zi4 m) Tryz.f33.results.toList [.d])
def z1fn (m:Nat) (r:Rel) (env:List Int) : Option (RF Un):=awf (zi4 m) zi5 (z8 Tryz.f33) (zg Tryz.f33.ntmps 0 [.d (.agg (enc Ty.rel r)),.d (.v (.dat (U:=Un) Ty.int env))]) (retF (zi4 m) Tryz.f33.results.toList [.d])
theorem z1xb (m:Nat) (r:Rel) (env:List Int) : z1fn m r env=cndO (decide (zb8 r.op<0)) (some (zay (false))) (cndO ((↑r.kids.length:Int) != zb8 r.op) (some (zay (false))) (obO (zof (Rel.ids r)) (cndO (z3j (Rel.ids r)) (some (zay (false))) ((zo1 m (z8n r env (0:Int))).bind (zx (zjm m)))))):=by kernel_rfl
theorem z1fo (m:Nat) (r:Rel) (env:List Int) (v0:Int) : zo1 m (z8n r env v0)=cndO (decide (v0<(↑r.kids.length:Int))) (obO (0≤v0∧v0<(↑r.kids.length:Int)) (obO ((3:Nat)*(Rel.ids (r.kids.getD v0.toNat zi)).ht+(2:Nat)<m) (obO (z29 env (Rel.ids (r.kids.getD v0.toNat zi)).ht) (cndO (!z8a (Rel.ids (r.kids.getD v0.toNat zi)) env) (some (.ret,(z8n r env v0))) (zo1 m (z8n r env (IntKind.i64.wrap (v0+1)))))))) (some (.exit 0,(z8n r env v0))):=(z11 (zi5 4) z1fm _).trans (by kernel_rfl)
theorem z1ie (m:Nat) (r:Rel) (env:List Int) (v0:Int) : zjm m .ret (z8n r env v0)=some (zay (false)):=by kernel_rfl
theorem z1na (m:Nat) (r:Rel) (env:List Int) (v0:Int) : zjm m (.exit 0) (z8n r env v0)=cndO ((↑r.cols.length:Int) == z2r (Rel.ids r)) (obO ((3:Nat)*(Rel.ids r).ht+(1:Nat)<m) (obO (z29 env (Rel.ids r).ht) (obO (z13v (Rel.ids r)) (some (zay (zxz (Rel.ids r) env)))))) (some (zay (false))):=by kernel_rfl
theorem z1xc (m:Nat) (r:Rel) (env:List Int) (hm:3*r.ht+2<m+1) (h:z29 env r.ht) (hk:z13v r) (i:Int) : zjm m (.exit 0) (z8n r env i)=some (zay (decide ((r.cols.length:Int)=z45 r) && zq0 r env)):=by
 rw[z1na,za]
 simp only[Rel.ids_eq,z9l]
 by_cases h1 : (r.cols.length:Int)=z45 r
 ·rw[if_pos (by simpa using h1),z6 (by omega),z6 h,z6 hk,decide_eq_true h1,Bool.true_and]
  rfl
 ·rw[if_neg (by simpa using h1),decide_eq_false h1,Bool.false_and]
theorem z1rw (m:Nat) (r:Rel) (env:List Int) (_hr:WS .rel r) (_he:WL .int env) (hm:3*r.ht+2<m+1) (h:z29 env r.ht) : z1fn m r env=some (zay (z8a r env)):=by
 have hkl:WL .rel r.kids:=_hr.rel_kids
 have e:z8a r env=(z14e r && (r.kids.all (fun k=>z8a k env) && (decide ((r.cols.length:Int)=z45 r) && zq0 r env))):=by
  show z14g r env=_
  rw[z22l,z1f9,Bool.and_assoc,Bool.and_assoc];rfl
 rw[z1xb,e]
 simp only[Rel.ids_eq,za,decide_eq_true_eq,z17i]
 unfold z14e
 by_cases c1 : z79 r.op<0
 ·rw[if_pos c1,decide_eq_false (fun e=>e c1)];rfl
 rw[if_neg c1,decide_eq_true c1]
 by_cases c2 : (r.kids.length:Int)=z79 r.op
 ·have hok:z13v r:=fun h9=>by
   have : z79 r.op=2:=by
    rcases h9 with h9 | h9 | h9<;>rw[h9]<;>rfl
   omega
  have hu:=h
  unfold z29 at hu
  have lp:=zhd (L:=zo1 m) (st:=fun i=>z8n r env i) (C:=zjm m) (e:=.exit 0) (fun b=>some (zay (b && (decide ((r.cols.length:Int)=z45 r) && zq0 r env)))) (d:=zi) (fun k=>z8a k env) hkl.len
   (fun i x hi hx hmem=>by
    have hht:=Rel.ht_kid hmem
    rw[z1fo]
    simp only[za,hi,decide_true,if_true,and_true,Int.toNat_natCast,hx,Rel.ids_eq]
    rw[z6 (by omega),z6 (by omega),z6 (show z29 env x.ht by unfold z29;omega)]
    cases z8a x env<;>rfl)
   (by rw[z1fo];simp [za]) (fun i=>by rw[z1ie,Bool.false_and]) (fun i=>by rw[z1xc m r env hm h hok,Bool.true_and])
  rw[if_neg (by simpa using c2),decide_eq_true c2,z6 (show zof r by unfold zof;omega),lp]
  cases z3j r<;>rfl
 ·rw[if_pos (by simpa using c2),decide_eq_false c2];rfl
theorem z1tu (m:Nat) (h_r15_Term:FnOK 18 (z4j m)) (h_r15_all:FnOK 114 (z5d m)) (h_r15_aggs:FnOK 115 (z5v m)) (h_r15_rest:FnOK 66 (z5w m)) (h_r15_Rel:FnOK 33 (z49 m)) : FnOK 33 (z49 (m+1)):=by
 intro args ob rs os h hob
 unfold z49 at h
 split at h
 ·simp only[Option.bind_eq_some_iff,Option.some.injEq,Prod.mk.injEq] at h
  obtain⟨r,e0,env,e1,rfl,rfl,rfl⟩:=h
  obtain rfl:=z18 e0
  obtain rfl:=z1i e1
  exact⟨zd (M:=(zi4 m)) rfl (zf (l1:=[(59,zfd),(65,zld),(33,z49 m),(19,z6j),(66,z5w m)]) (l2:=[]) (l3:=[]) (l4:=[]) (l5:=[]) ⟨z17j,z1rr,h_r15_Rel,zji,h_r15_rest,trivial⟩ trivial trivial trivial trivial) Tryz.func33 (by kernel_rfl) zi5 0 [.d] (fun hwf=>(z1rw m r env (ze hwf (a:=.d (.agg (enc Ty.rel r))) (List.mem_of_getElem? (i:=0) rfl)) (ze hwf (a:=.d (.v (.dat (U:=Un) Ty.int env))) (List.mem_of_getElem? (i:=1) rfl)) (hob _ (List.mem_of_getElem? (i:=0) rfl)) (hob _ (List.mem_of_getElem? (i:=1) rfl)))),zb Tryz.func33 (by kernel_rfl) (by kernel_rfl)⟩
 ·simp at h
theorem zzy : ∀ m,FnOK 18 (z4j m)∧FnOK 114 (z5d m)∧FnOK 115 (z5v m)∧FnOK 66 (z5w m)∧FnOK 33 (z49 m)
 | 0=>by
  refine⟨?_,?_,?_,?_,?_⟩
  ·intro args ob rs os h hob
   unfold z4j at h
   split at h
   ·simp only[Option.bind_eq_some_iff,Option.some.injEq,Prod.mk.injEq] at h
    obtain⟨_,_,_,_,rfl,_,_⟩:=h
    exact absurd (hob _ (List.mem_of_getElem? (i:=0) rfl)) (Nat.not_lt_zero _)
   ·simp at h
  ·intro args ob rs os h hob
   unfold z5d at h
   split at h
   ·simp only[Option.bind_eq_some_iff,Option.some.injEq,Prod.mk.injEq] at h
    obtain⟨_,_,_,_,rfl,_,_⟩:=h
    exact absurd (hob _ (List.mem_of_getElem? (i:=0) rfl)) (Nat.not_lt_zero _)
   ·simp at h
  ·intro args ob rs os h hob
   unfold z5v at h
   split at h
   ·simp only[Option.bind_eq_some_iff,Option.some.injEq,Prod.mk.injEq] at h
    obtain⟨_,_,_,_,rfl,_,_⟩:=h
    exact absurd (hob _ (List.mem_of_getElem? (i:=0) rfl)) (Nat.not_lt_zero _)
   ·simp at h
  ·intro args ob rs os h hob
   unfold z5w at h
   split at h
   ·simp only[Option.bind_eq_some_iff,Option.some.injEq,Prod.mk.injEq] at h
    obtain⟨_,_,_,_,rfl,_,_⟩:=h
    exact absurd (hob _ (List.mem_of_getElem? (i:=0) rfl)) (Nat.not_lt_zero _)
   ·simp at h
  ·intro args ob rs os h hob
   unfold z49 at h
   split at h
   ·simp only[Option.bind_eq_some_iff,Option.some.injEq,Prod.mk.injEq] at h
    obtain⟨_,_,_,_,rfl,_,_⟩:=h
    exact absurd (hob _ (List.mem_of_getElem? (i:=0) rfl)) (Nat.not_lt_zero _)
   ·simp at h
 | m+1=>by
  have ih:=zzy m
  exact⟨z1rs m ih.1 ih.2.1 ih.2.2.1 ih.2.2.2.1 ih.2.2.2.2,z1tr m ih.1 ih.2.1 ih.2.2.1 ih.2.2.2.1 ih.2.2.2.2,z1ru m ih.1 ih.2.1 ih.2.2.1 ih.2.2.2.1 ih.2.2.2.2,z1rv m ih.1 ih.2.1 ih.2.2.1 ih.2.2.2.1 ih.2.2.2.2,z1tu m ih.1 ih.2.1 ih.2.2.1 ih.2.2.2.1 ih.2.2.2.2⟩
def zsd : FnC Un:=fun args=>match args with
 | [x0,x1]=>(dS .rel x0).bind fun r=>(dL .int x1).bind fun env=>some ([z29 env r.ht],z13w (z8a r env),z13x (z8a r env))
 | _=>none
theorem z1xd : FnOK 33 zsd:=by
 intro args ob rs os h hob
 unfold zsd at h
 split at h
 ·simp only[Option.bind_eq_some_iff,Option.some.injEq,Prod.mk.injEq] at h
  obtain⟨r,e0,env,e1,rfl,rfl,rfl⟩:=h
  refine ((zzy (3*r.ht+2+1)).2.2.2.2) _ [3*r.ht+2<3*r.ht+2+1,z29 env r.ht] _ _ (?_ : z49 (3*r.ht+2+1) _=some _) ?_
  ·unfold z49
   simp only[e0,e1,Option.bind_some]
  ·intro p hp
   simp only[List.mem_cons,List.not_mem_nil,or_false] at hp
   rcases hp with rfl | rfl
   ·exact Nat.lt_succ_self _
   ·exact hob _ (List.mem_of_getElem? (i:=0) rfl)
 ·simp at h
end
end Go.Proofs.YtjfpbchdcbhfgaaGreat.B
