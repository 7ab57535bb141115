/- Part 20 of the proof: Sref15r. -/
import Derived.Test.YtolbngdhgcbmgaaGreatPonce19
namespace Go.Proofs.YtolbngdhgcbmgaaGreat.B
open Go Go.RowKit
set_option maxRecDepth 100000
noncomputable section
attribute [local irreducible] awp ctxK itersK iterK retQ retGQ awf ctxF loopF
def M_r15_spare : Mc Un:=mach (tbl []) (tbl []) (tbl []) (tbl []) (tbl [])
def A_r15_spare (r:Bool) : List (A Un):=[.c (.s (.bool r))]
def O_r15_spare (_r:Bool) : List (Ob Un):=[]
def R_r15_spare (r:Bool) : RF Un:=(A_r15_spare r,O_r15_spare r)
def N_r15_spare : Nat→NS:=fun l=>(look l []).getD ⟨[],[],[],[],[],true⟩
def r15_spare_fn (r:Rel) : Option (RF Un):=awf M_r15_spare N_r15_spare (bodyOf Tryz.f18) (entry Tryz.f18.ntmps 0 [.d (.agg (enc Ty.rel r))]) (retF M_r15_spare Tryz.f18.results.toList [.d])
def r15_spare (r:Rel) : Bool :=
  (!(r.op == 1) && !(r.table.toList == (ByteArray.mk #[]).toList)) || (!(r.op == 2) && decide (0<r.rows.length)) || (!(r.op == 3 || r.op == 4 || r.op == 5 || r.op == 6 || r.op == 7) && decide (0<r.terms.length)) ||
  (!(r.op == 7) && decide (0<r.aggs.length)) || (!(r.op == 12) && decide (0<r.keys.length)) || (!(r.op == 9 || r.op == 10 || r.op == 11) && r.all) || (!(r.op == 13) && (!(r.limit == 0) || !(r.skip == 0)))
theorem sp_step {R:Bool→RF Un} (a p x:Bool) {X:Option (RF Un)} (h:X=some (R x)) : cndO a (cndO p (some (R true)) X) X=some (R ((a && p) || x)):=by subst h;cases a<;>cases p<;>cases x<;>rfl
def spX (g p:Bool) (X:Option (RF Un)) : Option (RF Un):=cndO g (cndO p (some (R_r15_spare true)) X) X
def spT (g1 g2 g3 g4 g5 g6 g7 tb rw_ tm ag ky al li sk:Bool) : Option (RF Un):=spX g1 tb (spX g2 rw_ (spX g3 tm (spX g4 ag (spX g5 ky (spX g6 al (cndO g7 (cndO li (some (R_r15_spare true)) (some (R_r15_spare sk))) (some (R_r15_spare false))))))))
theorem spT_eq (g1 g2 g3 g4 g5 g6 g7 tb rw_ tm ag ky al li sk:Bool) : spT g1 g2 g3 g4 g5 g6 g7 tb rw_ tm ag ky al li sk=some (R_r15_spare ((g1 && tb) || ((g2 && rw_) || ((g3 && tm) || ((g4 && ag) || ((g5 && ky) || ((g6 && al) || (g7 && (li || sk))))))))):=by
  have z:cndO g7 (cndO li (some (R_r15_spare true)) (some (R_r15_spare sk))) (some (R_r15_spare false))=some (R_r15_spare (g7 && (li || sk))):=by cases g7<;>cases li<;>rfl
  exact sp_step _ _ _ (sp_step _ _ _ (sp_step _ _ _ (sp_step _ _ _ (sp_step _ _ _ (sp_step _ _ _ z)))))
theorem sp_op1 (table:ByteArray) (cols:List Col) (kids:List Rel) (terms:List Term) (aggs:List Agg) (keys:List By) (limit skip:Int) (all:Bool) (rows:List (List Val)) : r15_spare_fn (.mk 1 table cols kids terms aggs keys limit skip all rows)=spT false true true true true true true (!(table.toList == (ByteArray.mk #[]).toList)) (decide ((rows.length:Int) > 0)) (decide ((terms.length:Int) > 0)) (decide ((aggs.length:Int) > 0)) (decide ((keys.length:Int) > 0)) all (limit != 0) (skip != 0):=by kernel_rfl
theorem sp_op2 (table:ByteArray) (cols:List Col) (kids:List Rel) (terms:List Term) (aggs:List Agg) (keys:List By) (limit skip:Int) (all:Bool) (rows:List (List Val)) : r15_spare_fn (.mk 2 table cols kids terms aggs keys limit skip all rows)=spT true false true true true true true (!(table.toList == (ByteArray.mk #[]).toList)) (decide ((rows.length:Int) > 0)) (decide ((terms.length:Int) > 0)) (decide ((aggs.length:Int) > 0)) (decide ((keys.length:Int) > 0)) all (limit != 0) (skip != 0):=by kernel_rfl
theorem sp_op3 (table:ByteArray) (cols:List Col) (kids:List Rel) (terms:List Term) (aggs:List Agg) (keys:List By) (limit skip:Int) (all:Bool) (rows:List (List Val)) : r15_spare_fn (.mk 3 table cols kids terms aggs keys limit skip all rows)=spT true true false true true true true (!(table.toList == (ByteArray.mk #[]).toList)) (decide ((rows.length:Int) > 0)) (decide ((terms.length:Int) > 0)) (decide ((aggs.length:Int) > 0)) (decide ((keys.length:Int) > 0)) all (limit != 0) (skip != 0):=by kernel_rfl
theorem sp_op4 (table:ByteArray) (cols:List Col) (kids:List Rel) (terms:List Term) (aggs:List Agg) (keys:List By) (limit skip:Int) (all:Bool) (rows:List (List Val)) : r15_spare_fn (.mk 4 table cols kids terms aggs keys limit skip all rows)=spT true true false true true true true (!(table.toList == (ByteArray.mk #[]).toList)) (decide ((rows.length:Int) > 0)) (decide ((terms.length:Int) > 0)) (decide ((aggs.length:Int) > 0)) (decide ((keys.length:Int) > 0)) all (limit != 0) (skip != 0):=by kernel_rfl
theorem sp_op5 (table:ByteArray) (cols:List Col) (kids:List Rel) (terms:List Term) (aggs:List Agg) (keys:List By) (limit skip:Int) (all:Bool) (rows:List (List Val)) : r15_spare_fn (.mk 5 table cols kids terms aggs keys limit skip all rows)=spT true true false true true true true (!(table.toList == (ByteArray.mk #[]).toList)) (decide ((rows.length:Int) > 0)) (decide ((terms.length:Int) > 0)) (decide ((aggs.length:Int) > 0)) (decide ((keys.length:Int) > 0)) all (limit != 0) (skip != 0):=by kernel_rfl
theorem sp_op6 (table:ByteArray) (cols:List Col) (kids:List Rel) (terms:List Term) (aggs:List Agg) (keys:List By) (limit skip:Int) (all:Bool) (rows:List (List Val)) : r15_spare_fn (.mk 6 table cols kids terms aggs keys limit skip all rows)=spT true true false true true true true (!(table.toList == (ByteArray.mk #[]).toList)) (decide ((rows.length:Int) > 0)) (decide ((terms.length:Int) > 0)) (decide ((aggs.length:Int) > 0)) (decide ((keys.length:Int) > 0)) all (limit != 0) (skip != 0):=by kernel_rfl
theorem sp_op7 (table:ByteArray) (cols:List Col) (kids:List Rel) (terms:List Term) (aggs:List Agg) (keys:List By) (limit skip:Int) (all:Bool) (rows:List (List Val)) : r15_spare_fn (.mk 7 table cols kids terms aggs keys limit skip all rows)=spT true true false false true true true (!(table.toList == (ByteArray.mk #[]).toList)) (decide ((rows.length:Int) > 0)) (decide ((terms.length:Int) > 0)) (decide ((aggs.length:Int) > 0)) (decide ((keys.length:Int) > 0)) all (limit != 0) (skip != 0):=by kernel_rfl
theorem sp_op8 (table:ByteArray) (cols:List Col) (kids:List Rel) (terms:List Term) (aggs:List Agg) (keys:List By) (limit skip:Int) (all:Bool) (rows:List (List Val)) : r15_spare_fn (.mk 8 table cols kids terms aggs keys limit skip all rows)=spT true true true true true true true (!(table.toList == (ByteArray.mk #[]).toList)) (decide ((rows.length:Int) > 0)) (decide ((terms.length:Int) > 0)) (decide ((aggs.length:Int) > 0)) (decide ((keys.length:Int) > 0)) all (limit != 0) (skip != 0):=by kernel_rfl
theorem sp_op9 (table:ByteArray) (cols:List Col) (kids:List Rel) (terms:List Term) (aggs:List Agg) (keys:List By) (limit skip:Int) (all:Bool) (rows:List (List Val)) : r15_spare_fn (.mk 9 table cols kids terms aggs keys limit skip all rows)=spT true true true true true false true (!(table.toList == (ByteArray.mk #[]).toList)) (decide ((rows.length:Int) > 0)) (decide ((terms.length:Int) > 0)) (decide ((aggs.length:Int) > 0)) (decide ((keys.length:Int) > 0)) all (limit != 0) (skip != 0):=by kernel_rfl
theorem sp_op10 (table:ByteArray) (cols:List Col) (kids:List Rel) (terms:List Term) (aggs:List Agg) (keys:List By) (limit skip:Int) (all:Bool) (rows:List (List Val)) : r15_spare_fn (.mk 10 table cols kids terms aggs keys limit skip all rows)=spT true true true true true false true (!(table.toList == (ByteArray.mk #[]).toList)) (decide ((rows.length:Int) > 0)) (decide ((terms.length:Int) > 0)) (decide ((aggs.length:Int) > 0)) (decide ((keys.length:Int) > 0)) all (limit != 0) (skip != 0):=by kernel_rfl
theorem sp_op11 (table:ByteArray) (cols:List Col) (kids:List Rel) (terms:List Term) (aggs:List Agg) (keys:List By) (limit skip:Int) (all:Bool) (rows:List (List Val)) : r15_spare_fn (.mk 11 table cols kids terms aggs keys limit skip all rows)=spT true true true true true false true (!(table.toList == (ByteArray.mk #[]).toList)) (decide ((rows.length:Int) > 0)) (decide ((terms.length:Int) > 0)) (decide ((aggs.length:Int) > 0)) (decide ((keys.length:Int) > 0)) all (limit != 0) (skip != 0):=by kernel_rfl
theorem sp_op12 (table:ByteArray) (cols:List Col) (kids:List Rel) (terms:List Term) (aggs:List Agg) (keys:List By) (limit skip:Int) (all:Bool) (rows:List (List Val)) : r15_spare_fn (.mk 12 table cols kids terms aggs keys limit skip all rows)=spT true true true true false true true (!(table.toList == (ByteArray.mk #[]).toList)) (decide ((rows.length:Int) > 0)) (decide ((terms.length:Int) > 0)) (decide ((aggs.length:Int) > 0)) (decide ((keys.length:Int) > 0)) all (limit != 0) (skip != 0):=by kernel_rfl
theorem sp_op13 (table:ByteArray) (cols:List Col) (kids:List Rel) (terms:List Term) (aggs:List Agg) (keys:List By) (limit skip:Int) (all:Bool) (rows:List (List Val)) : r15_spare_fn (.mk 13 table cols kids terms aggs keys limit skip all rows)=spT true true true true true true false (!(table.toList == (ByteArray.mk #[]).toList)) (decide ((rows.length:Int) > 0)) (decide ((terms.length:Int) > 0)) (decide ((aggs.length:Int) > 0)) (decide ((keys.length:Int) > 0)) all (limit != 0) (skip != 0):=by kernel_rfl
def spareOK (r:Rel) : Prop:=0≤kidsN r.op
theorem r15_spare_spec (r:Rel) (_hr:WS .rel r) (h:spareOK r) : r15_spare_fn r=some (R_r15_spare (r15_spare r)):=by
  have g:∀ n : Nat,decide ((n:Int) > 0)=decide (0<n):=fun n=>decide_eq_decide.2 (by omega)
  have hop:r.op=1∨r.op=2∨r.op=3∨r.op=4∨r.op=5∨r.op=6∨r.op=7∨r.op=8∨r.op=9∨r.op=10∨r.op=11∨r.op=12∨r.op=13:=by
    unfold spareOK kidsN at h
    split at h
    · omega
    · split at h
      · omega
      · split at h<;>omega
  cases r with
  | mk op table cols kids terms aggs keys limit skip all rows =>
    simp only[Rel.op_mk] at hop
    rcases hop with rfl | rfl | rfl | rfl | rfl | rfl | rfl | rfl | rfl | rfl | rfl | rfl | rfl
    · rw[sp_op1,spT_eq];unfold r15_spare;simp only[g,Rel.op_mk,Rel.table_mk,Rel.rows_mk,Rel.terms_mk,Rel.aggs_mk,Rel.keys_mk,Rel.limit_mk,Rel.skip_mk,Rel.all_mk,bne];simp [Bool.or_assoc];rfl
    · rw[sp_op2,spT_eq];unfold r15_spare;simp only[g,Rel.op_mk,Rel.table_mk,Rel.rows_mk,Rel.terms_mk,Rel.aggs_mk,Rel.keys_mk,Rel.limit_mk,Rel.skip_mk,Rel.all_mk,bne];simp [Bool.or_assoc];rfl
    · rw[sp_op3,spT_eq];unfold r15_spare;simp only[g,Rel.op_mk,Rel.table_mk,Rel.rows_mk,Rel.terms_mk,Rel.aggs_mk,Rel.keys_mk,Rel.limit_mk,Rel.skip_mk,Rel.all_mk,bne];simp [Bool.or_assoc];rfl
    · rw[sp_op4,spT_eq];unfold r15_spare;simp only[g,Rel.op_mk,Rel.table_mk,Rel.rows_mk,Rel.terms_mk,Rel.aggs_mk,Rel.keys_mk,Rel.limit_mk,Rel.skip_mk,Rel.all_mk,bne];simp [Bool.or_assoc];rfl
    · rw[sp_op5,spT_eq];unfold r15_spare;simp only[g,Rel.op_mk,Rel.table_mk,Rel.rows_mk,Rel.terms_mk,Rel.aggs_mk,Rel.keys_mk,Rel.limit_mk,Rel.skip_mk,Rel.all_mk,bne];simp [Bool.or_assoc];rfl
    · rw[sp_op6,spT_eq];unfold r15_spare;simp only[g,Rel.op_mk,Rel.table_mk,Rel.rows_mk,Rel.terms_mk,Rel.aggs_mk,Rel.keys_mk,Rel.limit_mk,Rel.skip_mk,Rel.all_mk,bne];simp [Bool.or_assoc];rfl
    · rw[sp_op7,spT_eq];unfold r15_spare;simp only[g,Rel.op_mk,Rel.table_mk,Rel.rows_mk,Rel.terms_mk,Rel.aggs_mk,Rel.keys_mk,Rel.limit_mk,Rel.skip_mk,Rel.all_mk,bne];simp [Bool.or_assoc];rfl
    · rw[sp_op8,spT_eq];unfold r15_spare;simp only[g,Rel.op_mk,Rel.table_mk,Rel.rows_mk,Rel.terms_mk,Rel.aggs_mk,Rel.keys_mk,Rel.limit_mk,Rel.skip_mk,Rel.all_mk,bne];simp [Bool.or_assoc];rfl
    · rw[sp_op9,spT_eq];unfold r15_spare;simp only[g,Rel.op_mk,Rel.table_mk,Rel.rows_mk,Rel.terms_mk,Rel.aggs_mk,Rel.keys_mk,Rel.limit_mk,Rel.skip_mk,Rel.all_mk,bne];simp [Bool.or_assoc];rfl
    · rw[sp_op10,spT_eq];unfold r15_spare;simp only[g,Rel.op_mk,Rel.table_mk,Rel.rows_mk,Rel.terms_mk,Rel.aggs_mk,Rel.keys_mk,Rel.limit_mk,Rel.skip_mk,Rel.all_mk,bne];simp [Bool.or_assoc];rfl
    · rw[sp_op11,spT_eq];unfold r15_spare;simp only[g,Rel.op_mk,Rel.table_mk,Rel.rows_mk,Rel.terms_mk,Rel.aggs_mk,Rel.keys_mk,Rel.limit_mk,Rel.skip_mk,Rel.all_mk,bne];simp [Bool.or_assoc];rfl
    · rw[sp_op12,spT_eq];unfold r15_spare;simp only[g,Rel.op_mk,Rel.table_mk,Rel.rows_mk,Rel.terms_mk,Rel.aggs_mk,Rel.keys_mk,Rel.limit_mk,Rel.skip_mk,Rel.all_mk,bne];simp [Bool.or_assoc];rfl
    · rw[sp_op13,spT_eq];unfold r15_spare;simp only[g,Rel.op_mk,Rel.table_mk,Rel.rows_mk,Rel.terms_mk,Rel.aggs_mk,Rel.keys_mk,Rel.limit_mk,Rel.skip_mk,Rel.all_mk,bne];simp [Bool.or_assoc];rfl
def F_r15_spare : FnC Un:=fun args=>match args with
  | [x0]=>(dS .rel x0).bind fun r=>some ([spareOK r],A_r15_spare (r15_spare r),O_r15_spare (r15_spare r))
  | _=>none
theorem ok_r15_spare : FnOK 18 F_r15_spare:=by
  intro args ob rs os h hob
  unfold F_r15_spare at h
  split at h
  · simp only[Option.bind_eq_some_iff,Option.some.injEq,Prod.mk.injEq] at h
    obtain⟨r,e0,rfl,rfl,rfl⟩:=h
    obtain rfl:=dS_eq e0
    exact⟨fn_contractF (M:=M_r15_spare) rfl (tbl_ok (l1:=[]) (l2:=[]) (l3:=[]) (l4:=[]) (l5:=[]) trivial trivial trivial trivial trivial) Tryz.func18 (by kernel_rfl) N_r15_spare 0 [.d] (fun hwf=>(r15_spare_spec r (wfArg hwf (a:=.d (.agg (enc Ty.rel r))) (List.mem_of_getElem? (i:=0) rfl)) (hob _ (List.mem_of_getElem? (i:=0) rfl)))),hasBody_of Tryz.func18 (by kernel_rfl) (by kernel_rfl)⟩
  · simp at h
def head15 (t:Term) (env:List Int) : Bool:=(r15_op t).2.2 && decide (¬ (t.kids.length:Int)<(r15_op t).1) && decide (¬ (t.kids.length:Int) > (r15_op t).2.1) && decide ((t.sub.length:Int)=r15_subs t) && r15_own t env
def headR15 (r:Rel) : Bool:=decide (¬ kidsN r.op<0) && decide ((r.kids.length:Int)=kidsN r.op) && !r15_spare r
def headA15 (a:Agg) : Bool:=((a.name.toList == (ByteArray.mk #[99,111,117,110,116]).toList) || (a.name.toList == (ByteArray.mk #[115,117,109]).toList) || (a.name.toList == (ByteArray.mk #[109,105,110]).toList) || (a.name.toList == (ByteArray.mk #[109,97,120]).toList)) && decide (a.t.length≤1) && (decide (a.t.length≠0) || ((a.name.toList == (ByteArray.mk #[99,111,117,110,116]).toList) && !a.distinct))
mutual
def term15 : Term→List Int→Bool
  | .mk op v depth at_ name kids sub type,env=>head15 (.mk op v depth at_ name kids sub type) env && terms15 kids env && (decide (sub.length≠1) || (rels15 sub env && (op == 27 || widthR (sub.getD 0 zeroRel) == 1)))
def terms15 : List Term→List Int→Bool
  | [],_=>true
  | t::l,env=>term15 t env && terms15 l env
def agg15 : Agg→List Int→Bool
  | .mk name distinct t,env=>headA15 (.mk name distinct t) && terms15 t env
def aggs15 : List Agg→List Int→Bool
  | [],_=>true
  | a::l,env=>agg15 a env && aggs15 l env
def rel15 : Rel→List Int→Bool
  | .mk op table cols kids terms aggs keys limit skip all rows,env=>headR15 (.mk op table cols kids terms aggs keys limit skip all rows) && rels15 kids env && decide ((cols.length:Int)=widthR (.mk op table cols kids terms aggs keys limit skip all rows)) &&
    (if op=1 then !(table.toList == (ByteArray.mk #[]).toList)
     else if op=2 then r15_rows rows cols.length
     else if op=3∨op=6 then decide (terms.length=1) && terms15 terms (inW15 (.mk op table cols kids terms aggs keys limit skip all rows)::env)
     else if op=4 then terms15 terms (inW15 (.mk op table cols kids terms aggs keys limit skip all rows)::env)
     else if op=5 then decide (terms.length≤1) && terms15 terms (inW15 (.mk op table cols kids terms aggs keys limit skip all rows)::env)
     else if op=7 then terms15 terms (inW15 (.mk op table cols kids terms aggs keys limit skip all rows)::env) && aggs15 aggs (inW15 (.mk op table cols kids terms aggs keys limit skip all rows)::env)
     else if op=9∨op=10∨op=11 then widthR (kids.getD 0 zeroRel) == widthR (kids.getD 1 zeroRel)
     else if op=12 then r15_keys keys (widthR (.mk op table cols kids terms aggs keys limit skip all rows))
     else if op=13 then decide (-1≤limit∧limit≤1000000000000000∧0≤skip∧skip≤1000000000000000)
     else true)
def rels15 : List Rel→List Int→Bool
  | [],_=>true
  | r::l,env=>rel15 r env && rels15 l env
end
def rest15 (r:Rel) (env:List Int) : Bool :=
  if r.op=1 then !(r.table.toList == (ByteArray.mk #[]).toList)
  else if r.op=2 then r15_rows r.rows r.cols.length
  else if r.op=3∨r.op=6 then decide (r.terms.length=1) && terms15 r.terms (inW15 r::env)
  else if r.op=4 then terms15 r.terms (inW15 r::env)
  else if r.op=5 then decide (r.terms.length≤1) && terms15 r.terms (inW15 r::env)
  else if r.op=7 then terms15 r.terms (inW15 r::env) && aggs15 r.aggs (inW15 r::env)
  else if r.op=9∨r.op=10∨r.op=11 then widthR (r.kids.getD 0 zeroRel) == widthR (r.kids.getD 1 zeroRel)
  else if r.op=12 then r15_keys r.keys (widthR r)
  else if r.op=13 then decide (-1≤r.limit∧r.limit≤1000000000000000∧0≤r.skip∧r.skip≤1000000000000000)
  else true
theorem term15_eq (t:Term) (env:List Int) : term15 t env=(head15 t env && terms15 t.kids env && (decide (t.sub.length≠1) || (rels15 t.sub env && (t.op == 27 || widthR (t.sub.getD 0 zeroRel) == 1)))):=by cases t;simp only[term15];rfl
theorem agg15_eq (a:Agg) (env:List Int) : agg15 a env=(headA15 a && terms15 a.t env):=by cases a;simp only[agg15];rfl
theorem rel15_eq (r:Rel) (env:List Int) : rel15 r env=(headR15 r && rels15 r.kids env && decide ((r.cols.length:Int)=widthR r) && rest15 r env):=by cases r;simp only[rel15];rfl
theorem terms15_all : ∀ (l:List Term) (env:List Int),terms15 l env=l.all fun t=>term15 t env
  | [],_=>rfl
  | t::l,env=>by simp only[terms15,List.all_cons,terms15_all l env]
theorem aggs15_all : ∀ (l:List Agg) (env:List Int),aggs15 l env=l.all fun t=>agg15 t env
  | [],_=>rfl
  | t::l,env=>by simp only[aggs15,List.all_cons,aggs15_all l env]
theorem rels15_all : ∀ (l:List Rel) (env:List Int),rels15 l env=l.all fun t=>rel15 t env
  | [],_=>rfl
  | t::l,env=>by simp only[rels15,List.all_cons,rels15_all l env]
def restOK (r:Rel) : Prop:=(r.op=9∨r.op=10∨r.op=11)→2≤r.kids.length
def r15_Term (t:Term) (env:List Int) : Bool:=term15 t env
def r15_all (l:List Term) (env:List Int) : Bool:=terms15 l env
def r15_aggs (l:List Agg) (env:List Int) : Bool:=aggs15 l env
def r15_rest (r:Rel) (env:List Int) : Bool:=rest15 r env
def r15_Rel (r:Rel) (env:List Int) : Bool:=rel15 r env
def A_r15_Term (r:Bool) : List (A Un):=[.c (.s (.bool r))]
def O_r15_Term (_r:Bool) : List (Ob Un):=[]
def Fm_r15_Term (m:Nat) : FnC Un:=fun args=>match args with
  | [x0,x1]=>(dS .term x0).bind fun t=>(dL .int x1).bind fun env=>some ([3*t.ht<m,env15 env t.ht],A_r15_Term (r15_Term t env),O_r15_Term (r15_Term t env))
  | _=>none
def A_r15_all (r:Bool) : List (A Un):=[.c (.s (.bool r))]
def O_r15_all (_r:Bool) : List (Ob Un):=[]
def Fm_r15_all (m:Nat) : FnC Un:=fun args=>match args with
  | [x0,x1]=>(dL .term x0).bind fun l=>(dL .int x1).bind fun env=>some ([3*htTs l+1<m,env15 env (htTs l)],A_r15_all (r15_all l env),O_r15_all (r15_all l env))
  | _=>none
def A_r15_aggs (r:Bool) : List (A Un):=[.c (.s (.bool r))]
def O_r15_aggs (_r:Bool) : List (Ob Un):=[]
def Fm_r15_aggs (m:Nat) : FnC Un:=fun args=>match args with
  | [x0,x1]=>(dL .agg x0).bind fun l=>(dL .int x1).bind fun env=>some ([3*htAs l<m,env15 env (htAs l)],A_r15_aggs (r15_aggs l env),O_r15_aggs (r15_aggs l env))
  | _=>none
def A_r15_rest (r:Bool) : List (A Un):=[.c (.s (.bool r))]
def O_r15_rest (_r:Bool) : List (Ob Un):=[]
def Fm_r15_rest (m:Nat) : FnC Un:=fun args=>match args with
  | [x0,x1]=>(dS .rel x0).bind fun r=>(dL .int x1).bind fun env=>some ([3*r.ht+1<m,env15 env r.ht,restOK r],A_r15_rest (r15_rest r env),O_r15_rest (r15_rest r env))
  | _=>none
def A_r15_Rel (r:Bool) : List (A Un):=[.c (.s (.bool r))]
def O_r15_Rel (_r:Bool) : List (Ob Un):=[]
def Fm_r15_Rel (m:Nat) : FnC Un:=fun args=>match args with
  | [x0,x1]=>(dS .rel x0).bind fun r=>(dL .int x1).bind fun env=>some ([3*r.ht+2<m,env15 env r.ht],A_r15_Rel (r15_Rel r env),O_r15_Rel (r15_Rel r env))
  | _=>none
def M_r15_Term (m:Nat) : Mc Un:=mach (tbl [(153,F_r15_op),(154,F_r15_subs),(155,F_r15_own),(120,Fm_r15_Term m),(6,Fm_r15_Rel m),(19,F_r15_Width)]) (tbl []) (tbl []) (tbl []) (tbl [])
def R_r15_Term (r:Bool) : RF Un:=(A_r15_Term r,O_r15_Term r)
def N_r15_Term : Nat→NS:=fun l=>(look l [(5,{ ts:=bl 83 278,bs:=bl 83 4,nm:=[],cs:=true })]).getD ⟨[],[],[],[],[],true⟩
def r15_Term_s5 (t:Term) (env:List Int) (v0:Int) : S Un:=(st 83 83 332 0 [(1,al .int env),(2,ax 2),(4,ab false),(8,ai v0)] [(2,bg .term t)] [])
def r15_Term_B5 : Code:=sub (bodyOf Tryz.f120) [1,1,1,0,1,2,2]
def r15_Term_L5 (m:Nat) : S Un→Option (EX Un):=loopF (N_r15_Term 5) (fun s Q=>awf (M_r15_Term m) N_r15_Term r15_Term_B5 s Q)
def r15_Term_C5 (m:Nat) : Exit→S Un→Option (RF Un):=ctxF (M_r15_Term m) N_r15_Term (bodyOf Tryz.f120) [1,1,1,0,1,2] (retF (M_r15_Term m) Tryz.f120.results.toList [.d])
def r15_Term_fn (m:Nat) (t:Term) (env:List Int) : Option (RF Un):=awf (M_r15_Term m) N_r15_Term (bodyOf Tryz.f120) (entry Tryz.f120.ntmps 0 [.d (.agg (enc Ty.term t)),.d (.v (.dat (U:=Un) Ty.int env))]) (retF (M_r15_Term m) Tryz.f120.results.toList [.d])
theorem r15_Term_in (m:Nat) (t:Term) (env:List Int) : r15_Term_fn m t env=cndO (!(r15_op (Term.ids t)).snd.snd) (some (R_r15_Term (false))) (cndO (decide ((↑t.kids.length:Int)<(r15_op (Term.ids t)).fst)) (some (R_r15_Term (false))) (cndO (decide ((↑t.kids.length:Int) > (r15_op (Term.ids t)).snd.fst)) (some (R_r15_Term (false))) (cndO ((↑t.sub.length:Int) != r15_subs (Term.ids t)) (some (R_r15_Term (false))) (cndO (!r15_own (Term.ids t) env) (some (R_r15_Term (false))) ((r15_Term_L5 m (r15_Term_s5 t env (0:Int))).bind (thenX (r15_Term_C5 m))))))):=by kernel_rfl
theorem r15_Term_l5 (m:Nat) (t:Term) (env:List Int) (v0:Int) : r15_Term_L5 m (r15_Term_s5 t env v0)=cndO (decide (v0<(↑t.kids.length:Int))) (obO (0≤v0∧v0<(↑t.kids.length:Int)) (obO ((3:Nat)*(Term.ids (t.kids.getD v0.toNat zeroTerm)).ht<m) (obO (env15 env (Term.ids (t.kids.getD v0.toNat zeroTerm)).ht) (cndO (!r15_Term (Term.ids (t.kids.getD v0.toNat zeroTerm)) env) (some (.ret,(r15_Term_s5 t env v0))) (r15_Term_L5 m (r15_Term_s5 t env (IntKind.i64.wrap (v0+1)))))))) (some (.exit 0,(r15_Term_s5 t env v0))):=(loopF_eq (N_r15_Term 5) r15_Term_B5 _).trans (by kernel_rfl)
theorem r15_Term_a5_ret (m:Nat) (t:Term) (env:List Int) (v0:Int) : r15_Term_C5 m .ret (r15_Term_s5 t env v0)=some (R_r15_Term (false)):=by kernel_rfl
theorem r15_Term_a5_x0 (m:Nat) (t:Term) (env:List Int) (v0:Int) : r15_Term_C5 m (.exit 0) (r15_Term_s5 t env v0)=cndO ((↑t.sub.length:Int) == (1:Int)) (obO ((0:Int)≤(0:Int)∧(0:Int)<(↑t.sub.length:Int)) (obO ((3:Nat)*(Rel.ids (t.sub.getD 0 zeroRel)).ht+(2:Nat)<m) (obO (env15 env (Rel.ids (t.sub.getD 0 zeroRel)).ht) (cndO (r15_Rel (Rel.ids (t.sub.getD 0 zeroRel)) env) (cndO (t.op == 27) (some (R_r15_Term (true))) (obO ((0:Int)≤(0:Int)∧(0:Int)<(↑t.sub.length:Int)) (some (R_r15_Term (r15_Width (Rel.ids (t.sub.getD 0 zeroRel)) == 1))))) (some (R_r15_Term (false))))))) (some (R_r15_Term (true))):=by kernel_rfl
theorem term15_tail (m:Nat) (t:Term) (env:List Int) (hm:3*t.ht<m+1) (h:env.length+t.ht≤8000000) (i:Int) : r15_Term_C5 m (.exit 0) (r15_Term_s5 t env i)=some (R_r15_Term (decide (t.sub.length≠1) || (rels15 t.sub env && (t.op == 27 || widthR (t.sub.getD 0 zeroRel) == 1)))):=by
  rw[r15_Term_a5_x0,cndO_eq]
  by_cases h1 : t.sub.length=1
  · obtain⟨s,hs⟩ : ∃ s,t.sub=[s]:=by
      match hk : t.sub,h1 with
      | [s],_=>exact⟨s,rfl⟩
    have hht:s.ht<t.ht:=Term.ht_sub (by rw[hs];simp)
    have hg:t.sub.getD 0 zeroRel=s:=by rw[hs];rfl
    rw[if_pos (by rw[beq_iff_eq];omega),hg,decide_eq_false (fun e=>e h1),Bool.false_or]
    simp only[Rel.ids_eq]
    rw[obO_pos (by omega),obO_pos (by omega),obO_pos (show env15 env s.ht by unfold env15;omega)]
    have hr:rels15 t.sub env=r15_Rel s env:=by rw[hs];simp only[rels15,Bool.and_true];rfl
    rw[hr,r15_Width_eq]
    cases r15_Rel s env
    · rfl
    · rw[cndO_eq,if_pos rfl,Bool.true_and,cndO_eq]
      cases t.op == 27
      · rw[if_neg (by decide),obO_pos (by omega),Bool.false_or]
      · rfl
  · rw[if_neg (by rw[beq_iff_eq];omega),decide_eq_true h1];rfl
theorem r15_Term_spec (m:Nat) (t:Term) (env:List Int) (_ht:WS .term t) (_he:WL .int env) (hm:3*t.ht<m+1) (h:env15 env t.ht) : r15_Term_fn m t env=some (R_r15_Term (r15_Term t env)):=by
  have hk:WL .term t.kids:=_ht.term_kids
  unfold env15 at h
  have lp:=loop_all (L:=r15_Term_L5 m) (st:=fun i=>r15_Term_s5 t env i) (C:=r15_Term_C5 m) (e:=.exit 0) (fun b=>some (R_r15_Term (b && (decide (t.sub.length≠1) || (rels15 t.sub env && (t.op == 27 || widthR (t.sub.getD 0 zeroRel) == 1)))))) (d:=zeroTerm) (fun k=>r15_Term k env) hk.len
    (fun i x hi hx hmem=>by
      have hht:=Term.ht_kid hmem
      rw[r15_Term_l5]
      simp only[cndO_eq,hi,decide_true,if_true,and_true,Int.toNat_natCast,hx,Term.ids_eq]
      rw[obO_pos (by omega),obO_pos (by omega),obO_pos (show env15 env x.ht by unfold env15;omega)]
      cases r15_Term x env<;>rfl)
    (by rw[r15_Term_l5];simp [cndO_eq]) (fun i=>by rw[r15_Term_a5_ret,Bool.false_and]) (fun i=>by rw[term15_tail m t env hm h,Bool.true_and])
  have e:r15_Term t env=(head15 t env && (t.kids.all (fun k=>r15_Term k env) && (decide (t.sub.length≠1) || (rels15 t.sub env && (t.op == 27 || widthR (t.sub.getD 0 zeroRel) == 1))))):=by
    show term15 t env=_
    rw[term15_eq,terms15_all,Bool.and_assoc];rfl
  rw[r15_Term_in,e]
  generalize (t.kids.all (fun k=>r15_Term k env) && (decide (t.sub.length≠1) || (rels15 t.sub env && (t.op == 27 || widthR (t.sub.getD 0 zeroRel) == 1))))=B at lp
  simp only[Term.ids_eq]
  unfold head15
  generalize r15_op t=o
  generalize r15_own t env=w
  generalize r15_subs t=sb
  cases o.2.2
  · rfl
  simp only[cndO_eq,decide_eq_true_eq,Bool.not_true,Bool.true_and]
  rw[if_neg (by decide)]
  by_cases c1 : (t.kids.length:Int)<o.1
  · rw[if_pos c1,decide_eq_false (fun e=>e c1)];rfl
  rw[if_neg c1,decide_eq_true c1]
  by_cases c2 : (t.kids.length:Int) > o.2.1
  · rw[if_pos c2,decide_eq_false (fun e=>e c2)];rfl
  rw[if_neg c2,decide_eq_true c2]
  by_cases c3 : (t.sub.length:Int)=sb
  · rw[if_neg (by simpa using c3),decide_eq_true c3]
    cases w
    · rfl
    · rw[if_neg (by decide)]
      exact lp
  · rw[if_pos (by simpa using c3),decide_eq_false c3];rfl
theorem okm_r15_Term (m:Nat) (h_r15_Term:FnOK 120 (Fm_r15_Term m)) (h_r15_all:FnOK 79 (Fm_r15_all m)) (h_r15_aggs:FnOK 80 (Fm_r15_aggs m)) (h_r15_rest:FnOK 20 (Fm_r15_rest m)) (h_r15_Rel:FnOK 6 (Fm_r15_Rel m)) : FnOK 120 (Fm_r15_Term (m+1)):=by
  intro args ob rs os h hob
  unfold Fm_r15_Term at h
  split at h
  · simp only[Option.bind_eq_some_iff,Option.some.injEq,Prod.mk.injEq] at h
    obtain⟨t,e0,env,e1,rfl,rfl,rfl⟩:=h
    obtain rfl:=dS_eq e0
    obtain rfl:=dL_eq e1
    exact⟨fn_contractF (M:=(M_r15_Term m)) rfl (tbl_ok (l1:=[(153,F_r15_op),(154,F_r15_subs),(155,F_r15_own),(120,Fm_r15_Term m),(6,Fm_r15_Rel m),(19,F_r15_Width)]) (l2:=[]) (l3:=[]) (l4:=[]) (l5:=[]) ⟨ok_r15_op,ok_r15_subs,ok_r15_own,h_r15_Term,h_r15_Rel,ok_r15_Width,trivial⟩ trivial trivial trivial trivial) Tryz.func120 (by kernel_rfl) N_r15_Term 0 [.d] (fun hwf=>(r15_Term_spec m t env (wfArg hwf (a:=.d (.agg (enc Ty.term t))) (List.mem_of_getElem? (i:=0) rfl)) (wfArg hwf (a:=.d (.v (.dat (U:=Un) Ty.int env))) (List.mem_of_getElem? (i:=1) rfl)) (hob _ (List.mem_of_getElem? (i:=0) rfl)) (hob _ (List.mem_of_getElem? (i:=1) rfl)))),hasBody_of Tryz.func120 (by kernel_rfl) (by kernel_rfl)⟩
  · simp at h
def M_r15_all (m:Nat) : Mc Un:=mach (tbl [(120,Fm_r15_Term m)]) (tbl []) (tbl []) (tbl []) (tbl [])
def R_r15_all (r:Bool) : RF Un:=(A_r15_all r,O_r15_all r)
def N_r15_all : Nat→NS:=fun l=>(look l [(2,{ ts:=bl 19 51,bs:=bl 19 0,nm:=[],cs:=true })]).getD ⟨[],[],[],[],[],true⟩
def r15_all_s2 (l:List Term) (env:List Int) (v0:Int) : S Un:=(st 19 19 76 0 [(0,al .term l),(1,al .int env),(4,ab false),(5,ai v0)] [] [])
def r15_all_B2 : Code:=sub (bodyOf Tryz.f79) [1,0,1,2,2]
def r15_all_L2 (m:Nat) : S Un→Option (EX Un):=loopF (N_r15_all 2) (fun s Q=>awf (M_r15_all m) N_r15_all r15_all_B2 s Q)
def r15_all_C2 (m:Nat) : Exit→S Un→Option (RF Un):=ctxF (M_r15_all m) N_r15_all (bodyOf Tryz.f79) [1,0,1,2] (retF (M_r15_all m) Tryz.f79.results.toList [.d])
def r15_all_fn (m:Nat) (l:List Term) (env:List Int) : Option (RF Un):=awf (M_r15_all m) N_r15_all (bodyOf Tryz.f79) (entry Tryz.f79.ntmps 0 [.d (.v (.dat (U:=Un) Ty.term l)),.d (.v (.dat (U:=Un) Ty.int env))]) (retF (M_r15_all m) Tryz.f79.results.toList [.d])
theorem r15_all_in (m:Nat) (l:List Term) (env:List Int) : r15_all_fn m l env=(r15_all_L2 m (r15_all_s2 l env (0:Int))).bind (thenX (r15_all_C2 m)):=by kernel_rfl
theorem r15_all_l2 (m:Nat) (l:List Term) (env:List Int) (v0:Int) : r15_all_L2 m (r15_all_s2 l env v0)=cndO (decide (v0<(↑l.length:Int))) (obO (0≤v0∧v0<(↑l.length:Int)) (obO ((3:Nat)*(Term.ids (l.getD v0.toNat zeroTerm)).ht<m) (obO (env15 env (Term.ids (l.getD v0.toNat zeroTerm)).ht) (cndO (!r15_Term (Term.ids (l.getD v0.toNat zeroTerm)) env) (some (.ret,(r15_all_s2 l env v0))) (r15_all_L2 m (r15_all_s2 l env (IntKind.i64.wrap (v0+1)))))))) (some (.exit 0,(r15_all_s2 l env v0))):=(loopF_eq (N_r15_all 2) r15_all_B2 _).trans (by kernel_rfl)
theorem r15_all_a2_ret (m:Nat) (l:List Term) (env:List Int) (v0:Int) : r15_all_C2 m .ret (r15_all_s2 l env v0)=some (R_r15_all (false)):=by kernel_rfl
theorem r15_all_a2_x0 (m:Nat) (l:List Term) (env:List Int) (v0:Int) : r15_all_C2 m (.exit 0) (r15_all_s2 l env v0)=some (R_r15_all (true)):=by kernel_rfl
theorem r15_all_spec (m:Nat) (l:List Term) (env:List Int) (hl:WL .term l) (_he:WL .int env) (hm:3*htTs l+1<m+1) (h:env15 env (htTs l)) : r15_all_fn m l env=some (R_r15_all (r15_all l env)):=by
  unfold env15 at h
  have e:r15_all l env=l.all fun t=>r15_Term t env:=terms15_all l env
  rw[r15_all_in,e]
  exact loop_all (L:=r15_all_L2 m) (st:=fun i=>r15_all_s2 l env i) (fun b=>some (R_r15_all b)) (d:=zeroTerm) (fun t=>r15_Term t env) hl.len
    (fun i x hi hx hmem=>by
      have hht:=htTs_mem hmem
      rw[r15_all_l2]
      simp only[cndO_eq,hi,decide_true,if_true,and_true,Int.toNat_natCast,hx,Term.ids_eq]
      rw[obO_pos (by omega),obO_pos (by omega),obO_pos (show env15 env x.ht by unfold env15;omega)]
      cases r15_Term x env<;>rfl)
    (by rw[r15_all_l2];simp [cndO_eq]) (fun i=>r15_all_a2_ret _ _ _ _) (fun i=>r15_all_a2_x0 _ _ _ _)
theorem okm_r15_all (m:Nat) (h_r15_Term:FnOK 120 (Fm_r15_Term m)) (h_r15_all:FnOK 79 (Fm_r15_all m)) (h_r15_aggs:FnOK 80 (Fm_r15_aggs m)) (h_r15_rest:FnOK 20 (Fm_r15_rest m)) (h_r15_Rel:FnOK 6 (Fm_r15_Rel m)) : FnOK 79 (Fm_r15_all (m+1)):=by
  intro args ob rs os h hob
  unfold Fm_r15_all at h
  split at h
  · simp only[Option.bind_eq_some_iff,Option.some.injEq,Prod.mk.injEq] at h
    obtain⟨l,e0,env,e1,rfl,rfl,rfl⟩:=h
    obtain rfl:=dL_eq e0
    obtain rfl:=dL_eq e1
    exact⟨fn_contractF (M:=(M_r15_all m)) rfl (tbl_ok (l1:=[(120,Fm_r15_Term m)]) (l2:=[]) (l3:=[]) (l4:=[]) (l5:=[]) ⟨h_r15_Term,trivial⟩ trivial trivial trivial trivial) Tryz.func79 (by kernel_rfl) N_r15_all 0 [.d] (fun hwf=>(r15_all_spec m l env (wfArg hwf (a:=.d (.v (.dat (U:=Un) Ty.term l))) (List.mem_of_getElem? (i:=0) rfl)) (wfArg hwf (a:=.d (.v (.dat (U:=Un) Ty.int env))) (List.mem_of_getElem? (i:=1) rfl)) (hob _ (List.mem_of_getElem? (i:=0) rfl)) (hob _ (List.mem_of_getElem? (i:=1) rfl)))),hasBody_of Tryz.func79 (by kernel_rfl) (by kernel_rfl)⟩
  · simp at h
def M_r15_aggs (m:Nat) : Mc Un:=mach (tbl [(79,Fm_r15_all m)]) (tbl []) (tbl []) (tbl []) (tbl [])
def R_r15_aggs (r:Bool) : RF Un:=(A_r15_aggs r,O_r15_aggs r)
def N_r15_aggs : Nat→NS:=fun l=>(look l [(2,{ ts:=bl 61 51,bs:=bl 61 0,nm:=[],cs:=true })]).getD ⟨[],[],[],[],[],true⟩
def r15_aggs_s2 (l:List Agg) (env:List Int) (v0:Int) : S Un:=(st 61 61 244 0 [(0,al .agg l),(1,al .int env),(4,ab false),(5,ai v0)] [] [])
def r15_aggs_B2 : Code:=sub (bodyOf Tryz.f80) [1,0,1,2,2]
def r15_aggs_L2 (m:Nat) : S Un→Option (EX Un):=loopF (N_r15_aggs 2) (fun s Q=>awf (M_r15_aggs m) N_r15_aggs r15_aggs_B2 s Q)
def r15_aggs_C2 (m:Nat) : Exit→S Un→Option (RF Un):=ctxF (M_r15_aggs m) N_r15_aggs (bodyOf Tryz.f80) [1,0,1,2] (retF (M_r15_aggs m) Tryz.f80.results.toList [.d])
def r15_aggs_fn (m:Nat) (l:List Agg) (env:List Int) : Option (RF Un):=awf (M_r15_aggs m) N_r15_aggs (bodyOf Tryz.f80) (entry Tryz.f80.ntmps 0 [.d (.v (.dat (U:=Un) Ty.agg l)),.d (.v (.dat (U:=Un) Ty.int env))]) (retF (M_r15_aggs m) Tryz.f80.results.toList [.d])
theorem r15_aggs_in (m:Nat) (l:List Agg) (env:List Int) : r15_aggs_fn m l env=(r15_aggs_L2 m (r15_aggs_s2 l env (0:Int))).bind (thenX (r15_aggs_C2 m)):=by kernel_rfl
def r15_aggs_t1 (m:Nat) (l:List Agg) (env:List Int) (v0:Int) : Option (EX Un):=obO ((3:Nat)*htTs (Agg.t (l.getD v0.toNat zeroAgg))+(1:Nat)<m) (obO (env15 env (htTs (Agg.t (l.getD v0.toNat zeroAgg)))) (cndO (!r15_all (Agg.t (l.getD v0.toNat zeroAgg)) env) (some (.ret,(r15_aggs_s2 l env v0))) (r15_aggs_L2 m (r15_aggs_s2 l env (IntKind.i64.wrap (v0+1))))))
def r15_aggs_t2 (m:Nat) (l:List Agg) (env:List Int) (v0:Int) : Option (EX Un):=cndO (decide ((↑(Agg.t (l.getD v0.toNat zeroAgg)).length:Int) > (1:Int))) (some (.ret,(r15_aggs_s2 l env v0))) (cndO ((↑(Agg.t (l.getD v0.toNat zeroAgg)).length:Int) == (0:Int)) (cndO (!(Agg.name (l.getD v0.toNat zeroAgg)).toList == (ByteArray.mk #[99,111,117,110,116]).toList) (some (.ret,(r15_aggs_s2 l env v0))) (cndO (Agg.distinct (l.getD v0.toNat zeroAgg)) (some (.ret,(r15_aggs_s2 l env v0))) (r15_aggs_t1 m l env v0))) (r15_aggs_t1 m l env v0))
theorem r15_aggs_l2 (m:Nat) (l:List Agg) (env:List Int) (v0:Int) : r15_aggs_L2 m (r15_aggs_s2 l env v0)=cndO (decide (v0<(↑l.length:Int))) (obO (0≤v0∧v0<(↑l.length:Int)) (cndO (!(Agg.name (l.getD v0.toNat zeroAgg)).toList == (ByteArray.mk #[99,111,117,110,116]).toList) (cndO (!(Agg.name (l.getD v0.toNat zeroAgg)).toList == (ByteArray.mk #[115,117,109]).toList) (cndO (!(Agg.name (l.getD v0.toNat zeroAgg)).toList == (ByteArray.mk #[109,105,110]).toList) (cndO (!(Agg.name (l.getD v0.toNat zeroAgg)).toList == (ByteArray.mk #[109,97,120]).toList) (some (.ret,(r15_aggs_s2 l env v0))) (r15_aggs_t2 m l env v0)) (r15_aggs_t2 m l env v0)) (r15_aggs_t2 m l env v0)) (r15_aggs_t2 m l env v0))) (some (.exit 0,(r15_aggs_s2 l env v0))):=(loopF_eq (N_r15_aggs 2) r15_aggs_B2 _).trans (by kernel_rfl)
theorem r15_aggs_a2_ret (m:Nat) (l:List Agg) (env:List Int) (v0:Int) : r15_aggs_C2 m .ret (r15_aggs_s2 l env v0)=some (R_r15_aggs (false)):=by kernel_rfl
theorem r15_aggs_a2_x0 (m:Nat) (l:List Agg) (env:List Int) (v0:Int) : r15_aggs_C2 m (.exit 0) (r15_aggs_s2 l env v0)=some (R_r15_aggs (true)):=by kernel_rfl
theorem r15_aggs_spec (m:Nat) (l:List Agg) (env:List Int) (hl:WL .agg l) (_he:WL .int env) (hm:3*htAs l<m+1) (h:env15 env (htAs l)) : r15_aggs_fn m l env=some (R_r15_aggs (r15_aggs l env)):=by
  unfold env15 at h
  have e:r15_aggs l env=l.all fun t=>agg15 t env:=aggs15_all l env
  rw[r15_aggs_in,e]
  exact loop_all (L:=r15_aggs_L2 m) (st:=fun i=>r15_aggs_s2 l env i) (fun b=>some (R_r15_aggs b)) (d:=zeroAgg) (fun t=>agg15 t env) hl.len
    (fun i x hi hx hmem=>by
      have hht:=htAs_mem hmem
      have hax:x.ht=htTs x.t+1:=by cases x;rfl
      have key:r15_aggs_t1 m l env (i:Int)=if r15_all x.t env=true then r15_aggs_L2 m (r15_aggs_s2 l env (IntKind.i64.wrap ((i:Int)+1))) else some (.ret,r15_aggs_s2 l env (i:Int)):=by
        unfold r15_aggs_t1
        simp only[Int.toNat_natCast,hx]
        rw[obO_pos (by omega),obO_pos (show env15 env (htTs x.t) by unfold env15;omega),cndO_eq]
        cases r15_all x.t env<;>rfl
      have e2:agg15 x env=(headA15 x && r15_all x.t env):=agg15_eq x env
      rw[r15_aggs_l2,e2]
      unfold r15_aggs_t2
      simp only[Int.toNat_natCast,hx,key]
      unfold headA15
      generalize r15_all x.t env=q
      generalize (x.name.toList == (ByteArray.mk #[99,111,117,110,116]).toList)=n1
      generalize (x.name.toList == (ByteArray.mk #[115,117,109]).toList)=n2
      generalize (x.name.toList == (ByteArray.mk #[109,105,110]).toList)=n3
      generalize (x.name.toList == (ByteArray.mk #[109,97,120]).toList)=n4
      rw[cndO_eq,if_pos (decide_eq_true hi),obO_pos (by omega)]
      by_cases c1 : x.t.length≤1
      · have d1:decide ((x.t.length:Int) > 1)=false:=decide_eq_false (by omega)
        rw[d1,decide_eq_true c1]
        by_cases c0 : x.t.length=0
        · have d0:((x.t.length:Int) == 0)=true:=by rw[beq_iff_eq];omega
          rw[d0,decide_eq_false (fun e=>e c0)]
          cases n1<;>cases n2<;>cases n3<;>cases n4<;>cases x.distinct<;>cases q<;>rfl
        · have d0:((x.t.length:Int) == 0)=false:=by rw[beq_eq_false_iff_ne];omega
          rw[d0,decide_eq_true c0]
          cases n1<;>cases n2<;>cases n3<;>cases n4<;>cases q<;>rfl
      · have d1:decide ((x.t.length:Int) > 1)=true:=decide_eq_true (by omega)
        rw[d1,decide_eq_false c1]
        cases n1<;>cases n2<;>cases n3<;>cases n4<;>rfl)
    (by rw[r15_aggs_l2];simp [cndO_eq]) (fun i=>r15_aggs_a2_ret _ _ _ _) (fun i=>r15_aggs_a2_x0 _ _ _ _)
theorem okm_r15_aggs (m:Nat) (h_r15_Term:FnOK 120 (Fm_r15_Term m)) (h_r15_all:FnOK 79 (Fm_r15_all m)) (h_r15_aggs:FnOK 80 (Fm_r15_aggs m)) (h_r15_rest:FnOK 20 (Fm_r15_rest m)) (h_r15_Rel:FnOK 6 (Fm_r15_Rel m)) : FnOK 80 (Fm_r15_aggs (m+1)):=by
  intro args ob rs os h hob
  unfold Fm_r15_aggs at h
  split at h
  · simp only[Option.bind_eq_some_iff,Option.some.injEq,Prod.mk.injEq] at h
    obtain⟨l,e0,env,e1,rfl,rfl,rfl⟩:=h
    obtain rfl:=dL_eq e0
    obtain rfl:=dL_eq e1
    exact⟨fn_contractF (M:=(M_r15_aggs m)) rfl (tbl_ok (l1:=[(79,Fm_r15_all m)]) (l2:=[]) (l3:=[]) (l4:=[]) (l5:=[]) ⟨h_r15_all,trivial⟩ trivial trivial trivial trivial) Tryz.func80 (by kernel_rfl) N_r15_aggs 0 [.d] (fun hwf=>(r15_aggs_spec m l env (wfArg hwf (a:=.d (.v (.dat (U:=Un) Ty.agg l))) (List.mem_of_getElem? (i:=0) rfl)) (wfArg hwf (a:=.d (.v (.dat (U:=Un) Ty.int env))) (List.mem_of_getElem? (i:=1) rfl)) (hob _ (List.mem_of_getElem? (i:=0) rfl)) (hob _ (List.mem_of_getElem? (i:=1) rfl)))),hasBody_of Tryz.func80 (by kernel_rfl) (by kernel_rfl)⟩
  · simp at h
def M_r15_rest (m:Nat) : Mc Un:=mach (tbl [(77,F_r15_in),(78,F_r15_rows),(79,Fm_r15_all m),(80,Fm_r15_aggs m),(19,F_r15_Width),(81,F_r15_keys)]) (tbl []) (tbl []) (tbl []) (tbl [])
def R_r15_rest (r:Bool) : RF Un:=(A_r15_rest r,O_r15_rest r)
def N_r15_rest : Nat→NS:=fun l=>(look l []).getD ⟨[],[],[],[],[],true⟩
def r15_rest_fn (m:Nat) (r:Rel) (env:List Int) : Option (RF Un):=awf (M_r15_rest m) N_r15_rest (bodyOf Tryz.f20) (entry Tryz.f20.ntmps 0 [.d (.agg (enc Ty.rel r)),.d (.v (.dat (U:=Un) Ty.int env))]) (retF (M_r15_rest m) Tryz.f20.results.toList [.d])
def r15_rest_t1 (m:Nat) (r:Rel) (env:List Int) : Option (RF Un):=obO ((3:Nat)*htTs r.terms+(1:Nat)<m) (obO (env15 (r15_in (Rel.ids r) env) (htTs r.terms)) (some (R_r15_rest (r15_all r.terms (r15_in (Rel.ids r) env)))))
def r15_rest_t2 (m:Nat) (r:Rel) (env:List Int) : Option (RF Un):=cndO ((↑r.terms.length:Int) == (1:Int)) (r15_rest_t1 m r env) (some (R_r15_rest (false)))
def r15_rest_t3 (r:Rel) : Option (RF Un):=obO ((0:Int)≤(0:Int)∧(0:Int)<(↑r.kids.length:Int)) (obO ((0:Int)≤(1:Int)∧(1:Int)<(↑r.kids.length:Int)) (some (R_r15_rest (r15_Width (Rel.ids (r.kids.getD 0 zeroRel)) == r15_Width (Rel.ids (r.kids.getD 1 zeroRel))))))
theorem r15_rest_in (m:Nat) (r:Rel) (env:List Int) : r15_rest_fn m r env=obO (env15 env (1:Nat)) (cndO (r.op == 1) (some (R_r15_rest (!r.table.toList == (ByteArray.mk #[]).toList))) (cndO (r.op == 2) (some (R_r15_rest (r15_rows r.rows (↑r.cols.length:Int)))) (cndO (r.op == 3) (r15_rest_t2 m r env) (cndO (r.op == 6) (r15_rest_t2 m r env) (cndO (r.op == 4) (r15_rest_t1 m r env) (cndO (r.op == 5) (cndO (decide ((↑r.terms.length:Int)≤(1:Int))) (r15_rest_t1 m r env) (some (R_r15_rest (false)))) (cndO (r.op == 7) (obO ((3:Nat)*htTs r.terms+(1:Nat)<m) (obO (env15 (r15_in (Rel.ids r) env) (htTs r.terms)) (cndO (r15_all r.terms (r15_in (Rel.ids r) env)) (obO ((3:Nat)*htAs r.aggs<m) (obO (env15 (r15_in (Rel.ids r) env) (htAs r.aggs)) (some (R_r15_rest (r15_aggs r.aggs (r15_in (Rel.ids r) env)))))) (some (R_r15_rest (false)))))) (cndO (r.op == 9) (r15_rest_t3 r) (cndO (r.op == 10) (r15_rest_t3 r) (cndO (r.op == 11) (r15_rest_t3 r) (cndO (r.op == 12) (some (R_r15_rest (r15_keys r.keys (r15_Width (Rel.ids r))))) (cndO (r.op == 13) (cndO (decide (r.limit≥(-1:Int))) (cndO (decide (r.limit≤1000000000000000)) (cndO (decide (r.skip≥0)) (some (R_r15_rest (decide (r.skip≤1000000000000000)))) (some (R_r15_rest (false)))) (some (R_r15_rest (false)))) (some (R_r15_rest (false)))) (some (R_r15_rest (true))))))))))))))):=by kernel_rfl
theorem r15_rest_spec (m:Nat) (r:Rel) (env:List Int) (_hr:WS .rel r) (_he:WL .int env) (hm:3*r.ht+1<m+1) (h:env15 env r.ht) (hk:restOK r) : r15_rest_fn m r env=some (R_r15_rest (r15_rest r env)):=by
  unfold env15 at h
  have hh:htTs r.terms+1≤r.ht∧htAs r.aggs+1≤r.ht:=by cases r;simp only[Rel.ht,Rel.terms_mk,Rel.aggs_mk];omega
  have o1:env15 env 1:=by unfold env15;omega
  have o2:env15 (r15_in r env) (htTs r.terms):=by unfold env15 r15_in;rw[List.length_cons];omega
  have o3:env15 (r15_in r env) (htAs r.aggs):=by unfold env15 r15_in;rw[List.length_cons];omega
  have t1:r15_rest_t1 m r env=some (R_r15_rest (terms15 r.terms (inW15 r::env))):=by
    unfold r15_rest_t1
    simp only[Rel.ids_eq]
    rw[obO_pos (by omega),obO_pos o2]
    rfl
  rw[r15_rest_in,obO_pos o1]
  unfold r15_rest_t2 r15_rest_t3
  rw[t1]
  simp only[cndO_or,Rel.ids_eq,r15_Width_eq]
  simp only[cndO_eq,Bool.or_eq_true,beq_iff_eq,decide_eq_true_eq]
  show _=some (R_r15_rest (rest15 r env))
  unfold rest15
  by_cases h1 : r.op=1
  · rw[if_pos h1,if_pos h1]
  rw[if_neg h1,if_neg h1]
  by_cases h2 : r.op=2
  · rw[if_pos h2,if_pos h2]
  rw[if_neg h2,if_neg h2]
  by_cases h3 : r.op=3∨r.op=6
  · rw[if_pos (by omega),if_pos h3]
    by_cases hl : r.terms.length=1
    · rw[if_pos (by omega),decide_eq_true hl,Bool.true_and]
    · rw[if_neg (by omega),decide_eq_false hl,Bool.false_and]
  rw[if_neg (by omega),if_neg h3]
  by_cases h4 : r.op=4
  · rw[if_pos h4,if_pos h4]
  rw[if_neg h4,if_neg h4]
  by_cases h5 : r.op=5
  · rw[if_pos h5,if_pos h5]
    by_cases hl : r.terms.length≤1
    · rw[if_pos (by omega),decide_eq_true hl,Bool.true_and]
    · rw[if_neg (by omega),decide_eq_false hl,Bool.false_and]
  rw[if_neg h5,if_neg h5]
  by_cases h7 : r.op=7
  · rw[if_pos h7,if_pos h7,obO_pos (by omega),obO_pos o2]
    have e:r15_all r.terms (r15_in r env)=terms15 r.terms (inW15 r::env):=rfl
    rw[e]
    cases terms15 r.terms (inW15 r::env)
    · rfl
    · rw[if_pos rfl,obO_pos (by omega),obO_pos o3];rfl
  rw[if_neg h7,if_neg h7]
  by_cases h9 : r.op=9∨r.op=10∨r.op=11
  · have:=hk h9
    rw[if_pos (by omega),if_pos h9,obO_pos (by omega),obO_pos (by omega)]
  rw[if_neg (by omega),if_neg h9]
  by_cases h12 : r.op=12
  · rw[if_pos h12,if_pos h12]
  rw[if_neg h12,if_neg h12]
  by_cases h13 : r.op=13
  · rw[if_pos h13,if_pos h13]
    by_cases k1 : r.limit≥-1
    · rw[if_pos k1]
      by_cases k2 : r.limit≤1000000000000000
      · rw[if_pos k2]
        by_cases k3 : r.skip≥0
        · rw[if_pos k3]
          congr 2
          by_cases k4 : r.skip≤1000000000000000
          · rw[decide_eq_true k4,decide_eq_true ⟨k1,k2,k3,k4⟩]
          · rw[decide_eq_false k4,decide_eq_false (fun e=>k4 e.2.2.2)]
        · rw[if_neg k3,decide_eq_false (fun e=>k3 e.2.2.1)]
      · rw[if_neg k2,decide_eq_false (fun e=>k2 e.2.1)]
    · rw[if_neg k1,decide_eq_false (fun e=>k1 e.1)]
  · rw[if_neg h13,if_neg h13]
theorem okm_r15_rest (m:Nat) (h_r15_Term:FnOK 120 (Fm_r15_Term m)) (h_r15_all:FnOK 79 (Fm_r15_all m)) (h_r15_aggs:FnOK 80 (Fm_r15_aggs m)) (h_r15_rest:FnOK 20 (Fm_r15_rest m)) (h_r15_Rel:FnOK 6 (Fm_r15_Rel m)) : FnOK 20 (Fm_r15_rest (m+1)):=by
  intro args ob rs os h hob
  unfold Fm_r15_rest at h
  split at h
  · simp only[Option.bind_eq_some_iff,Option.some.injEq,Prod.mk.injEq] at h
    obtain⟨r,e0,env,e1,rfl,rfl,rfl⟩:=h
    obtain rfl:=dS_eq e0
    obtain rfl:=dL_eq e1
    exact⟨fn_contractF (M:=(M_r15_rest m)) rfl (tbl_ok (l1:=[(77,F_r15_in),(78,F_r15_rows),(79,Fm_r15_all m),(80,Fm_r15_aggs m),(19,F_r15_Width),(81,F_r15_keys)]) (l2:=[]) (l3:=[]) (l4:=[]) (l5:=[]) ⟨ok_r15_in,ok_r15_rows,h_r15_all,h_r15_aggs,ok_r15_Width,ok_r15_keys,trivial⟩ trivial trivial trivial trivial) Tryz.func20 (by kernel_rfl) N_r15_rest 0 [.d] (fun hwf=>(r15_rest_spec m r env (wfArg hwf (a:=.d (.agg (enc Ty.rel r))) (List.mem_of_getElem? (i:=0) rfl)) (wfArg hwf (a:=.d (.v (.dat (U:=Un) Ty.int env))) (List.mem_of_getElem? (i:=1) rfl)) (hob _ (List.mem_of_getElem? (i:=0) rfl)) (hob _ (List.mem_of_getElem? (i:=1) rfl)) (hob _ (List.mem_of_getElem? (i:=2) rfl)))),hasBody_of Tryz.func20 (by kernel_rfl) (by kernel_rfl)⟩
  · simp at h
def M_r15_Rel (m:Nat) : Mc Un:=mach (tbl [(17,F_r15_kids),(18,F_r15_spare),(6,Fm_r15_Rel m),(19,F_r15_Width),(20,Fm_r15_rest m)]) (tbl []) (tbl []) (tbl []) (tbl [])
def R_r15_Rel (r:Bool) : RF Un:=(A_r15_Rel r,O_r15_Rel r)
def N_r15_Rel : Nat→NS:=fun l=>(look l [(4,{ ts:=bl 49 54,bs:=bl 49 4,nm:=[],cs:=true })]).getD ⟨[],[],[],[],[],true⟩
def r15_Rel_s4 (r:Rel) (env:List Int) (v0:Int) : S Un:=(st 49 49 196 0 [(1,al .int env),(2,ax 2),(4,ab false),(5,ai v0)] [(2,bg .rel r)] [])
def r15_Rel_B4 : Code:=sub (bodyOf Tryz.f6) [1,1,0,1,2,2]
def r15_Rel_L4 (m:Nat) : S Un→Option (EX Un):=loopF (N_r15_Rel 4) (fun s Q=>awf (M_r15_Rel m) N_r15_Rel r15_Rel_B4 s Q)
def r15_Rel_C4 (m:Nat) : Exit→S Un→Option (RF Un):=ctxF (M_r15_Rel m) N_r15_Rel (bodyOf Tryz.f6) [1,1,0,1,2] (retF (M_r15_Rel m) Tryz.f6.results.toList [.d])
def r15_Rel_fn (m:Nat) (r:Rel) (env:List Int) : Option (RF Un):=awf (M_r15_Rel m) N_r15_Rel (bodyOf Tryz.f6) (entry Tryz.f6.ntmps 0 [.d (.agg (enc Ty.rel r)),.d (.v (.dat (U:=Un) Ty.int env))]) (retF (M_r15_Rel m) Tryz.f6.results.toList [.d])
theorem r15_Rel_in (m:Nat) (r:Rel) (env:List Int) : r15_Rel_fn m r env=cndO (decide (r15_kids r.op<0)) (some (R_r15_Rel (false))) (cndO ((↑r.kids.length:Int) != r15_kids r.op) (some (R_r15_Rel (false))) (obO (spareOK (Rel.ids r)) (cndO (r15_spare (Rel.ids r)) (some (R_r15_Rel (false))) ((r15_Rel_L4 m (r15_Rel_s4 r env (0:Int))).bind (thenX (r15_Rel_C4 m)))))):=by kernel_rfl
theorem r15_Rel_l4 (m:Nat) (r:Rel) (env:List Int) (v0:Int) : r15_Rel_L4 m (r15_Rel_s4 r env v0)=cndO (decide (v0<(↑r.kids.length:Int))) (obO (0≤v0∧v0<(↑r.kids.length:Int)) (obO ((3:Nat)*(Rel.ids (r.kids.getD v0.toNat zeroRel)).ht+(2:Nat)<m) (obO (env15 env (Rel.ids (r.kids.getD v0.toNat zeroRel)).ht) (cndO (!r15_Rel (Rel.ids (r.kids.getD v0.toNat zeroRel)) env) (some (.ret,(r15_Rel_s4 r env v0))) (r15_Rel_L4 m (r15_Rel_s4 r env (IntKind.i64.wrap (v0+1)))))))) (some (.exit 0,(r15_Rel_s4 r env v0))):=(loopF_eq (N_r15_Rel 4) r15_Rel_B4 _).trans (by kernel_rfl)
theorem r15_Rel_a4_ret (m:Nat) (r:Rel) (env:List Int) (v0:Int) : r15_Rel_C4 m .ret (r15_Rel_s4 r env v0)=some (R_r15_Rel (false)):=by kernel_rfl
theorem r15_Rel_a4_x0 (m:Nat) (r:Rel) (env:List Int) (v0:Int) : r15_Rel_C4 m (.exit 0) (r15_Rel_s4 r env v0)=cndO ((↑r.cols.length:Int) == r15_Width (Rel.ids r)) (obO ((3:Nat)*(Rel.ids r).ht+(1:Nat)<m) (obO (env15 env (Rel.ids r).ht) (obO (restOK (Rel.ids r)) (some (R_r15_Rel (r15_rest (Rel.ids r) env)))))) (some (R_r15_Rel (false))):=by kernel_rfl
theorem rel15_tail (m:Nat) (r:Rel) (env:List Int) (hm:3*r.ht+2<m+1) (h:env15 env r.ht) (hk:restOK r) (i:Int) : r15_Rel_C4 m (.exit 0) (r15_Rel_s4 r env i)=some (R_r15_Rel (decide ((r.cols.length:Int)=widthR r) && rest15 r env)):=by
  rw[r15_Rel_a4_x0,cndO_eq]
  simp only[Rel.ids_eq,r15_Width_eq]
  by_cases h1 : (r.cols.length:Int)=widthR r
  · rw[if_pos (by simpa using h1),obO_pos (by omega),obO_pos h,obO_pos hk,decide_eq_true h1,Bool.true_and]
    rfl
  · rw[if_neg (by simpa using h1),decide_eq_false h1,Bool.false_and]
theorem r15_Rel_spec (m:Nat) (r:Rel) (env:List Int) (_hr:WS .rel r) (_he:WL .int env) (hm:3*r.ht+2<m+1) (h:env15 env r.ht) : r15_Rel_fn m r env=some (R_r15_Rel (r15_Rel r env)):=by
  have hkl:WL .rel r.kids:=_hr.rel_kids
  have e:r15_Rel r env=(headR15 r && (r.kids.all (fun k=>r15_Rel k env) && (decide ((r.cols.length:Int)=widthR r) && rest15 r env))):=by
    show rel15 r env=_
    rw[rel15_eq,rels15_all,Bool.and_assoc,Bool.and_assoc];rfl
  rw[r15_Rel_in,e]
  simp only[Rel.ids_eq,cndO_eq,decide_eq_true_eq,r15_kids_eq]
  unfold headR15
  by_cases c1 : kidsN r.op<0
  · rw[if_pos c1,decide_eq_false (fun e=>e c1)];rfl
  rw[if_neg c1,decide_eq_true c1]
  by_cases c2 : (r.kids.length:Int)=kidsN r.op
  · have hok:restOK r:=fun h9=>by
      have : kidsN r.op=2:=by
        rcases h9 with h9 | h9 | h9<;>rw[h9]<;>rfl
      omega
    have hu:=h
    unfold env15 at hu
    have lp:=loop_all (L:=r15_Rel_L4 m) (st:=fun i=>r15_Rel_s4 r env i) (C:=r15_Rel_C4 m) (e:=.exit 0) (fun b=>some (R_r15_Rel (b && (decide ((r.cols.length:Int)=widthR r) && rest15 r env)))) (d:=zeroRel) (fun k=>r15_Rel k env) hkl.len
      (fun i x hi hx hmem=>by
        have hht:=Rel.ht_kid hmem
        rw[r15_Rel_l4]
        simp only[cndO_eq,hi,decide_true,if_true,and_true,Int.toNat_natCast,hx,Rel.ids_eq]
        rw[obO_pos (by omega),obO_pos (by omega),obO_pos (show env15 env x.ht by unfold env15;omega)]
        cases r15_Rel x env<;>rfl)
      (by rw[r15_Rel_l4];simp [cndO_eq]) (fun i=>by rw[r15_Rel_a4_ret,Bool.false_and]) (fun i=>by rw[rel15_tail m r env hm h hok,Bool.true_and])
    rw[if_neg (by simpa using c2),decide_eq_true c2,obO_pos (show spareOK r by unfold spareOK;omega),lp]
    cases r15_spare r<;>rfl
  · rw[if_pos (by simpa using c2),decide_eq_false c2];rfl
theorem okm_r15_Rel (m:Nat) (h_r15_Term:FnOK 120 (Fm_r15_Term m)) (h_r15_all:FnOK 79 (Fm_r15_all m)) (h_r15_aggs:FnOK 80 (Fm_r15_aggs m)) (h_r15_rest:FnOK 20 (Fm_r15_rest m)) (h_r15_Rel:FnOK 6 (Fm_r15_Rel m)) : FnOK 6 (Fm_r15_Rel (m+1)):=by
  intro args ob rs os h hob
  unfold Fm_r15_Rel at h
  split at h
  · simp only[Option.bind_eq_some_iff,Option.some.injEq,Prod.mk.injEq] at h
    obtain⟨r,e0,env,e1,rfl,rfl,rfl⟩:=h
    obtain rfl:=dS_eq e0
    obtain rfl:=dL_eq e1
    exact⟨fn_contractF (M:=(M_r15_Rel m)) rfl (tbl_ok (l1:=[(17,F_r15_kids),(18,F_r15_spare),(6,Fm_r15_Rel m),(19,F_r15_Width),(20,Fm_r15_rest m)]) (l2:=[]) (l3:=[]) (l4:=[]) (l5:=[]) ⟨ok_r15_kids,ok_r15_spare,h_r15_Rel,ok_r15_Width,h_r15_rest,trivial⟩ trivial trivial trivial trivial) Tryz.func6 (by kernel_rfl) N_r15_Rel 0 [.d] (fun hwf=>(r15_Rel_spec m r env (wfArg hwf (a:=.d (.agg (enc Ty.rel r))) (List.mem_of_getElem? (i:=0) rfl)) (wfArg hwf (a:=.d (.v (.dat (U:=Un) Ty.int env))) (List.mem_of_getElem? (i:=1) rfl)) (hob _ (List.mem_of_getElem? (i:=0) rfl)) (hob _ (List.mem_of_getElem? (i:=1) rfl)))),hasBody_of Tryz.func6 (by kernel_rfl) (by kernel_rfl)⟩
  · simp at h
theorem okAll_r15relG : ∀ m,FnOK 120 (Fm_r15_Term m)∧FnOK 79 (Fm_r15_all m)∧FnOK 80 (Fm_r15_aggs m)∧FnOK 20 (Fm_r15_rest m)∧FnOK 6 (Fm_r15_Rel m)
  | 0=>by
    refine⟨?_,?_,?_,?_,?_⟩
    · intro args ob rs os h hob
      unfold Fm_r15_Term at h
      split at h
      · simp only[Option.bind_eq_some_iff,Option.some.injEq,Prod.mk.injEq] at h
        obtain⟨_,_,_,_,rfl,_,_⟩:=h
        exact absurd (hob _ (List.mem_of_getElem? (i:=0) rfl)) (Nat.not_lt_zero _)
      · simp at h
    · intro args ob rs os h hob
      unfold Fm_r15_all at h
      split at h
      · simp only[Option.bind_eq_some_iff,Option.some.injEq,Prod.mk.injEq] at h
        obtain⟨_,_,_,_,rfl,_,_⟩:=h
        exact absurd (hob _ (List.mem_of_getElem? (i:=0) rfl)) (Nat.not_lt_zero _)
      · simp at h
    · intro args ob rs os h hob
      unfold Fm_r15_aggs at h
      split at h
      · simp only[Option.bind_eq_some_iff,Option.some.injEq,Prod.mk.injEq] at h
        obtain⟨_,_,_,_,rfl,_,_⟩:=h
        exact absurd (hob _ (List.mem_of_getElem? (i:=0) rfl)) (Nat.not_lt_zero _)
      · simp at h
    · intro args ob rs os h hob
      unfold Fm_r15_rest at h
      split at h
      · simp only[Option.bind_eq_some_iff,Option.some.injEq,Prod.mk.injEq] at h
        obtain⟨_,_,_,_,rfl,_,_⟩:=h
        exact absurd (hob _ (List.mem_of_getElem? (i:=0) rfl)) (Nat.not_lt_zero _)
      · simp at h
    · intro args ob rs os h hob
      unfold Fm_r15_Rel at h
      split at h
      · simp only[Option.bind_eq_some_iff,Option.some.injEq,Prod.mk.injEq] at h
        obtain⟨_,_,_,_,rfl,_,_⟩:=h
        exact absurd (hob _ (List.mem_of_getElem? (i:=0) rfl)) (Nat.not_lt_zero _)
      · simp at h
  | m+1=>by
    have ih:=okAll_r15relG m
    exact⟨okm_r15_Term m ih.1 ih.2.1 ih.2.2.1 ih.2.2.2.1 ih.2.2.2.2,okm_r15_all m ih.1 ih.2.1 ih.2.2.1 ih.2.2.2.1 ih.2.2.2.2,okm_r15_aggs m ih.1 ih.2.1 ih.2.2.1 ih.2.2.2.1 ih.2.2.2.2,okm_r15_rest m ih.1 ih.2.1 ih.2.2.1 ih.2.2.2.1 ih.2.2.2.2,okm_r15_Rel m ih.1 ih.2.1 ih.2.2.1 ih.2.2.2.1 ih.2.2.2.2⟩
def F_r15_Rel : FnC Un:=fun args=>match args with
  | [x0,x1]=>(dS .rel x0).bind fun r=>(dL .int x1).bind fun env=>some ([env15 env r.ht],A_r15_Rel (r15_Rel r env),O_r15_Rel (r15_Rel r env))
  | _=>none
theorem ok_r15_Rel : FnOK 6 F_r15_Rel:=by
  intro args ob rs os h hob
  unfold F_r15_Rel at h
  split at h
  · simp only[Option.bind_eq_some_iff,Option.some.injEq,Prod.mk.injEq] at h
    obtain⟨r,e0,env,e1,rfl,rfl,rfl⟩:=h
    refine ((okAll_r15relG (3*r.ht+2+1)).2.2.2.2) _ [3*r.ht+2<3*r.ht+2+1,env15 env r.ht] _ _ (?_ : Fm_r15_Rel (3*r.ht+2+1) _=some _) ?_
    · unfold Fm_r15_Rel
      simp only[e0,e1,Option.bind_some]
    · intro p hp
      simp only[List.mem_cons,List.not_mem_nil,or_false] at hp
      rcases hp with rfl | rfl
      · exact Nat.lt_succ_self _
      · exact hob _ (List.mem_of_getElem? (i:=0) rfl)
  · simp at h
end
end Go.Proofs.YtolbngdhgcbmgaaGreat.B
