/- Part 19 of the proof: Sref15v. -/
import Derived.Test.YtolbngdhgcbmgaaGreatPonce18
namespace Go.Proofs.YtolbngdhgcbmgaaGreat.B
open Go Go.RowKit
set_option maxRecDepth 100000
noncomputable section
attribute [local irreducible] awp ctxK itersK iterK retQ retGQ awf ctxF loopF
theorem cndO_or {β:Type} (a b:Bool) (x y:Option β) : cndO a x (cndO b x y)=cndO (a || b) x y:=by cases a<;>rfl
theorem loop_all {α β:Type} {L:S Un→Option (EX Un)} {st:Int→S Un} {C:Exit→S Un→Option β} (R:Bool→Option β) {l:List α} {d:α} {e:Exit} (q:α→Bool) (hl:l.length≤9223372036854775807)
    (step:∀ (i:Nat) (x:α),(i:Int)<(l.length:Int)→l.getD i d=x→x∈l→L (st i)=if q x=true then L (st (IntKind.i64.wrap ((i:Int)+1))) else some (.ret,st i))
    (stop:L (st (l.length:Int))=some (e,st (l.length:Int))) (r1:∀ i : Int,C .ret (st i)=R false) (r2:∀ i : Int,C e (st i)=R true) : (L (st 0)).bind (thenX C)=R (l.all q):=by
  have key:∀ (r:List α) (i:Nat),l.drop i=r→i≤l.length→(L (st i)).bind (thenX C)=R (r.all q):=by
    intro r
    induction r with
    | nil =>
      intro i hr hi
      have : l.length≤i:=List.drop_eq_nil_iff.1 hr
      have e:i=l.length:=by omega
      rw[e,stop]
      exact r2 _
    | cons x r ih =>
      intro i hr hi
      have hlt:i<l.length:=by
        rcases Nat.lt_or_ge i l.length with h | h
        · exact h
        · rw[List.drop_eq_nil_of_le h] at hr;simp at hr
      have hx:l.getD i d=x:=by
        have:=List.getElem?_drop (xs:=l) (i:=i) (j:=0)
        rw[hr,Nat.add_zero] at this
        rw[List.getD_eq_getElem?_getD,← this];rfl
      have hm:x∈l:=by rw[← hx,List.getD_eq_getElem?_getD,List.getElem?_eq_getElem hlt];exact List.getElem_mem _
      have hr2:l.drop (i+1)=r:=by rw[← List.tail_drop,hr];rfl
      rw[step i x (by omega) hx hm,List.all_cons]
      cases hq : q x
      · rw[if_neg (by decide)]
        exact r1 _
      · rw[if_pos rfl,wrap_id (by omega),Bool.true_and]
        exact ih (i+1) hr2 (by omega)
  exact key l 0 rfl (Nat.zero_le _)
def env15 (env:List Int) (n:Nat) : Prop:=env.length+n≤8000000
def M_r15_named : Mc Un:=mach (tbl []) (tbl []) (tbl []) (tbl []) (tbl [])
def A_r15_named (r:Int×Int×Bool) : List (A Un):=[.c (.s (.int .i64 r.1)),.c (.s (.int .i64 r.2.1)),.c (.s (.bool r.2.2))]
def O_r15_named (_r:Int×Int×Bool) : List (Ob Un):=[]
def R_r15_named (r:Int×Int×Bool) : RF Un:=(A_r15_named r,O_r15_named r)
def N_r15_named : Nat→NS:=fun l=>(look l []).getD ⟨[],[],[],[],[],true⟩
def r15_named_fn (name:ByteArray) : Option (RF Un):=awf M_r15_named N_r15_named (bodyOf Tryz.f171) (entry Tryz.f171.ntmps 0 [.d (.v (cs name))]) (retF M_r15_named Tryz.f171.results.toList [.d,.d,.d])
theorem r15_named_in (name:ByteArray) : r15_named_fn name=cndO (name.toList == (ByteArray.mk #[108,101,110,103,116,104]).toList) (some (R_r15_named ((1:Int),(1:Int),true))) (cndO (name.toList == (ByteArray.mk #[108,111,119,101,114]).toList) (some (R_r15_named ((1:Int),(1:Int),true))) (cndO (name.toList == (ByteArray.mk #[117,112,112,101,114]).toList) (some (R_r15_named ((1:Int),(1:Int),true))) (cndO (name.toList == (ByteArray.mk #[97,98,115]).toList) (some (R_r15_named ((1:Int),(1:Int),true))) (cndO (name.toList == (ByteArray.mk #[110,117,108,108,105,102]).toList) (some (R_r15_named ((2:Int),(2:Int),true))) (cndO (name.toList == (ByteArray.mk #[99,111,97,108,101,115,99,101]).toList) (some (R_r15_named ((1:Int),(1099511627776:Int),true))) (some (R_r15_named ((0:Int),(0:Int),false)))))))):=by kernel_rfl
def r15_named (name:ByteArray) : Int×Int×Bool :=
  if (name.toList == (ByteArray.mk #[(108:UInt8),(101:UInt8),(110:UInt8),(103:UInt8),(116:UInt8),(104:UInt8)]).toList)=true then
   ((1:Int),(1:Int),true)
  else
   if (name.toList == (ByteArray.mk #[(108:UInt8),(111:UInt8),(119:UInt8),(101:UInt8),(114:UInt8)]).toList)=true then
    ((1:Int),(1:Int),true)
   else
    if (name.toList == (ByteArray.mk #[(117:UInt8),(112:UInt8),(112:UInt8),(101:UInt8),(114:UInt8)]).toList)=true then
     ((1:Int),(1:Int),true)
    else
     if (name.toList == (ByteArray.mk #[(97:UInt8),(98:UInt8),(115:UInt8)]).toList)=true then
      ((1:Int),(1:Int),true)
     else
      if (name.toList == (ByteArray.mk #[(110:UInt8),(117:UInt8),(108:UInt8),(108:UInt8),(105:UInt8),(102:UInt8)]).toList)=true then
       ((2:Int),(2:Int),true)
      else
       if (name.toList == (ByteArray.mk #[(99:UInt8),(111:UInt8),(97:UInt8),(108:UInt8),(101:UInt8),(115:UInt8),(99:UInt8),(101:UInt8)]).toList)=true then
        ((1:Int),(1099511627776:Int),true)
       else
        ((0:Int),(0:Int),false)
theorem r15_named_eq (name:ByteArray) : r15_named_fn name=some (R_r15_named (r15_named name)):=by rw[r15_named_in];unfold r15_named;simp only[cndO_eq];repeat (first | rfl | split)
def F_r15_named : FnC Un:=fun args=>match args with
  | [x0]=>(dStr x0).bind fun name=>some ([],A_r15_named (r15_named name),O_r15_named (r15_named name))
  | _=>none
theorem ok_r15_named : FnOK 171 F_r15_named:=by
  intro args ob rs os h hob
  unfold F_r15_named at h
  split at h
  · simp only[Option.bind_eq_some_iff,Option.some.injEq,Prod.mk.injEq] at h
    obtain⟨name,e0,rfl,rfl,rfl⟩:=h
    obtain rfl:=dStr_eq e0
    exact⟨fn_contractF (M:=M_r15_named) rfl (tbl_ok (l1:=[]) (l2:=[]) (l3:=[]) (l4:=[]) (l5:=[]) trivial trivial trivial trivial trivial) Tryz.func171 (by kernel_rfl) N_r15_named 0 [.d,.d,.d] (fun hwf=>(r15_named_eq name)),hasBody_of Tryz.func171 (by kernel_rfl) (by kernel_rfl)⟩
  · simp at h
def M_r15_op : Mc Un:=mach (tbl [(171,F_r15_named)]) (tbl []) (tbl []) (tbl []) (tbl [])
def A_r15_op (r:Int×Int×Bool) : List (A Un):=[.c (.s (.int .i64 r.1)),.c (.s (.int .i64 r.2.1)),.c (.s (.bool r.2.2))]
def O_r15_op (_r:Int×Int×Bool) : List (Ob Un):=[]
def R_r15_op (r:Int×Int×Bool) : RF Un:=(A_r15_op r,O_r15_op r)
def N_r15_op : Nat→NS:=fun l=>(look l []).getD ⟨[],[],[],[],[],true⟩
def r15_op_fn (t:Term) : Option (RF Un):=awf M_r15_op N_r15_op (bodyOf Tryz.f153) (entry Tryz.f153.ntmps 0 [.d (.agg (enc Ty.term t))]) (retF M_r15_op Tryz.f153.results.toList [.d,.d,.d])
theorem r15_op_in (t:Term) : r15_op_fn t=cndO (t.op == 1) (some (R_r15_op ((0:Int),(0:Int),true))) (cndO (t.op == 2) (some (R_r15_op ((0:Int),(0:Int),true))) (cndO (t.op == 26) (some (R_r15_op ((0:Int),(0:Int),true))) (cndO (t.op == 27) (some (R_r15_op ((0:Int),(0:Int),true))) (cndO (t.op == 3) (some (R_r15_op ((1:Int),(1:Int),true))) (cndO (t.op == 4) (some (R_r15_op ((1:Int),(1:Int),true))) (cndO (t.op == 19) (some (R_r15_op ((1:Int),(1:Int),true))) (cndO (t.op == 28) (some (R_r15_op ((1:Int),(1:Int),true))) (cndO (t.op == 5) (some (R_r15_op ((2:Int),(2:Int),true))) (cndO (t.op == 6) (some (R_r15_op ((2:Int),(2:Int),true))) (cndO (t.op == 7) (some (R_r15_op ((2:Int),(2:Int),true))) (cndO (t.op == 8) (some (R_r15_op ((2:Int),(2:Int),true))) (cndO (t.op == 9) (some (R_r15_op ((2:Int),(2:Int),true))) (cndO (t.op == 10) (some (R_r15_op ((2:Int),(2:Int),true))) (cndO (t.op == 11) (some (R_r15_op ((2:Int),(2:Int),true))) (cndO (t.op == 12) (some (R_r15_op ((2:Int),(2:Int),true))) (cndO (t.op == 13) (some (R_r15_op ((2:Int),(2:Int),true))) (cndO (t.op == 14) (some (R_r15_op ((2:Int),(2:Int),true))) (cndO (t.op == 15) (some (R_r15_op ((2:Int),(2:Int),true))) (cndO (t.op == 16) (some (R_r15_op ((2:Int),(2:Int),true))) (cndO (t.op == 17) (some (R_r15_op ((2:Int),(2:Int),true))) (cndO (t.op == 18) (some (R_r15_op ((2:Int),(2:Int),true))) (cndO (t.op == 20) (some (R_r15_op ((2:Int),(2:Int),true))) (cndO (t.op == 22) (some (R_r15_op ((3:Int),(3:Int),true))) (cndO (t.op == 21) (some (R_r15_op ((2:Int),(1099511627776:Int),true))) (cndO (t.op == 23) (some (R_r15_op ((2:Int),(1099511627776:Int),true))) (cndO (t.op == 24) (some (R_r15_op ((r15_named t.name).fst,(r15_named t.name).snd.fst,(r15_named t.name).snd.snd))) (some (R_r15_op ((0:Int),(0:Int),false))))))))))))))))))))))))))))):=by kernel_rfl
def r15_op (t:Term) : Int×Int×Bool :=
  if t.op=1∨t.op=2∨t.op=26∨t.op=27 then (0,0,true)
  else if t.op=3∨t.op=4∨t.op=19∨t.op=28 then (1,1,true)
  else if t.op=5∨t.op=6∨t.op=7∨t.op=8∨t.op=9∨t.op=10∨t.op=11∨t.op=12∨t.op=13∨t.op=14∨t.op=15∨t.op=16∨t.op=17∨t.op=18∨t.op=20 then (2,2,true)
  else if t.op=22 then (3,3,true)
  else if t.op=21∨t.op=23 then (2,1099511627776,true)
  else if t.op=24 then r15_named t.name
  else (0,0,false)
theorem r15_op_spec (t:Term) (_ht:WS .term t) : r15_op_fn t=some (R_r15_op (r15_op t)):=by
  rw[r15_op_in]
  unfold r15_op
  simp only[cndO_or]
  simp only[cndO_eq,Bool.or_eq_true,beq_iff_eq]
  by_cases h1 : t.op=1∨t.op=2∨t.op=26∨t.op=27
  · rw[if_pos (by omega),if_pos h1]
  rw[if_neg (by omega),if_neg h1]
  by_cases h2 : t.op=3∨t.op=4∨t.op=19∨t.op=28
  · rw[if_pos (by omega),if_pos h2]
  rw[if_neg (by omega),if_neg h2]
  by_cases h3 : t.op=5∨t.op=6∨t.op=7∨t.op=8∨t.op=9∨t.op=10∨t.op=11∨t.op=12∨t.op=13∨t.op=14∨t.op=15∨t.op=16∨t.op=17∨t.op=18∨t.op=20
  · rw[if_pos (by omega),if_pos h3]
  rw[if_neg (by omega),if_neg h3]
  by_cases h4 : t.op=22
  · rw[if_pos h4,if_pos h4]
  rw[if_neg h4,if_neg h4]
  by_cases h5 : t.op=21∨t.op=23
  · rw[if_pos (by omega),if_pos h5]
  rw[if_neg (by omega),if_neg h5]
  by_cases h6 : t.op=24
  · rw[if_pos h6,if_pos h6]
  rw[if_neg h6,if_neg h6]
def F_r15_op : FnC Un:=fun args=>match args with
  | [x0]=>(dS .term x0).bind fun t=>some ([],A_r15_op (r15_op t),O_r15_op (r15_op t))
  | _=>none
theorem ok_r15_op : FnOK 153 F_r15_op:=by
  intro args ob rs os h hob
  unfold F_r15_op at h
  split at h
  · simp only[Option.bind_eq_some_iff,Option.some.injEq,Prod.mk.injEq] at h
    obtain⟨t,e0,rfl,rfl,rfl⟩:=h
    obtain rfl:=dS_eq e0
    exact⟨fn_contractF (M:=M_r15_op) rfl (tbl_ok (l1:=[(171,F_r15_named)]) (l2:=[]) (l3:=[]) (l4:=[]) (l5:=[]) ⟨ok_r15_named,trivial⟩ trivial trivial trivial trivial) Tryz.func153 (by kernel_rfl) N_r15_op 0 [.d,.d,.d] (fun hwf=>(r15_op_spec t (wfArg hwf (a:=.d (.agg (enc Ty.term t))) (List.mem_of_getElem? (i:=0) rfl)))),hasBody_of Tryz.func153 (by kernel_rfl) (by kernel_rfl)⟩
  · simp at h
def M_r15_subs : Mc Un:=mach (tbl []) (tbl []) (tbl []) (tbl []) (tbl [])
def A_r15_subs (r:Int) : List (A Un):=[.c (.s (.int .i64 r))]
def O_r15_subs (_r:Int) : List (Ob Un):=[]
def R_r15_subs (r:Int) : RF Un:=(A_r15_subs r,O_r15_subs r)
def N_r15_subs : Nat→NS:=fun l=>(look l []).getD ⟨[],[],[],[],[],true⟩
def r15_subs_fn (t:Term) : Option (RF Un):=awf M_r15_subs N_r15_subs (bodyOf Tryz.f154) (entry Tryz.f154.ntmps 0 [.d (.agg (enc Ty.term t))]) (retF M_r15_subs Tryz.f154.results.toList [.d])
theorem r15_subs_in (t:Term) : r15_subs_fn t=cndO (t.op == 26) (some (R_r15_subs ((1:Int)))) (cndO (t.op == 27) (some (R_r15_subs ((1:Int)))) (cndO (t.op == 28) (some (R_r15_subs ((1:Int)))) (some (R_r15_subs ((0:Int)))))):=by kernel_rfl
def r15_subs (t:Term) : Int:=if t.op=26∨t.op=27∨t.op=28 then 1 else 0
theorem r15_subs_spec (t:Term) (_ht:WS .term t) : r15_subs_fn t=some (R_r15_subs (r15_subs t)):=by
  rw[r15_subs_in]
  unfold r15_subs
  simp only[cndO_or]
  simp only[cndO_eq,Bool.or_eq_true,beq_iff_eq]
  by_cases h1 : t.op=26∨t.op=27∨t.op=28
  · rw[if_pos (by omega),if_pos h1]
  rw[if_neg (by omega),if_neg h1]
def F_r15_subs : FnC Un:=fun args=>match args with
  | [x0]=>(dS .term x0).bind fun t=>some ([],A_r15_subs (r15_subs t),O_r15_subs (r15_subs t))
  | _=>none
theorem ok_r15_subs : FnOK 154 F_r15_subs:=by
  intro args ob rs os h hob
  unfold F_r15_subs at h
  split at h
  · simp only[Option.bind_eq_some_iff,Option.some.injEq,Prod.mk.injEq] at h
    obtain⟨t,e0,rfl,rfl,rfl⟩:=h
    obtain rfl:=dS_eq e0
    exact⟨fn_contractF (M:=M_r15_subs) rfl (tbl_ok (l1:=[]) (l2:=[]) (l3:=[]) (l4:=[]) (l5:=[]) trivial trivial trivial trivial trivial) Tryz.func154 (by kernel_rfl) N_r15_subs 0 [.d] (fun hwf=>(r15_subs_spec t (wfArg hwf (a:=.d (.agg (enc Ty.term t))) (List.mem_of_getElem? (i:=0) rfl)))),hasBody_of Tryz.func154 (by kernel_rfl) (by kernel_rfl)⟩
  · simp at h
def M_r15_own : Mc Un:=mach (tbl [(152,F_r03_Right)]) (tbl []) (tbl []) (tbl []) (tbl [])
def A_r15_own (r:Bool) : List (A Un):=[.c (.s (.bool r))]
def O_r15_own (_r:Bool) : List (Ob Un):=[]
def R_r15_own (r:Bool) : RF Un:=(A_r15_own r,O_r15_own r)
def N_r15_own : Nat→NS:=fun l=>(look l []).getD ⟨[],[],[],[],[],true⟩
def r15_own_fn (t:Term) (env:List Int) : Option (RF Un):=awf M_r15_own N_r15_own (bodyOf Tryz.f155) (entry Tryz.f155.ntmps 0 [.d (.agg (enc Ty.term t)),.d (.v (.dat (U:=Un) Ty.int env))]) (retF M_r15_own Tryz.f155.results.toList [.d])
theorem r15_own_in (t:Term) (env:List Int) : r15_own_fn t env=cndO (decide (t.type<0)) (some (R_r15_own (false))) (cndO (decide (t.type > 3)) (some (R_r15_own (false))) (cndO (t.op == 1) (some (R_r15_own (r03_Right t.v))) (cndO (t.op == 2) (cndO (decide (t.depth≥0)) (cndO (decide (t.depth<(↑env.length:Int))) (cndO (decide (t.at_≥0)) (obO (0≤t.depth∧t.depth<(↑env.length:Int)) (some (R_r15_own (decide (t.at_<env.getD t.depth.toNat (0:Int)))))) (some (R_r15_own (false)))) (some (R_r15_own (false)))) (some (R_r15_own (false)))) (some (R_r15_own (true)))))):=by kernel_rfl
def r15_own (t:Term) (env:List Int) : Bool:=decide (0≤t.type∧t.type≤3) && (if t.op=1 then rightV t.v else if t.op=2 then decide (0≤t.depth∧t.depth<(env.length:Int)∧0≤t.at_∧t.at_<env.getD t.depth.toNat 0) else true)
theorem r15_own_spec (t:Term) (env:List Int) (_ht:WS .term t) (_he:WL .int env) : r15_own_fn t env=some (R_r15_own (r15_own t env)):=by
  rw[r15_own_in]
  unfold r15_own
  simp only[cndO_eq,beq_iff_eq,decide_eq_true_eq,r03_Right_eq]
  by_cases h0 : t.type<0
  · rw[if_pos h0,decide_eq_false (by omega)];rfl
  by_cases h3 : t.type > 3
  · rw[if_neg h0,if_pos h3,decide_eq_false (by omega)];rfl
  rw[if_neg h0,if_neg h3,decide_eq_true (show 0≤t.type∧t.type≤3 by omega),Bool.true_and]
  by_cases h1 : t.op=1
  · rw[if_pos h1,if_pos h1]
  rw[if_neg h1,if_neg h1]
  by_cases h2 : t.op=2
  · rw[if_pos h2,if_pos h2]
    by_cases d1 : t.depth≥0
    · rw[if_pos d1]
      by_cases d2 : t.depth<(env.length:Int)
      · rw[if_pos d2]
        by_cases d3 : t.at_≥0
        · rw[if_pos d3,obO_pos ⟨d1,d2⟩]
          congr 2
          by_cases d4 : t.at_<env.getD t.depth.toNat 0
          · rw[decide_eq_true d4,decide_eq_true ⟨d1,d2,d3,d4⟩]
          · rw[decide_eq_false d4,decide_eq_false (fun e=>d4 e.2.2.2)]
        · rw[if_neg d3,decide_eq_false (fun e=>d3 e.2.2.1)]
      · rw[if_neg d2,decide_eq_false (fun e=>d2 e.2.1)]
    · rw[if_neg d1,decide_eq_false (fun e=>d1 e.1)]
  · rw[if_neg h2,if_neg h2]
def F_r15_own : FnC Un:=fun args=>match args with
  | [x0,x1]=>(dS .term x0).bind fun t=>(dL .int x1).bind fun env=>some ([],A_r15_own (r15_own t env),O_r15_own (r15_own t env))
  | _=>none
theorem ok_r15_own : FnOK 155 F_r15_own:=by
  intro args ob rs os h hob
  unfold F_r15_own at h
  split at h
  · simp only[Option.bind_eq_some_iff,Option.some.injEq,Prod.mk.injEq] at h
    obtain⟨t,e0,env,e1,rfl,rfl,rfl⟩:=h
    obtain rfl:=dS_eq e0
    obtain rfl:=dL_eq e1
    exact⟨fn_contractF (M:=M_r15_own) rfl (tbl_ok (l1:=[(152,F_r03_Right)]) (l2:=[]) (l3:=[]) (l4:=[]) (l5:=[]) ⟨ok_r03_Right,trivial⟩ trivial trivial trivial trivial) Tryz.func155 (by kernel_rfl) N_r15_own 0 [.d] (fun hwf=>(r15_own_spec t env (wfArg hwf (a:=.d (.agg (enc Ty.term t))) (List.mem_of_getElem? (i:=0) rfl)) (wfArg hwf (a:=.d (.v (.dat (U:=Un) Ty.int env))) (List.mem_of_getElem? (i:=1) rfl)))),hasBody_of Tryz.func155 (by kernel_rfl) (by kernel_rfl)⟩
  · simp at h
def M_r15_in : Mc Un:=mach (tbl [(19,F_r15_Width)]) (tbl []) (tbl []) (tbl []) (tbl [])
def A_r15_in (r:List Int) : List (A Un):=[.c (.sl (U:=Un) Ty.int r false)]
def O_r15_in (_r:List Int) : List (Ob Un):=[]
def R_r15_in (r:List Int) : RF Un:=(A_r15_in r,O_r15_in r)
def N_r15_in : Nat→NS:=fun l=>(look l []).getD ⟨[],[],[],[],[],true⟩
def r15_in_fn (r:Rel) (env:List Int) : Option (RF Un):=awf M_r15_in N_r15_in (bodyOf Tryz.f77) (entry Tryz.f77.ntmps 0 [.d (.agg (enc Ty.rel r)),.d (.v (.dat (U:=Un) Ty.int env))]) (retF M_r15_in Tryz.f77.results.toList [.d])
def r15_in_t1 (r:Rel) (env:List Int) : Option (RF Un):=obO (([r15_Width (Rel.ids (r.kids.getD 0 zeroRel))].length+env.length)*(8:Nat)≤roomB) (some (R_r15_in (r15_Width (Rel.ids (r.kids.getD 0 zeroRel))::env)))
def r15_in_t2 (r:Rel) (env:List Int) : Option (RF Un):=cndO (decide ((↑r.kids.length:Int) > (1:Int))) (obO ((0:Int)≤(1:Int)∧(1:Int)<(↑r.kids.length:Int)) (obO (([IntKind.i64.wrap (r15_Width (Rel.ids (r.kids.getD 0 zeroRel))+r15_Width (Rel.ids (r.kids.getD 1 zeroRel)))].length+env.length)*(8:Nat)≤roomB) (some (R_r15_in (IntKind.i64.wrap (r15_Width (Rel.ids (r.kids.getD 0 zeroRel))+r15_Width (Rel.ids (r.kids.getD 1 zeroRel)))::env))))) (r15_in_t1 r env)
def r15_in_t3 (env:List Int) : Option (RF Un):=obO (([(0:Int)].length+env.length)*(8:Nat)≤roomB) (some (R_r15_in ((0:Int)::env)))
def r15_in_t4 (r:Rel) (env:List Int) : Option (RF Un):=cndO (decide ((↑r.kids.length:Int) > (1:Int))) (obO ((0:Int)≤(1:Int)∧(1:Int)<(↑r.kids.length:Int)) (obO (([IntKind.i64.wrap ((0:Int)+r15_Width (Rel.ids (r.kids.getD 1 zeroRel)))].length+env.length)*(8:Nat)≤roomB) (some (R_r15_in (IntKind.i64.wrap ((0:Int)+r15_Width (Rel.ids (r.kids.getD 1 zeroRel)))::env))))) (r15_in_t3 env)
theorem r15_in_in (r:Rel) (env:List Int) : r15_in_fn r env=cndO (decide ((↑r.kids.length:Int) > (0:Int))) (obO ((0:Int)≤(0:Int)∧(0:Int)<(↑r.kids.length:Int)) (cndO (r.op == 5) (r15_in_t2 r env) (cndO (r.op == 6) (r15_in_t2 r env) (r15_in_t1 r env)))) (cndO (r.op == 5) (r15_in_t4 r env) (cndO (r.op == 6) (r15_in_t4 r env) (r15_in_t3 env))):=by kernel_rfl
def inK15 (r:Rel) : Int:=if r.kids.length > 0 then widthR (r.kids.getD 0 zeroRel) else 0
def inW15 (r:Rel) : Int:=if (r.op=5∨r.op=6)∧r.kids.length > 1 then IntKind.i64.wrap (inK15 r+widthR (r.kids.getD 1 zeroRel)) else inK15 r
def r15_in (r:Rel) (env:List Int) : List Int:=inW15 r::env
theorem r15_in_spec (r:Rel) (env:List Int) (_hr:WS .rel r) (_he:WL .int env) (h:env15 env 1) : r15_in_fn r env=some (R_r15_in (r15_in r env)):=by
  unfold env15 at h
  rw[r15_in_in]
  unfold r15_in_t1 r15_in_t2 r15_in_t3 r15_in_t4 r15_in_t3 r15_in_t1
  simp only[cndO_or,Rel.ids_eq,r15_Width_eq]
  simp only[cndO_eq,Bool.or_eq_true,beq_iff_eq,decide_eq_true_eq]
  unfold r15_in inW15 inK15
  by_cases h0 : r.kids.length > 0
  · rw[if_pos (by omega),if_pos h0,obO_pos (by omega)]
    by_cases h5 : r.op=5∨r.op=6
    · rw[if_pos h5]
      by_cases h1 : r.kids.length > 1
      · rw[if_pos (by omega),if_pos ⟨h5,h1⟩,obO_pos (by omega),obO_pos (by unfold roomB;rw[List.length_singleton];omega)]
      · rw[if_neg (by omega),if_neg (fun e=>h1 e.2),obO_pos (by unfold roomB;rw[List.length_singleton];omega)]
    · rw[if_neg h5,if_neg (fun e=>h5 e.1),obO_pos (by unfold roomB;rw[List.length_singleton];omega)]
  · rw[if_neg (by omega),if_neg h0,if_neg (show ¬ ((r.op=5∨r.op=6)∧r.kids.length > 1) from fun e=>by omega)]
    split
    · rw[if_neg (by omega),obO_pos (by unfold roomB;rw[List.length_singleton];omega)]
    · rw[obO_pos (by unfold roomB;rw[List.length_singleton];omega)]
def F_r15_in : FnC Un:=fun args=>match args with
  | [x0,x1]=>(dS .rel x0).bind fun r=>(dL .int x1).bind fun env=>some ([env15 env 1],A_r15_in (r15_in r env),O_r15_in (r15_in r env))
  | _=>none
theorem ok_r15_in : FnOK 77 F_r15_in:=by
  intro args ob rs os h hob
  unfold F_r15_in at h
  split at h
  · simp only[Option.bind_eq_some_iff,Option.some.injEq,Prod.mk.injEq] at h
    obtain⟨r,e0,env,e1,rfl,rfl,rfl⟩:=h
    obtain rfl:=dS_eq e0
    obtain rfl:=dL_eq e1
    exact⟨fn_contractF (M:=M_r15_in) rfl (tbl_ok (l1:=[(19,F_r15_Width)]) (l2:=[]) (l3:=[]) (l4:=[]) (l5:=[]) ⟨ok_r15_Width,trivial⟩ trivial trivial trivial trivial) Tryz.func77 (by kernel_rfl) N_r15_in 0 [.d] (fun hwf=>(r15_in_spec r env (wfArg hwf (a:=.d (.agg (enc Ty.rel r))) (List.mem_of_getElem? (i:=0) rfl)) (wfArg hwf (a:=.d (.v (.dat (U:=Un) Ty.int env))) (List.mem_of_getElem? (i:=1) rfl)) (hob _ (List.mem_of_getElem? (i:=0) rfl)))),hasBody_of Tryz.func77 (by kernel_rfl) (by kernel_rfl)⟩
  · simp at h
def M_r03_Rights : Mc Un:=mach (tbl [(152,F_r03_Right)]) (tbl []) (tbl []) (tbl []) (tbl [])
def A_r03_Rights (r:Bool) : List (A Un):=[.c (.s (.bool r))]
def O_r03_Rights (_r:Bool) : List (Ob Un):=[]
def R_r03_Rights (r:Bool) : RF Un:=(A_r03_Rights r,O_r03_Rights r)
def N_r03_Rights : Nat→NS:=fun l=>(look l [(2,{ ts:=bl 16 13,bs:=bl 16 0,nm:=[],cs:=true })]).getD ⟨[],[],[],[],[],true⟩
def r03_Rights_s2 (r:List Val) (v0:Int) : S Un:=(st 16 16 64 0 [(0,al .val r),(2,ab false),(3,ai v0)] [] [])
def r03_Rights_B2 : Code:=sub (bodyOf Tryz.f119) [1,0,1,2,2]
def r03_Rights_L2 : S Un→Option (EX Un):=loopF (N_r03_Rights 2) (fun s Q=>awf M_r03_Rights N_r03_Rights r03_Rights_B2 s Q)
def r03_Rights_C2 : Exit→S Un→Option (RF Un):=ctxF M_r03_Rights N_r03_Rights (bodyOf Tryz.f119) [1,0,1,2] (retF M_r03_Rights Tryz.f119.results.toList [.d])
def r03_Rights_fn (r:List Val) : Option (RF Un):=awf M_r03_Rights N_r03_Rights (bodyOf Tryz.f119) (entry Tryz.f119.ntmps 0 [.d (.v (.dat (U:=Un) Ty.val r))]) (retF M_r03_Rights Tryz.f119.results.toList [.d])
theorem r03_Rights_in (r:List Val) : r03_Rights_fn r=(r03_Rights_L2 (r03_Rights_s2 r (0:Int))).bind (thenX r03_Rights_C2):=by kernel_rfl
theorem r03_Rights_l2 (r:List Val) (v0:Int) : r03_Rights_L2 (r03_Rights_s2 r v0)=cndO (decide (v0<(↑r.length:Int))) (obO (0≤v0∧v0<(↑r.length:Int)) (cndO (!r03_Right (r.getD v0.toNat zeroVal)) (some (.ret,(r03_Rights_s2 r v0))) (r03_Rights_L2 (r03_Rights_s2 r (IntKind.i64.wrap (v0+1)))))) (some (.exit 0,(r03_Rights_s2 r v0))):=(loopF_eq (N_r03_Rights 2) r03_Rights_B2 _).trans (by kernel_rfl)
theorem r03_Rights_a2_ret (r:List Val) (v0:Int) : r03_Rights_C2 .ret (r03_Rights_s2 r v0)=some (R_r03_Rights (false)):=by kernel_rfl
theorem r03_Rights_a2_x0 (r:List Val) (v0:Int) : r03_Rights_C2 (.exit 0) (r03_Rights_s2 r v0)=some (R_r03_Rights (true)):=by kernel_rfl
def r03_Rights (r:List Val) : Bool:=r.all rightV
theorem r03_Rights_spec (r:List Val) (hr:WL .val r) : r03_Rights_fn r=some (R_r03_Rights (r03_Rights r)):=by
  rw[r03_Rights_in]
  exact loop_all (L:=r03_Rights_L2) (st:=fun i=>r03_Rights_s2 r i) (fun b=>some (R_r03_Rights b)) (d:=zeroVal) rightV hr.len
    (fun i x hi hx _=>by
      rw[r03_Rights_l2]
      simp only[cndO_eq,hi,decide_true,if_true,and_true,Int.toNat_natCast,hx,r03_Right_eq]
      rw[obO_pos (by omega)]
      cases rightV x<;>rfl)
    (by rw[r03_Rights_l2];simp [cndO_eq]) (fun i=>r03_Rights_a2_ret _ _) (fun i=>r03_Rights_a2_x0 _ _)
def F_r03_Rights : FnC Un:=fun args=>match args with
  | [x0]=>(dL .val x0).bind fun r=>some ([],A_r03_Rights (r03_Rights r),O_r03_Rights (r03_Rights r))
  | _=>none
theorem ok_r03_Rights : FnOK 119 F_r03_Rights:=by
  intro args ob rs os h hob
  unfold F_r03_Rights at h
  split at h
  · simp only[Option.bind_eq_some_iff,Option.some.injEq,Prod.mk.injEq] at h
    obtain⟨r,e0,rfl,rfl,rfl⟩:=h
    obtain rfl:=dL_eq e0
    exact⟨fn_contractF (M:=M_r03_Rights) rfl (tbl_ok (l1:=[(152,F_r03_Right)]) (l2:=[]) (l3:=[]) (l4:=[]) (l5:=[]) ⟨ok_r03_Right,trivial⟩ trivial trivial trivial trivial) Tryz.func119 (by kernel_rfl) N_r03_Rights 0 [.d] (fun hwf=>(r03_Rights_spec r (wfArg hwf (a:=.d (.v (.dat (U:=Un) Ty.val r))) (List.mem_of_getElem? (i:=0) rfl)))),hasBody_of Tryz.func119 (by kernel_rfl) (by kernel_rfl)⟩
  · simp at h
def M_r15_rows : Mc Un:=mach (tbl [(119,F_r03_Rights)]) (tbl []) (tbl []) (tbl []) (tbl [])
def A_r15_rows (r:Bool) : List (A Un):=[.c (.s (.bool r))]
def O_r15_rows (_r:Bool) : List (Ob Un):=[]
def R_r15_rows (r:Bool) : RF Un:=(A_r15_rows r,O_r15_rows r)
def N_r15_rows : Nat→NS:=fun l=>(look l [(2,{ ts:=bl 27 51,bs:=bl 27 0,nm:=[],cs:=true })]).getD ⟨[],[],[],[],[],true⟩
def r15_rows_s2 (l:List (List Val)) (n:Int) (v0:Int) : S Un:=(st 27 27 108 0 [(0,al .row l),(1,ai n),(4,ab false),(5,ai v0)] [] [])
def r15_rows_B2 : Code:=sub (bodyOf Tryz.f78) [1,0,1,2,2]
def r15_rows_L2 : S Un→Option (EX Un):=loopF (N_r15_rows 2) (fun s Q=>awf M_r15_rows N_r15_rows r15_rows_B2 s Q)
def r15_rows_C2 : Exit→S Un→Option (RF Un):=ctxF M_r15_rows N_r15_rows (bodyOf Tryz.f78) [1,0,1,2] (retF M_r15_rows Tryz.f78.results.toList [.d])
def r15_rows_fn (l:List (List Val)) (n:Int) : Option (RF Un):=awf M_r15_rows N_r15_rows (bodyOf Tryz.f78) (entry Tryz.f78.ntmps 0 [.d (.v (.dat (U:=Un) Ty.row l)),.d (.v (.s (.int .i64 n)))]) (retF M_r15_rows Tryz.f78.results.toList [.d])
theorem r15_rows_in (l:List (List Val)) (n:Int) : r15_rows_fn l n=(r15_rows_L2 (r15_rows_s2 l n (0:Int))).bind (thenX r15_rows_C2):=by kernel_rfl
theorem r15_rows_l2 (l:List (List Val)) (n:Int) (v0:Int) : r15_rows_L2 (r15_rows_s2 l n v0)=cndO (decide (v0<(↑l.length:Int))) (obO (0≤v0∧v0<(↑l.length:Int)) (cndO ((↑(List.length (l.getD v0.toNat [])):Int) != n) (some (.ret,(r15_rows_s2 l n v0))) (obO (0≤v0∧v0<(↑l.length:Int)) (cndO (!r03_Rights (l.getD v0.toNat [])) (some (.ret,(r15_rows_s2 l n v0))) (r15_rows_L2 (r15_rows_s2 l n (IntKind.i64.wrap (v0+1)))))))) (some (.exit 0,(r15_rows_s2 l n v0))):=(loopF_eq (N_r15_rows 2) r15_rows_B2 _).trans (by kernel_rfl)
theorem r15_rows_a2_ret (l:List (List Val)) (n:Int) (v0:Int) : r15_rows_C2 .ret (r15_rows_s2 l n v0)=some (R_r15_rows (false)):=by kernel_rfl
theorem r15_rows_a2_x0 (l:List (List Val)) (n:Int) (v0:Int) : r15_rows_C2 (.exit 0) (r15_rows_s2 l n v0)=some (R_r15_rows (true)):=by kernel_rfl
def r15_rows (l:List (List Val)) (n:Int) : Bool:=l.all fun x=>decide ((x.length:Int)=n) && r03_Rights x
theorem r15_rows_spec (l:List (List Val)) (n:Int) (hl:WL .row l) (_hn:WI n) : r15_rows_fn l n=some (R_r15_rows (r15_rows l n)):=by
  rw[r15_rows_in]
  exact loop_all (L:=r15_rows_L2) (st:=fun i=>r15_rows_s2 l n i) (fun b=>some (R_r15_rows b)) (d:=[]) (fun x=>decide ((x.length:Int)=n) && r03_Rights x) hl.len
    (fun i x hi hx _=>by
      rw[r15_rows_l2]
      simp only[cndO_eq,hi,decide_true,if_true,and_true,Int.toNat_natCast,hx]
      rw[obO_pos (by omega),obO_pos (by omega)]
      by_cases h : (x.length:Int)=n
      · rw[if_neg (by simpa using h),decide_eq_true h,Bool.true_and]
        cases r03_Rights x<;>rfl
      · rw[if_pos (by simpa using h),decide_eq_false h,Bool.false_and,if_neg (by decide)])
    (by rw[r15_rows_l2];simp [cndO_eq]) (fun i=>r15_rows_a2_ret _ _ _) (fun i=>r15_rows_a2_x0 _ _ _)
def F_r15_rows : FnC Un:=fun args=>match args with
  | [x0,x1]=>(dL .row x0).bind fun l=>(dI .i64 x1).bind fun n=>some ([],A_r15_rows (r15_rows l n),O_r15_rows (r15_rows l n))
  | _=>none
theorem ok_r15_rows : FnOK 78 F_r15_rows:=by
  intro args ob rs os h hob
  unfold F_r15_rows at h
  split at h
  · simp only[Option.bind_eq_some_iff,Option.some.injEq,Prod.mk.injEq] at h
    obtain⟨l,e0,n,e1,rfl,rfl,rfl⟩:=h
    obtain rfl:=dL_eq e0
    obtain rfl:=dI_eq e1
    exact⟨fn_contractF (M:=M_r15_rows) rfl (tbl_ok (l1:=[(119,F_r03_Rights)]) (l2:=[]) (l3:=[]) (l4:=[]) (l5:=[]) ⟨ok_r03_Rights,trivial⟩ trivial trivial trivial trivial) Tryz.func78 (by kernel_rfl) N_r15_rows 0 [.d] (fun hwf=>(r15_rows_spec l n (wfArg hwf (a:=.d (.v (.dat (U:=Un) Ty.row l))) (List.mem_of_getElem? (i:=0) rfl)) (wfArg hwf (a:=.d (.v (.s (.int .i64 n)))) (List.mem_of_getElem? (i:=1) rfl)))),hasBody_of Tryz.func78 (by kernel_rfl) (by kernel_rfl)⟩
  · simp at h
def M_r15_keys : Mc Un:=mach (tbl []) (tbl []) (tbl []) (tbl []) (tbl [])
def A_r15_keys (r:Bool) : List (A Un):=[.c (.s (.bool r))]
def O_r15_keys (_r:Bool) : List (Ob Un):=[]
def R_r15_keys (r:Bool) : RF Un:=(A_r15_keys r,O_r15_keys r)
def N_r15_keys : Nat→NS:=fun l=>(look l [(2,{ ts:=bl 27 51,bs:=bl 27 0,nm:=[],cs:=true })]).getD ⟨[],[],[],[],[],true⟩
def r15_keys_s2 (l:List By) (n:Int) (v0:Int) : S Un:=(st 27 27 108 0 [(0,al .by_ l),(1,ai n),(4,ab false),(5,ai v0)] [] [])
def r15_keys_B2 : Code:=sub (bodyOf Tryz.f81) [1,0,1,2,2]
def r15_keys_L2 : S Un→Option (EX Un):=loopF (N_r15_keys 2) (fun s Q=>awf M_r15_keys N_r15_keys r15_keys_B2 s Q)
def r15_keys_C2 : Exit→S Un→Option (RF Un):=ctxF M_r15_keys N_r15_keys (bodyOf Tryz.f81) [1,0,1,2] (retF M_r15_keys Tryz.f81.results.toList [.d])
def r15_keys_fn (l:List By) (n:Int) : Option (RF Un):=awf M_r15_keys N_r15_keys (bodyOf Tryz.f81) (entry Tryz.f81.ntmps 0 [.d (.v (.dat (U:=Un) Ty.by_ l)),.d (.v (.s (.int .i64 n)))]) (retF M_r15_keys Tryz.f81.results.toList [.d])
theorem r15_keys_in (l:List By) (n:Int) : r15_keys_fn l n=(r15_keys_L2 (r15_keys_s2 l n (0:Int))).bind (thenX r15_keys_C2):=by kernel_rfl
theorem r15_keys_l2 (l:List By) (n:Int) (v0:Int) : r15_keys_L2 (r15_keys_s2 l n v0)=cndO (decide (v0<(↑l.length:Int))) (obO (0≤v0∧v0<(↑l.length:Int)) (cndO (decide ((l.getD v0.toNat zeroBy).at_<0)) (some (.ret,(r15_keys_s2 l n v0))) (obO (0≤v0∧v0<(↑l.length:Int)) (cndO (decide ((l.getD v0.toNat zeroBy).at_≥n)) (some (.ret,(r15_keys_s2 l n v0))) (r15_keys_L2 (r15_keys_s2 l n (IntKind.i64.wrap (v0+1)))))))) (some (.exit 0,(r15_keys_s2 l n v0))):=(loopF_eq (N_r15_keys 2) r15_keys_B2 _).trans (by kernel_rfl)
theorem r15_keys_a2_ret (l:List By) (n:Int) (v0:Int) : r15_keys_C2 .ret (r15_keys_s2 l n v0)=some (R_r15_keys (false)):=by kernel_rfl
theorem r15_keys_a2_x0 (l:List By) (n:Int) (v0:Int) : r15_keys_C2 (.exit 0) (r15_keys_s2 l n v0)=some (R_r15_keys (true)):=by kernel_rfl
def r15_keys (l:List By) (n:Int) : Bool:=l.all fun k=>decide (0≤k.at_∧k.at_<n)
theorem r15_keys_spec (l:List By) (n:Int) (hl:WL .by_ l) (_hn:WI n) : r15_keys_fn l n=some (R_r15_keys (r15_keys l n)):=by
  rw[r15_keys_in]
  exact loop_all (L:=r15_keys_L2) (st:=fun i=>r15_keys_s2 l n i) (fun b=>some (R_r15_keys b)) (d:=zeroBy) (fun k=>decide (0≤k.at_∧k.at_<n)) hl.len
    (fun i x hi hx _=>by
      rw[r15_keys_l2]
      simp only[cndO_eq,hi,decide_true,if_true,and_true,Int.toNat_natCast,hx,decide_eq_true_eq]
      rw[obO_pos (by omega),obO_pos (by omega)]
      by_cases h : x.at_<0
      · rw[if_pos h,if_neg (by omega)]
      · rw[if_neg h]
        by_cases h2 : x.at_≥n
        · rw[if_pos h2,if_neg (by omega)]
        · rw[if_neg h2,if_pos (by omega)])
    (by rw[r15_keys_l2];simp [cndO_eq]) (fun i=>r15_keys_a2_ret _ _ _) (fun i=>r15_keys_a2_x0 _ _ _)
def F_r15_keys : FnC Un:=fun args=>match args with
  | [x0,x1]=>(dL .by_ x0).bind fun l=>(dI .i64 x1).bind fun n=>some ([],A_r15_keys (r15_keys l n),O_r15_keys (r15_keys l n))
  | _=>none
theorem ok_r15_keys : FnOK 81 F_r15_keys:=by
  intro args ob rs os h hob
  unfold F_r15_keys at h
  split at h
  · simp only[Option.bind_eq_some_iff,Option.some.injEq,Prod.mk.injEq] at h
    obtain⟨l,e0,n,e1,rfl,rfl,rfl⟩:=h
    obtain rfl:=dL_eq e0
    obtain rfl:=dI_eq e1
    exact⟨fn_contractF (M:=M_r15_keys) rfl (tbl_ok (l1:=[]) (l2:=[]) (l3:=[]) (l4:=[]) (l5:=[]) trivial trivial trivial trivial trivial) Tryz.func81 (by kernel_rfl) N_r15_keys 0 [.d] (fun hwf=>(r15_keys_spec l n (wfArg hwf (a:=.d (.v (.dat (U:=Un) Ty.by_ l))) (List.mem_of_getElem? (i:=0) rfl)) (wfArg hwf (a:=.d (.v (.s (.int .i64 n)))) (List.mem_of_getElem? (i:=1) rfl)))),hasBody_of Tryz.func81 (by kernel_rfl) (by kernel_rfl)⟩
  · simp at h
end
end Go.Proofs.YtolbngdhgcbmgaaGreat.B
