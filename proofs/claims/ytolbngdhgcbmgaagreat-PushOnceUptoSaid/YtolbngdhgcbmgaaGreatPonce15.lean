/- Part 15 of the proof: Sconj4 Salgw Ssame Ssame2 Ssame3. -/
import Derived.Test.YtolbngdhgcbmgaaGreatPonce14
namespace Go.Proofs.YtolbngdhgcbmgaaGreat.B
open Go Go.RowKit
set_option maxRecDepth 100000
noncomputable section
attribute [local irreducible] awp ctxK itersK iterK retQ retGQ awf ctxF loopF
def and2 (a b:Term) : Term:=.mk 17 zeroVal 0 0 ⟨#[]⟩ [a,b] [] 1
def joinT : List Term→Term
  | []=>.mk 1 (boolV true) 0 0 ⟨#[]⟩ [] [] 1
  | x::r=>r.foldl and2 x
def M_conj_Join : Mc Un:=mach (tbl [(161,F_value_Bool)]) (tbl []) (tbl []) (tbl []) (tbl [])
def A_conj_Join (r:Term) : List (A Un):=[.agg (encC Ty.term r)]
def O_conj_Join (_r:Term) : List (Ob Un):=[]
def R_conj_Join (r:Term) : RF Un:=(A_conj_Join r,O_conj_Join r)
def N_conj_Join : Nat→NS:=fun l=>(look l [(5,{ ts:=bl 27 229388,bs:=bl 27 12,nm:=[],gb:=[2,3] })]).getD ⟨[],[],[],[],[],false⟩
def conj_Join_s5 (l:List Term) (b2:Term) (b3:Term) (v0:Int) : S Un:=(st 27 27 108 0 [(2,ax 2),(3,ax 3),(15,al .term (List.drop 1 l)),(16,ai (↑(List.drop 1 l).length:Int)),(17,ai v0)] [(2,bg .term b2),(3,bg .term b3)] [])
def conj_Join_B5 : Code:=sub (bodyOf Tryz.f129) [1,1,1,0,1,2,2]
def conj_Join_L5 : S Un→Option (EX Un):=loopF (N_conj_Join 5) (fun s Q=>awf M_conj_Join N_conj_Join conj_Join_B5 s Q)
def conj_Join_C5 : Exit→S Un→Option (RF Un):=ctxF M_conj_Join N_conj_Join (bodyOf Tryz.f129) [1,1,1,0,1,2] (retF M_conj_Join Tryz.f129.results.toList [.d])
def conj_Join_fn (l:List Term) : Option (RF Un):=awf M_conj_Join N_conj_Join (bodyOf Tryz.f129) (entry Tryz.f129.ntmps 0 [.d (.v (.dat (U:=Un) Ty.term l))]) (retF M_conj_Join Tryz.f129.results.toList [.d])
theorem conj_Join_in (l:List Term) : conj_Join_fn l=cndO ((↑l.length:Int) == (0:Int)) (some (R_conj_Join (Term.mk (1:Int) { kind:=(1:Int),n:=(1:Int),s:=(value_Bool true).s } (0:Int) (0:Int) (ByteArray.mk #[]) [] [] (1:Int)))) (obO ((0:Int)≤(0:Int)∧(0:Int)<(↑l.length:Int)) (obO ((0:Int)≤(1:Int)∧(1:Int)≤(↑l.length:Int)) ((conj_Join_L5 (conj_Join_s5 l zeroTerm (l.getD 0 zeroTerm) (0:Int))).bind (thenX conj_Join_C5)))):=by kernel_rfl
theorem conj_Join_l5 (l:List Term) (b2:Term) (b3:Term) (v0:Int) : conj_Join_L5 (conj_Join_s5 l b2 b3 v0)=cndO (decide (v0<(↑(List.drop 1 l).length:Int))) (obO (0≤v0∧v0<(↑(List.drop 1 l).length:Int)) (conj_Join_L5 (conj_Join_s5 l b2 (Term.mk (17:Int) zeroVal (0:Int) (0:Int) (ByteArray.mk #[]) [(Term.ids b3),(Term.ids ((List.drop 1 l).getD v0.toNat zeroTerm))] [] (1:Int)) (IntKind.i64.wrap (v0+1))))) (some (.exit 0,(conj_Join_s5 l b2 b3 v0))):=(loopF_eq (N_conj_Join 5) conj_Join_B5 _).trans (by kernel_rfl)
theorem conj_Join_a5_x0 (l:List Term) (b2:Term) (b3:Term) (v0:Int) : conj_Join_C5 (.exit 0) (conj_Join_s5 l b2 b3 v0)=some (R_conj_Join (b3)):=by kernel_rfl
def conj_Join (l:List Term) : Term:=joinT l
@[simp] theorem conj_Join_eq (l:List Term) : conj_Join l=joinT l:=by unfold conj_Join;rfl
theorem conj_Join_spec (l:List Term) (hl:WL .term l) : conj_Join_fn l=some (R_conj_Join (conj_Join l)):=by
  rw[conj_Join_in]
  unfold conj_Join
  cases l with
  | nil=>simp only[cndO_eq,joinT,value_Bool_spec];rfl
  | cons x r =>
    have hlen:=hl.len
    have hd:List.drop 1 (x::r)=r:=rfl
    have hg:(x::r).getD 0 zeroTerm=x:=rfl
    rw[List.length_cons] at hlen
    obtain⟨lp,_⟩:=loop_fold (e:=.exit 0) (L:=conj_Join_L5) (st:=fun b i=>conj_Join_s5 (x::r) zeroTerm b i) (l:=r) (d:=zeroTerm) (g:=and2) (fun _ _=>True) (by omega)
      (fun b i y hi hy _=>⟨trivial,by
        rw[conj_Join_l5]
        simp only[hd,Term.ids_eq,cndO_eq,hi,decide_true,if_true,and_true,Int.toNat_natCast,hy]
        rw[obO_pos (by omega)]
        rfl⟩)
      (fun b _=>by rw[conj_Join_l5];simp [cndO_eq]) x trivial
    rw[cndO_eq,if_neg (by rw[List.length_cons,beq_iff_eq];omega),obO_pos (by rw[List.length_cons];omega),obO_pos (by rw[List.length_cons];omega),hg,loop_end lp,conj_Join_a5_x0]
    try rfl
def F_conj_Join : FnC Un:=fun args=>match args with
  | [x0]=>(dL .term x0).bind fun l=>some ([],A_conj_Join (conj_Join l),O_conj_Join (conj_Join l))
  | _=>none
theorem ok_conj_Join : FnOK 129 F_conj_Join:=by
  intro args ob rs os h hob
  unfold F_conj_Join at h
  split at h
  · simp only[Option.bind_eq_some_iff,Option.some.injEq,Prod.mk.injEq] at h
    obtain⟨l,e0,rfl,rfl,rfl⟩:=h
    obtain rfl:=dL_eq e0
    exact⟨fn_contractF (M:=M_conj_Join) rfl (tbl_ok (l1:=[(161,F_value_Bool)]) (l2:=[]) (l3:=[]) (l4:=[]) (l5:=[]) ⟨ok_value_Bool,trivial⟩ trivial trivial trivial trivial) Tryz.func129 (by kernel_rfl) N_conj_Join 0 [.d] (fun hwf=>(conj_Join_spec l (wfArg hwf (a:=.d (.v (.dat (U:=Un) Ty.term l))) (List.mem_of_getElem? (i:=0) rfl)))),hasBody_of Tryz.func129 (by kernel_rfl) (by kernel_rfl)⟩
  · simp at h
def M_within1 : Mc Un:=mach (tbl []) (tbl []) (tbl []) (tbl []) (tbl [])
def A_within1 (r:Bool) : List (A Un):=[.c (.s (.bool r))]
def O_within1 (_r:Bool) : List (Ob Un):=[]
def R_within1 (r:Bool) : RF Un:=(A_within1 r,O_within1 r)
def N_within1 : Nat→NS:=fun l=>(look l []).getD ⟨[],[],[],[],[],false⟩
def within1_fn (at_:Int) (from_:Int) (to_:Int) : Option (RF Un):=awf M_within1 N_within1 (bodyOf Tryz.f159) (entry Tryz.f159.ntmps 0 [.d (.v (.s (.int .i64 at_))),.box [.v (.s (.int .i64 from_))],.box [.v (.s (.int .i64 to_))]]) (retF M_within1 Tryz.f159.results.toList [.d])
theorem within1_in (at_:Int) (from_:Int) (to_:Int) : within1_fn at_ from_ to_=cndO (decide (at_<from_)) (some (R_within1 (true))) (some (R_within1 (decide (at_≥to_)))):=by kernel_rfl
def within1 (a f t:Int) : Bool:=decide (a<f∨a≥t)
theorem within1_spec (a f t:Int) (_ha:WI a) (_hf:WI f) (_ht:WI t) : within1_fn a f t=some (R_within1 (within1 a f t)):=by
  rw[within1_in]
  unfold within1
  simp only[cndO_eq,decide_eq_true_eq]
  by_cases h : a<f
  · rw[if_pos h,decide_eq_true (.inl h)]
  · rw[if_neg h]
    congr 2
    by_cases h2 : a≥t
    · rw[decide_eq_true h2,decide_eq_true (.inr h2)]
    · rw[decide_eq_false h2,decide_eq_false (by rintro (e | e);exact h e;exact h2 e)]
def L_within1 : List (List (DC Un))→Option (FV Un):=fun dl=>match dl with
  | [b0,b1]=>(bI .i64 b0).bind fun from_=>(bI .i64 b1).bind fun to_=>some (fv_i_i64_to_b (fun at_=>within1 at_ from_ to_))
  | _=>none
theorem okL_within1 : ClOK 159 L_within1:=by
  refine⟨hasBody_of Tryz.func159 (by kernel_rfl) (by kernel_rfl),fun dl φ args ob rs hF hφ hob=>?_⟩
  unfold L_within1 at hF
  split at hF
  · simp only[Option.bind_eq_some_iff,Option.some.injEq] at hF
    obtain⟨from_,g0,to_,g1,hE⟩:=hF
    subst hE
    obtain rfl:=bI_eq g0
    obtain rfl:=bI_eq g1
    unfold fv_i_i64_to_b at hφ
    split at hφ
    · simp only[Option.bind_eq_some_iff,Option.some.injEq,Prod.mk.injEq] at hφ
      obtain⟨at_,e0,rfl,rfl⟩:=hφ
      simp only[List.map_cons,List.map_nil,List.cons_append,List.nil_append]
      rw[dI_eq e0]
      exact Contract.data (fn_contractF (M:=M_within1) rfl (tbl_ok (l1:=[]) (l2:=[]) (l3:=[]) (l4:=[]) (l5:=[]) trivial trivial trivial trivial trivial) Tryz.func159 (by kernel_rfl) N_within1 0 [.d] (fun hwf=>(within1_spec at_ from_ to_ (wfArg hwf (a:=.d (.v (.s (.int .i64 at_)))) (List.mem_of_getElem? (i:=0) rfl)) (wfArg hwf (a:=.box [.v (.s (.int .i64 from_))]) (List.mem_of_getElem? (i:=1) rfl)) (wfArg hwf (a:=.box [.v (.s (.int .i64 to_))]) (List.mem_of_getElem? (i:=2) rfl)))))
    · simp at hφ
  · simp at hF
def M_conj_Within : Mc Un:=mach (tbl [(158,F_conj_Uses),(157,F_conf_int)]) (tbl []) (tbl [(159,L_within1)]) (tbl []) (tbl [])
def A_conj_Within (r:Bool) : List (A Un):=[.c (.s (.bool r))]
def O_conj_Within (_r:Bool) : List (Ob Un):=[]
def R_conj_Within (r:Bool) : RF Un:=(A_conj_Within r,O_conj_Within r)
def N_conj_Within : Nat→NS:=fun l=>(look l []).getD ⟨[],[],[],[],[],false⟩
def conj_Within_fn (t:Term) (from_:Int) (to_:Int) : Option (RF Un):=awf M_conj_Within N_conj_Within (bodyOf Tryz.f126) (entry Tryz.f126.ntmps 0 [.d (.agg (enc Ty.term t)),.d (.v (.s (.int .i64 from_))),.d (.v (.s (.int .i64 to_)))]) (retF M_conj_Within Tryz.f126.results.toList [.d])
theorem conj_Within_in (t:Term) (from_:Int) (to_:Int) : conj_Within_fn t from_ to_=obO (useOK (Term.ids t) (0:Int)) (obO ((fv_i_i64_to_b fun at_=>within1 at_ from_ to_)=fv_i_i64_to_b (pf_i_i64_to_b (fv_i_i64_to_b fun at_=>within1 at_ from_ to_))) (some (R_conj_Within (!conf_int (conj_Uses (Term.ids t) (0:Int)) (pf_i_i64_to_b (fv_i_i64_to_b fun at_=>within1 at_ from_ to_)))))):=by kernel_rfl
def withinA (t:Term) (f u:Int) : Bool:=(usesA t 0).all fun a=>decide (f≤a∧a<u)
def conj_Within (t:Term) (from_ to_:Int) : Bool:=withinA t from_ to_
@[simp] theorem conj_Within_eq (t:Term) (from_ to_:Int) : conj_Within t from_ to_=withinA t from_ to_:=by unfold conj_Within;rfl
theorem conj_Within_spec (t:Term) (from_ to_:Int) (_ht:WS .term t) (_hf:WI from_) (_hu:WI to_) (h:t.sz≤2000000) : conj_Within_fn t from_ to_=some (R_conj_Within (conj_Within t from_ to_)):=by
  rw[conj_Within_in,Term.ids_eq]
  simp only[pfv_i_i64_to_b,conf_int_eq,conj_Uses_eq]
  rw[obO_pos ⟨by omega,h⟩,obO_pos trivial]
  unfold conj_Within withinA
  congr 2
  induction usesA t 0 with
  | nil=>rfl
  | cons x l ih =>
    rw[List.any_cons,List.all_cons,Bool.not_or,ih]
    congr 1
    unfold within1
    by_cases h1 : from_≤x∧x<to_
    · rw[decide_eq_true h1,decide_eq_false (by omega)];rfl
    · rw[decide_eq_false h1,decide_eq_true (by omega)];rfl
def F_conj_Within : FnC Un:=fun args=>match args with
  | [x0,x1,x2]=>(dS .term x0).bind fun t=>(dI .i64 x1).bind fun from_=>(dI .i64 x2).bind fun to_=>some ([t.sz≤2000000],A_conj_Within (conj_Within t from_ to_),O_conj_Within (conj_Within t from_ to_))
  | _=>none
theorem ok_conj_Within : FnOK 126 F_conj_Within:=by
  intro args ob rs os h hob
  unfold F_conj_Within at h
  split at h
  · simp only[Option.bind_eq_some_iff,Option.some.injEq,Prod.mk.injEq] at h
    obtain⟨t,e0,from_,e1,to_,e2,rfl,rfl,rfl⟩:=h
    obtain rfl:=dS_eq e0
    obtain rfl:=dI_eq e1
    obtain rfl:=dI_eq e2
    exact⟨fn_contractF (M:=M_conj_Within) rfl (tbl_ok (l1:=[(158,F_conj_Uses),(157,F_conf_int)]) (l2:=[]) (l3:=[(159,L_within1)]) (l4:=[]) (l5:=[]) ⟨ok_conj_Uses,ok_conf_int,trivial⟩ trivial ⟨okL_within1,trivial⟩ trivial trivial) Tryz.func126 (by kernel_rfl) N_conj_Within 0 [.d] (fun hwf=>(conj_Within_spec t from_ to_ (wfArg hwf (a:=.d (.agg (enc Ty.term t))) (List.mem_of_getElem? (i:=0) rfl)) (wfArg hwf (a:=.d (.v (.s (.int .i64 from_)))) (List.mem_of_getElem? (i:=1) rfl)) (wfArg hwf (a:=.d (.v (.s (.int .i64 to_)))) (List.mem_of_getElem? (i:=2) rfl)) (hob _ (List.mem_of_getElem? (i:=0) rfl)))),hasBody_of Tryz.func126 (by kernel_rfl) (by kernel_rfl)⟩
  · simp at h
end
end Go.Proofs.YtolbngdhgcbmgaaGreat.B
namespace Go.Proofs.YtolbngdhgcbmgaaGreat.B
open Go Go.RowKit
set_option maxRecDepth 100000
noncomputable section
attribute [local irreducible] awp ctxK itersK iterK retQ retGQ awf ctxF loopF
def M_algebra_kids : Mc Un:=mach (tbl []) (tbl []) (tbl []) (tbl []) (tbl [])
def A_algebra_kids (r:Int) : List (A Un):=[.c (.s (.int .i64 r))]
def O_algebra_kids (_r:Int) : List (Ob Un):=[]
def R_algebra_kids (r:Int) : RF Un:=(A_algebra_kids r,O_algebra_kids r)
def N_algebra_kids : Nat→NS:=fun l=>(look l []).getD ⟨[],[],[],[],[],false⟩
def algebra_kids_fn (op:Int) : Option (RF Un):=awf M_algebra_kids N_algebra_kids (bodyOf Tryz.f49) (entry Tryz.f49.ntmps 0 [.d (.v (.s (.int .i64 op)))]) (retF M_algebra_kids Tryz.f49.results.toList [.d])
def algebra_kids_t1 (op:Int) : Option (RF Un):=cndO (op == 5) (cndO (op == 5) (some (R_algebra_kids ((2:Int)))) (some (R_algebra_kids ((-1:Int))))) (cndO (op == 6) (cndO (op == 6) (some (R_algebra_kids ((2:Int)))) (some (R_algebra_kids ((-1:Int))))) (cndO (op == 9) (cndO (op == 9) (some (R_algebra_kids ((2:Int)))) (some (R_algebra_kids ((-1:Int))))) (cndO (op == 10) (cndO (op == 10) (some (R_algebra_kids ((2:Int)))) (some (R_algebra_kids ((-1:Int))))) (cndO (op == 11) (some (R_algebra_kids ((2:Int)))) (some (R_algebra_kids ((-1:Int))))))))
def algebra_kids_t2 (op:Int) : Option (RF Un):=cndO (op == 3) (cndO (op == 3) (some (R_algebra_kids ((1:Int)))) (algebra_kids_t1 op)) (cndO (op == 4) (cndO (op == 4) (some (R_algebra_kids ((1:Int)))) (algebra_kids_t1 op)) (cndO (op == 7) (cndO (op == 7) (some (R_algebra_kids ((1:Int)))) (algebra_kids_t1 op)) (cndO (op == 8) (cndO (op == 8) (some (R_algebra_kids ((1:Int)))) (algebra_kids_t1 op)) (cndO (op == 12) (cndO (op == 12) (some (R_algebra_kids ((1:Int)))) (algebra_kids_t1 op)) (cndO (op == 13) (some (R_algebra_kids ((1:Int)))) (algebra_kids_t1 op))))))
theorem algebra_kids_in (op:Int) : algebra_kids_fn op=cndO (op == 1) (cndO (op == 1) (some (R_algebra_kids ((0:Int)))) (algebra_kids_t2 op)) (cndO (op == 2) (some (R_algebra_kids ((0:Int)))) (algebra_kids_t2 op)):=by kernel_rfl
def algebra_kids (op:Int) : Int:=kidsN op
theorem algebra_kids_spec (op:Int) (_h:WI op) : algebra_kids_fn op=some (R_algebra_kids (algebra_kids op)):=by
  by_cases h1 : op=1
  · subst h1;rw[algebra_kids_in];kernel_rfl
  by_cases h2 : op=2
  · subst h2;rw[algebra_kids_in];kernel_rfl
  by_cases h3 : op=3
  · subst h3;rw[algebra_kids_in];kernel_rfl
  by_cases h4 : op=4
  · subst h4;rw[algebra_kids_in];kernel_rfl
  by_cases h5 : op=5
  · subst h5;rw[algebra_kids_in];kernel_rfl
  by_cases h6 : op=6
  · subst h6;rw[algebra_kids_in];kernel_rfl
  by_cases h7 : op=7
  · subst h7;rw[algebra_kids_in];kernel_rfl
  by_cases h8 : op=8
  · subst h8;rw[algebra_kids_in];kernel_rfl
  by_cases h9 : op=9
  · subst h9;rw[algebra_kids_in];kernel_rfl
  by_cases h10 : op=10
  · subst h10;rw[algebra_kids_in];kernel_rfl
  by_cases h11 : op=11
  · subst h11;rw[algebra_kids_in];kernel_rfl
  by_cases h12 : op=12
  · subst h12;rw[algebra_kids_in];kernel_rfl
  by_cases h13 : op=13
  · subst h13;rw[algebra_kids_in];kernel_rfl
  rw[algebra_kids_in]
  unfold algebra_kids_t2 algebra_kids_t1 algebra_kids kidsN
  simp only[cndO_eq,beq_iff_eq,h1,h2,h3,h4,h5,h6,h7,h8,h9,h10,h11,h12,h13,if_false,or_self]
def F_algebra_kids : FnC Un:=fun args=>match args with
  | [x0]=>(dI .i64 x0).bind fun op=>some ([],A_algebra_kids (algebra_kids op),O_algebra_kids (algebra_kids op))
  | _=>none
theorem ok_algebra_kids : FnOK 49 F_algebra_kids:=by
  intro args ob rs os h hob
  unfold F_algebra_kids at h
  split at h
  · simp only[Option.bind_eq_some_iff,Option.some.injEq,Prod.mk.injEq] at h
    obtain⟨op,e0,rfl,rfl,rfl⟩:=h
    obtain rfl:=dI_eq e0
    exact⟨fn_contractF (M:=M_algebra_kids) rfl (tbl_ok (l1:=[]) (l2:=[]) (l3:=[]) (l4:=[]) (l5:=[]) trivial trivial trivial trivial trivial) Tryz.func49 (by kernel_rfl) N_algebra_kids 0 [.d] (fun hwf=>(algebra_kids_spec op (wfArg hwf (a:=.d (.v (.s (.int .i64 op)))) (List.mem_of_getElem? (i:=0) rfl)))),hasBody_of Tryz.func49 (by kernel_rfl) (by kernel_rfl)⟩
  · simp at h
def algebra_Width (r:Rel) : Int:=widthR r
theorem aK_eq (op:Int) : algebra_kids op=kidsN op:=by unfold algebra_kids;rfl
theorem aW_eq (r:Rel) : algebra_Width r=widthR r:=by unfold algebra_Width;rfl
def A_algebra_Width (r:Int) : List (A Un):=[.c (.s (.int .i64 r))]
def O_algebra_Width (_r:Int) : List (Ob Un):=[]
def Fm_algebra_Width (m:Nat) : FnC Un:=fun args=>match args with
  | [x0]=>(dS .rel x0).bind fun r=>some ([r.ht<m],A_algebra_Width (algebra_Width r),O_algebra_Width (algebra_Width r))
  | _=>none
def M_algebra_Width (m:Nat) : Mc Un:=mach (tbl [(49,F_algebra_kids),(50,Fm_algebra_Width m)]) (tbl []) (tbl []) (tbl []) (tbl [])
def R_algebra_Width (r:Int) : RF Un:=(A_algebra_Width r,O_algebra_Width r)
def N_algebra_Width : Nat→NS:=fun l=>(look l []).getD ⟨[],[],[],[],[],false⟩
def algebra_Width_c1 (r:Rel):=algebra_Width (Rel.mk (Rel.op (r.kids.getD 0 zeroRel)) (Rel.table (r.kids.getD 0 zeroRel)) (Rel.cols (r.kids.getD 0 zeroRel)) (Rel.kids (r.kids.getD 0 zeroRel)) (Rel.terms (r.kids.getD 0 zeroRel)) (Rel.aggs (r.kids.getD 0 zeroRel)) (Rel.keys (r.kids.getD 0 zeroRel)) (Rel.limit (r.kids.getD 0 zeroRel)) (Rel.skip (r.kids.getD 0 zeroRel)) (Rel.all (r.kids.getD 0 zeroRel)) (Rel.rows (r.kids.getD 0 zeroRel)))
def algebra_Width_fn (m:Nat) (r:Rel) : Option (RF Un):=awf (M_algebra_Width m) N_algebra_Width (bodyOf Tryz.f50) (entry Tryz.f50.ntmps 0 [.d (.agg (enc Ty.rel r))]) (retF (M_algebra_Width m) Tryz.f50.results.toList [.d])
def algebra_Width_t1 (m:Nat) (r:Rel) : Option (RF Un):=obO ((0:Int)≤(0:Int)∧(0:Int)<(↑r.kids.length:Int)) (obO ((Rel.ids (r.kids.getD 0 zeroRel)).ht<m) (obO ((0:Int)≤(1:Int)∧(1:Int)<(↑r.kids.length:Int)) (obO ((Rel.ids (r.kids.getD 1 zeroRel)).ht<m) (some (R_algebra_Width (IntKind.i64.wrap (algebra_Width (Rel.ids (r.kids.getD 0 zeroRel))+algebra_Width (Rel.ids (r.kids.getD 1 zeroRel)))))))))
def algebra_Width_t2 (m:Nat) (r:Rel) : Option (RF Un):=cndO (r.op == 4) (some (R_algebra_Width ((↑r.terms.length:Int)))) (cndO (r.op == 7) (some (R_algebra_Width (IntKind.i64.wrap ((↑r.terms.length:Int)+(↑r.aggs.length:Int))))) (cndO (r.op == 5) (cndO (r.op == 5) (algebra_Width_t1 m r) (obO ((0:Int)≤(0:Int)∧(0:Int)<(↑r.kids.length:Int)) (obO ((Rel.ids (r.kids.getD 0 zeroRel)).ht<m) (some (R_algebra_Width (algebra_Width_c1 r)))))) (cndO (r.op == 6) (algebra_Width_t1 m r) (obO ((0:Int)≤(0:Int)∧(0:Int)<(↑r.kids.length:Int)) (obO ((Rel.ids (r.kids.getD 0 zeroRel)).ht<m) (some (R_algebra_Width (algebra_Width_c1 r))))))))
theorem algebra_Width_in (m:Nat) (r:Rel) : algebra_Width_fn m r=cndO (decide (algebra_kids r.op<0)) (some (R_algebra_Width ((0:Int)))) (cndO (decide ((↑r.kids.length:Int)<algebra_kids r.op)) (some (R_algebra_Width ((0:Int)))) (cndO (r.op == 1) (cndO (r.op == 1) (some (R_algebra_Width ((↑r.cols.length:Int)))) (algebra_Width_t2 m r)) (cndO (r.op == 2) (some (R_algebra_Width ((↑r.cols.length:Int)))) (algebra_Width_t2 m r)))):=by kernel_rfl
theorem algebra_Width_spec (m:Nat) (r:Rel) (_hr:WS .rel r) (hm:r.ht<m+1) : algebra_Width_fn m r=some (R_algebra_Width (algebra_Width r)):=by
  have k0:0<r.kids.length→(r.kids.getD 0 zeroRel).ht<m:=fun h=>by have:=Rel.ht_kid (getD_mem (d:=zeroRel) (l:=r.kids) h);omega
  have k1:1<r.kids.length→(r.kids.getD 1 zeroRel).ht<m:=fun h=>by have:=Rel.ht_kid (getD_mem (d:=zeroRel) (l:=r.kids) h);omega
  rw[algebra_Width_in]
  unfold algebra_Width_t2 algebra_Width_t1
  rw[aW_eq r,widthR_eq r]
  simp only[cndO_eq,beq_iff_eq,decide_eq_true_eq,aK_eq]
  by_cases c1 : kidsN r.op<0
  · rw[if_pos c1,if_pos (.inl c1)]
  by_cases c2 : (r.kids.length:Int)<kidsN r.op
  · rw[if_neg c1,if_pos c2,if_pos (.inr c2)]
  rw[if_neg c1,if_neg c2,if_neg (show ¬ (kidsN r.op<0∨(r.kids.length:Int)<kidsN r.op) by omega)]
  by_cases h1 : r.op=1
  · rw[if_pos h1,if_pos h1,if_pos (.inl h1)]
  by_cases h2 : r.op=2
  · rw[if_neg h1,if_pos h2,if_pos (.inr h2)]
  rw[if_neg h1,if_neg h2,if_neg (show ¬ (r.op=1∨r.op=2) by omega)]
  have hn:=kidsN_one c1 (by omega)
  by_cases h4 : r.op=4
  · rw[if_pos h4,if_pos h4]
  rw[if_neg h4,if_neg h4]
  by_cases h7 : r.op=7
  · rw[if_pos h7,if_pos h7]
  rw[if_neg h7,if_neg h7]
  have hl0:0<r.kids.length:=by omega
  have kk0:=k0 hl0
  have g0:=widthsR_get r.kids 0 hl0
  by_cases h56 : r.op=5∨r.op=6
  · have ht:=kidsN_two h56
    have hl1:1<r.kids.length:=by omega
    have kk1:=k1 hl1
    have g1:=widthsR_get r.kids 1 hl1
    rw[if_pos h56,g0,g1]
    simp only[Rel.ids_eq,aW_eq]
    rw[obO_pos (show (0:Int)≤0∧(0:Int)<(r.kids.length:Int) by omega),obO_pos kk0,obO_pos (show (0:Int)≤1∧(1:Int)<(r.kids.length:Int) by omega),obO_pos kk1]
    rcases h56 with e | e
    · rw[if_pos e,if_pos e]
    · rw[if_neg (by omega),if_pos e]
  · rw[if_neg h56,g0,if_neg (by omega),if_neg (by omega)]
    simp only[algebra_Width_c1,rel_eta,Rel.ids_eq,aW_eq]
    rw[obO_pos (by omega),obO_pos kk0]
theorem okm_algebra_Width (m:Nat) (h_algebra_Width:FnOK 50 (Fm_algebra_Width m)) : FnOK 50 (Fm_algebra_Width (m+1)):=by
  intro args ob rs os h hob
  unfold Fm_algebra_Width at h
  split at h
  · simp only[Option.bind_eq_some_iff,Option.some.injEq,Prod.mk.injEq] at h
    obtain⟨r,e0,rfl,rfl,rfl⟩:=h
    obtain rfl:=dS_eq e0
    exact⟨fn_contractF (M:=(M_algebra_Width m)) rfl (tbl_ok (l1:=[(49,F_algebra_kids),(50,Fm_algebra_Width m)]) (l2:=[]) (l3:=[]) (l4:=[]) (l5:=[]) ⟨ok_algebra_kids,h_algebra_Width,trivial⟩ trivial trivial trivial trivial) Tryz.func50 (by kernel_rfl) N_algebra_Width 0 [.d] (fun hwf=>(algebra_Width_spec m r (wfArg hwf (a:=.d (.agg (enc Ty.rel r))) (List.mem_of_getElem? (i:=0) rfl)) (hob _ (List.mem_of_getElem? (i:=0) rfl)))),hasBody_of Tryz.func50 (by kernel_rfl) (by kernel_rfl)⟩
  · simp at h
theorem okAll_widthG : ∀ m,FnOK 50 (Fm_algebra_Width m)
  | 0=>by
    skip
    intro args ob rs os h hob
    unfold Fm_algebra_Width at h
    split at h
    · simp only[Option.bind_eq_some_iff,Option.some.injEq,Prod.mk.injEq] at h
      obtain⟨_,_,rfl,_,_⟩:=h
      exact absurd (hob _ (List.mem_of_getElem? (i:=0) rfl)) (Nat.not_lt_zero _)
    · simp at h
  | m+1=>by
    have ih:=okAll_widthG m
    exact okm_algebra_Width m ih
def F_algebra_Width : FnC Un:=fun args=>match args with
  | [x0]=>(dS .rel x0).bind fun r=>some ([],A_algebra_Width (algebra_Width r),O_algebra_Width (algebra_Width r))
  | _=>none
theorem ok_algebra_Width : FnOK 50 F_algebra_Width:=by
  intro args ob rs os h hob
  unfold F_algebra_Width at h
  split at h
  · simp only[Option.bind_eq_some_iff,Option.some.injEq,Prod.mk.injEq] at h
    obtain⟨r,e0,rfl,rfl,rfl⟩:=h
    refine ((okAll_widthG (r.ht+1))) _ [r.ht<r.ht+1] _ _ (?_ : Fm_algebra_Width (r.ht+1) _=some _) ?_
    · unfold Fm_algebra_Width
      simp only[e0,Option.bind_some]
    · intro p hp
      simp only[List.mem_cons,List.not_mem_nil,or_false] at hp
      subst hp
      exact Nat.lt_succ_self _
  · simp at h
end
end Go.Proofs.YtolbngdhgcbmgaaGreat.B
namespace Go.Proofs.YtolbngdhgcbmgaaGreat.B
open Go Go.RowKit
set_option maxRecDepth 100000
noncomputable section
attribute [local irreducible] awp ctxK itersK iterK retQ retGQ awf ctxF loopF
def eqfA {α:Type} (q:α→α→Bool) : List α→List α→Bool
  | [],[]=>true
  | x::a,y::b=>q x y && eqfA q a b
  | _,_=>false
theorem eqfA_len {α:Type} {q:α→α→Bool} : ∀ {a b:List α},a.length≠b.length→eqfA q a b=false
  | [],[],h=>absurd rfl h
  | x::a,y::b,h=>by simp only[eqfA];rw[eqfA_len (a:=a) (b:=b) (by simpa using h),Bool.and_false]
  | [],_::_,_=>rfl
  | _::_,[],_=>rfl
theorem eqfA_iff {α:Type} {q:α→α→Bool} (hq:∀ x y,q x y=true↔x=y) : ∀ {a b:List α},eqfA q a b=true↔a=b
  | [],[]=>by simp [eqfA]
  | x::a,y::b=>by simp only[eqfA,Bool.and_eq_true,hq,eqfA_iff hq,List.cons.injEq]
  | [],_::_=>by simp [eqfA]
  | _::_,[]=>by simp [eqfA]
theorem loop_all2 {α β:Type} {L:S Un→Option (EX Un)} {st:Int→S Un} {C:Exit→S Un→Option β} (R:Bool→Option β) {a b:List α} {d:α} {e:Exit} (q:α→α→Bool) (hab:a.length=b.length) (hl:a.length≤9223372036854775807)
    (step:∀ i : Nat,i<a.length→L (st i)=if q (a.getD i d) (b.getD i d)=true then L (st (IntKind.i64.wrap ((i:Int)+1))) else some (.ret,st i))
    (stop:L (st (a.length:Int))=some (e,st (a.length:Int))) (cr:∀ i : Nat,C .ret (st i)=R false) (ce:C e (st (a.length:Int))=R true) : (L (st (0:Int))).bind (thenX C)=R (eqfA q a b):=by
  have key:∀ (k i:Nat),i+k=a.length→(L (st i)).bind (thenX C)=R (eqfA q (a.drop i) (b.drop i)):=by
    intro k
    induction k with
    | zero =>
      intro i hi
      obtain rfl : i=a.length:=by omega
      rw[loop_end stop,ce,List.drop_length,hab,List.drop_length];rfl
    | succ k ih =>
      intro i hi
      have h1:i<a.length:=by omega
      have h2:i<b.length:=by omega
      have ga:a.getD i d=a[i]:=by rw[List.getD_eq_getElem?_getD,List.getElem?_eq_getElem h1];rfl
      have gb:b.getD i d=b[i]:=by rw[List.getD_eq_getElem?_getD,List.getElem?_eq_getElem h2];rfl
      rw[List.drop_eq_getElem_cons h1,List.drop_eq_getElem_cons h2]
      simp only[eqfA]
      have hs:=step i h1
      rw[ga,gb] at hs
      by_cases hq : q a[i] b[i]=true
      · rw[if_pos hq,wrap_next h1 hl] at hs
        rw[hs,ih (i+1) (by omega),hq,Bool.true_and]
      · rw[if_neg hq] at hs
        have hq':q a[i] b[i]=false:=by simpa using hq
        rw[loop_end hs,cr,hq',Bool.false_and]
  exact key a.length 0 (by omega)
def eqfO {α:Type} (d:α) (o:α→α→Prop) (a b:List α) : Prop:=a.length=b.length→∀ i,i<a.length→o (a.getD i d) (b.getD i d)
def M_eqf_term : Mc Un:=mach (tbl []) (tbl []) (tbl []) (tbl []) (tbl [])
def A_eqf_term (r:Bool) : List (A Un):=[.c (.s (.bool r))]
def O_eqf_term (_r:Bool) : List (Ob Un):=[]
def R_eqf_term (r:Bool) : RF Un:=(A_eqf_term r,O_eqf_term r)
def N_eqf_term : Nat→NS:=fun l=>(look l [(4,{ ts:=bl 32 229446,bs:=bl 32 0,nm:=[] })]).getD ⟨[],[],[],[],[],false⟩
def eqf_term_s4 (a:List Term) (b:List Term) (eq_o:Term→Term→Prop) (eq:Term→Term→Bool) (v0:Int) : S Un:=(st 32 32 128 0 [(1,al .term b),(2,AV.one (A.c (C.fv (fvo_S_term_S_term_to_b eq_o eq)))),(6,ab false),(15,al .term a),(16,ai (↑a.length:Int)),(17,ai v0)] [] [])
def eqf_term_B4 : Code:=sub (bodyOf Tryz.f72) [1,1,0,1,2,2]
def eqf_term_L4 : S Un→Option (EX Un):=loopF (N_eqf_term 4) (fun s Q=>awf M_eqf_term N_eqf_term eqf_term_B4 s Q)
def eqf_term_C4 : Exit→S Un→Option (RF Un):=ctxF M_eqf_term N_eqf_term (bodyOf Tryz.f72) [1,1,0,1,2] (retF M_eqf_term Tryz.f72.results.toList [.d])
def eqf_term_fn (a:List Term) (b:List Term) (eq_o:Term→Term→Prop) (eq:Term→Term→Bool) : Option (RF Un):=awf M_eqf_term N_eqf_term (bodyOf Tryz.f72) (entry Tryz.f72.ntmps 0 [.d (.v (.dat (U:=Un) Ty.term a)),.d (.v (.dat (U:=Un) Ty.term b)),.fn (fvo_S_term_S_term_to_b eq_o eq)]) (retF M_eqf_term Tryz.f72.results.toList [.d])
theorem eqf_term_in (a:List Term) (b:List Term) (eq_o:Term→Term→Prop) (eq:Term→Term→Bool) : eqf_term_fn a b eq_o eq=cndO ((↑a.length:Int) != (↑b.length:Int)) (some (R_eqf_term (false))) ((eqf_term_L4 (eqf_term_s4 a b eq_o eq (0:Int))).bind (thenX eqf_term_C4)):=by kernel_rfl
theorem eqf_term_l4 (a:List Term) (b:List Term) (eq_o:Term→Term→Prop) (eq:Term→Term→Bool) (v0:Int) : eqf_term_L4 (eqf_term_s4 a b eq_o eq v0)=cndO (decide (v0<(↑a.length:Int))) (obO (0≤v0∧v0<(↑a.length:Int)) (obO (0≤v0∧v0<(↑b.length:Int)) (obO (eq_o (Term.ids (a.getD v0.toNat zeroTerm)) (Term.ids (b.getD v0.toNat zeroTerm))) (cndO (!eq (Term.ids (a.getD v0.toNat zeroTerm)) (Term.ids (b.getD v0.toNat zeroTerm))) (some (.ret,(eqf_term_s4 a b eq_o eq v0))) (eqf_term_L4 (eqf_term_s4 a b eq_o eq (IntKind.i64.wrap (v0+1)))))))) (some (.exit 0,(eqf_term_s4 a b eq_o eq v0))):=(loopF_eq (N_eqf_term 4) eqf_term_B4 _).trans (by kernel_rfl)
theorem eqf_term_a4_ret (a:List Term) (b:List Term) (eq_o:Term→Term→Prop) (eq:Term→Term→Bool) (v0:Int) : eqf_term_C4 .ret (eqf_term_s4 a b eq_o eq v0)=some (R_eqf_term (false)):=by kernel_rfl
theorem eqf_term_a4_x0 (a:List Term) (b:List Term) (eq_o:Term→Term→Prop) (eq:Term→Term→Bool) (v0:Int) : eqf_term_C4 (.exit 0) (eqf_term_s4 a b eq_o eq v0)=some (R_eqf_term (true)):=by kernel_rfl
def eqfO_term (o:Term→Term→Prop) (a b:List Term) : Prop:=eqfO zeroTerm o a b
def eqf_term (a b:List Term) (_o:Term→Term→Prop) (q:Term→Term→Bool) : Bool:=eqfA q a b
theorem eqf_term_spec (a b:List Term) (o:Term→Term→Prop) (q:Term→Term→Bool) (ha:WL .term a) (_hb:WL .term b) (h:eqfO_term o a b) : eqf_term_fn a b o q=some (R_eqf_term (eqf_term a b o q)):=by
  rw[eqf_term_in,cndO_eq]
  unfold eqf_term
  by_cases hl : a.length=b.length
  · rw[if_neg (by simp [hl])]
    exact loop_all2 (L:=eqf_term_L4) (st:=fun i=>eqf_term_s4 a b o q i) (fun r=>some (R_eqf_term r)) (d:=zeroTerm) q hl ha.len
      (fun i hi=>by
        rw[eqf_term_l4]
        simp only[cndO_eq,Term.ids_eq,Int.toNat_natCast]
        rw[if_pos (by simp;omega),obO_pos (by omega),obO_pos (by omega),obO_pos (h hl i hi)]
        cases q (a.getD i zeroTerm) (b.getD i zeroTerm)<;>simp)
      (by rw[eqf_term_l4];simp [cndO_eq]) (fun i=>eqf_term_a4_ret _ _ _ _ _) (eqf_term_a4_x0 _ _ _ _ _)
  · rw[if_pos (by simp;omega),eqfA_len hl]
def F_eqf_term : FnC Un:=fun args=>match args with
  | [x0,x1,x2]=>(dL .term x0).bind fun a=>(dL .term x1).bind fun b=>(dF x2).bind fun eq=>some ([eq=(fvo_S_term_S_term_to_b (po_S_term_S_term_to_b eq) (pf_S_term_S_term_to_b eq)),eqfO_term (po_S_term_S_term_to_b eq) a b],A_eqf_term (eqf_term a b (po_S_term_S_term_to_b eq) (pf_S_term_S_term_to_b eq)),O_eqf_term (eqf_term a b (po_S_term_S_term_to_b eq) (pf_S_term_S_term_to_b eq)))
  | _=>none
theorem ok_eqf_term : FnOK 72 F_eqf_term:=by
  intro args ob rs os h hob
  unfold F_eqf_term at h
  split at h
  · simp only[Option.bind_eq_some_iff,Option.some.injEq,Prod.mk.injEq] at h
    obtain⟨a,e0,b,e1,eq,e2,rfl,rfl,rfl⟩:=h
    obtain rfl:=dL_eq e0
    obtain rfl:=dL_eq e1
    obtain rfl:=dF_eq e2
    have hfv0:=hob _ (List.mem_of_getElem? (i:=0) rfl)
    generalize pf_S_term_S_term_to_b eq=pp0 at *
    generalize po_S_term_S_term_to_b eq=qq0 at *
    subst hfv0
    exact⟨fn_contractF (M:=M_eqf_term) rfl (tbl_ok (l1:=[]) (l2:=[]) (l3:=[]) (l4:=[]) (l5:=[]) trivial trivial trivial trivial trivial) Tryz.func72 (by kernel_rfl) N_eqf_term 0 [.d] (fun hwf=>(eqf_term_spec a b qq0 pp0 (wfArg hwf (a:=.d (.v (.dat (U:=Un) Ty.term a))) (List.mem_of_getElem? (i:=0) rfl)) (wfArg hwf (a:=.d (.v (.dat (U:=Un) Ty.term b))) (List.mem_of_getElem? (i:=1) rfl)) (hob _ (List.mem_of_getElem? (i:=1) rfl)))),hasBody_of Tryz.func72 (by kernel_rfl) (by kernel_rfl)⟩
  · simp at h
end
end Go.Proofs.YtolbngdhgcbmgaaGreat.B
namespace Go.Proofs.YtolbngdhgcbmgaaGreat.B
open Go Go.RowKit
set_option maxRecDepth 100000
noncomputable section
attribute [local irreducible] awp ctxK itersK iterK retQ retGQ awf ctxF loopF
def M_eqf_rel : Mc Un:=mach (tbl []) (tbl []) (tbl []) (tbl []) (tbl [])
def A_eqf_rel (r:Bool) : List (A Un):=[.c (.s (.bool r))]
def O_eqf_rel (_r:Bool) : List (Ob Un):=[]
def R_eqf_rel (r:Bool) : RF Un:=(A_eqf_rel r,O_eqf_rel r)
def N_eqf_rel : Nat→NS:=fun l=>(look l [(4,{ ts:=bl 32 229446,bs:=bl 32 0,nm:=[] })]).getD ⟨[],[],[],[],[],false⟩
def eqf_rel_s4 (a:List Rel) (b:List Rel) (eq_o:Rel→Rel→Prop) (eq:Rel→Rel→Bool) (v0:Int) : S Un:=(st 32 32 128 0 [(1,al .rel b),(2,AV.one (A.c (C.fv (fvo_S_rel_S_rel_to_b eq_o eq)))),(6,ab false),(15,al .rel a),(16,ai (↑a.length:Int)),(17,ai v0)] [] [])
def eqf_rel_B4 : Code:=sub (bodyOf Tryz.f76) [1,1,0,1,2,2]
def eqf_rel_L4 : S Un→Option (EX Un):=loopF (N_eqf_rel 4) (fun s Q=>awf M_eqf_rel N_eqf_rel eqf_rel_B4 s Q)
def eqf_rel_C4 : Exit→S Un→Option (RF Un):=ctxF M_eqf_rel N_eqf_rel (bodyOf Tryz.f76) [1,1,0,1,2] (retF M_eqf_rel Tryz.f76.results.toList [.d])
def eqf_rel_fn (a:List Rel) (b:List Rel) (eq_o:Rel→Rel→Prop) (eq:Rel→Rel→Bool) : Option (RF Un):=awf M_eqf_rel N_eqf_rel (bodyOf Tryz.f76) (entry Tryz.f76.ntmps 0 [.d (.v (.dat (U:=Un) Ty.rel a)),.d (.v (.dat (U:=Un) Ty.rel b)),.fn (fvo_S_rel_S_rel_to_b eq_o eq)]) (retF M_eqf_rel Tryz.f76.results.toList [.d])
theorem eqf_rel_in (a:List Rel) (b:List Rel) (eq_o:Rel→Rel→Prop) (eq:Rel→Rel→Bool) : eqf_rel_fn a b eq_o eq=cndO ((↑a.length:Int) != (↑b.length:Int)) (some (R_eqf_rel (false))) ((eqf_rel_L4 (eqf_rel_s4 a b eq_o eq (0:Int))).bind (thenX eqf_rel_C4)):=by kernel_rfl
theorem eqf_rel_l4 (a:List Rel) (b:List Rel) (eq_o:Rel→Rel→Prop) (eq:Rel→Rel→Bool) (v0:Int) : eqf_rel_L4 (eqf_rel_s4 a b eq_o eq v0)=cndO (decide (v0<(↑a.length:Int))) (obO (0≤v0∧v0<(↑a.length:Int)) (obO (0≤v0∧v0<(↑b.length:Int)) (obO (eq_o (Rel.ids (a.getD v0.toNat zeroRel)) (Rel.ids (b.getD v0.toNat zeroRel))) (cndO (!eq (Rel.ids (a.getD v0.toNat zeroRel)) (Rel.ids (b.getD v0.toNat zeroRel))) (some (.ret,(eqf_rel_s4 a b eq_o eq v0))) (eqf_rel_L4 (eqf_rel_s4 a b eq_o eq (IntKind.i64.wrap (v0+1)))))))) (some (.exit 0,(eqf_rel_s4 a b eq_o eq v0))):=(loopF_eq (N_eqf_rel 4) eqf_rel_B4 _).trans (by kernel_rfl)
theorem eqf_rel_a4_ret (a:List Rel) (b:List Rel) (eq_o:Rel→Rel→Prop) (eq:Rel→Rel→Bool) (v0:Int) : eqf_rel_C4 .ret (eqf_rel_s4 a b eq_o eq v0)=some (R_eqf_rel (false)):=by kernel_rfl
theorem eqf_rel_a4_x0 (a:List Rel) (b:List Rel) (eq_o:Rel→Rel→Prop) (eq:Rel→Rel→Bool) (v0:Int) : eqf_rel_C4 (.exit 0) (eqf_rel_s4 a b eq_o eq v0)=some (R_eqf_rel (true)):=by kernel_rfl
def eqfO_rel (o:Rel→Rel→Prop) (a b:List Rel) : Prop:=eqfO zeroRel o a b
def eqf_rel (a b:List Rel) (_o:Rel→Rel→Prop) (q:Rel→Rel→Bool) : Bool:=eqfA q a b
theorem eqf_rel_spec (a b:List Rel) (o:Rel→Rel→Prop) (q:Rel→Rel→Bool) (ha:WL .rel a) (_hb:WL .rel b) (h:eqfO_rel o a b) : eqf_rel_fn a b o q=some (R_eqf_rel (eqf_rel a b o q)):=by
  rw[eqf_rel_in,cndO_eq]
  unfold eqf_rel
  by_cases hl : a.length=b.length
  · rw[if_neg (by simp [hl])]
    exact loop_all2 (L:=eqf_rel_L4) (st:=fun i=>eqf_rel_s4 a b o q i) (fun r=>some (R_eqf_rel r)) (d:=zeroRel) q hl ha.len
      (fun i hi=>by
        rw[eqf_rel_l4]
        simp only[cndO_eq,Rel.ids_eq,Int.toNat_natCast]
        rw[if_pos (by simp;omega),obO_pos (by omega),obO_pos (by omega),obO_pos (h hl i hi)]
        cases q (a.getD i zeroRel) (b.getD i zeroRel)<;>simp)
      (by rw[eqf_rel_l4];simp [cndO_eq]) (fun i=>eqf_rel_a4_ret _ _ _ _ _) (eqf_rel_a4_x0 _ _ _ _ _)
  · rw[if_pos (by simp;omega),eqfA_len hl]
def F_eqf_rel : FnC Un:=fun args=>match args with
  | [x0,x1,x2]=>(dL .rel x0).bind fun a=>(dL .rel x1).bind fun b=>(dF x2).bind fun eq=>some ([eq=(fvo_S_rel_S_rel_to_b (po_S_rel_S_rel_to_b eq) (pf_S_rel_S_rel_to_b eq)),eqfO_rel (po_S_rel_S_rel_to_b eq) a b],A_eqf_rel (eqf_rel a b (po_S_rel_S_rel_to_b eq) (pf_S_rel_S_rel_to_b eq)),O_eqf_rel (eqf_rel a b (po_S_rel_S_rel_to_b eq) (pf_S_rel_S_rel_to_b eq)))
  | _=>none
theorem ok_eqf_rel : FnOK 76 F_eqf_rel:=by
  intro args ob rs os h hob
  unfold F_eqf_rel at h
  split at h
  · simp only[Option.bind_eq_some_iff,Option.some.injEq,Prod.mk.injEq] at h
    obtain⟨a,e0,b,e1,eq,e2,rfl,rfl,rfl⟩:=h
    obtain rfl:=dL_eq e0
    obtain rfl:=dL_eq e1
    obtain rfl:=dF_eq e2
    have hfv0:=hob _ (List.mem_of_getElem? (i:=0) rfl)
    generalize pf_S_rel_S_rel_to_b eq=pp0 at *
    generalize po_S_rel_S_rel_to_b eq=qq0 at *
    subst hfv0
    exact⟨fn_contractF (M:=M_eqf_rel) rfl (tbl_ok (l1:=[]) (l2:=[]) (l3:=[]) (l4:=[]) (l5:=[]) trivial trivial trivial trivial trivial) Tryz.func76 (by kernel_rfl) N_eqf_rel 0 [.d] (fun hwf=>(eqf_rel_spec a b qq0 pp0 (wfArg hwf (a:=.d (.v (.dat (U:=Un) Ty.rel a))) (List.mem_of_getElem? (i:=0) rfl)) (wfArg hwf (a:=.d (.v (.dat (U:=Un) Ty.rel b))) (List.mem_of_getElem? (i:=1) rfl)) (hob _ (List.mem_of_getElem? (i:=1) rfl)))),hasBody_of Tryz.func76 (by kernel_rfl) (by kernel_rfl)⟩
  · simp at h
def M_eqf_agg : Mc Un:=mach (tbl []) (tbl []) (tbl []) (tbl []) (tbl [])
def A_eqf_agg (r:Bool) : List (A Un):=[.c (.s (.bool r))]
def O_eqf_agg (_r:Bool) : List (Ob Un):=[]
def R_eqf_agg (r:Bool) : RF Un:=(A_eqf_agg r,O_eqf_agg r)
def N_eqf_agg : Nat→NS:=fun l=>(look l [(4,{ ts:=bl 32 229446,bs:=bl 32 0,nm:=[] })]).getD ⟨[],[],[],[],[],false⟩
def eqf_agg_s4 (a:List Agg) (b:List Agg) (eq_o:Agg→Agg→Prop) (eq:Agg→Agg→Bool) (v0:Int) : S Un:=(st 32 32 128 0 [(1,al .agg b),(2,AV.one (A.c (C.fv (fvo_S_agg_S_agg_to_b eq_o eq)))),(6,ab false),(15,al .agg a),(16,ai (↑a.length:Int)),(17,ai v0)] [] [])
def eqf_agg_B4 : Code:=sub (bodyOf Tryz.f74) [1,1,0,1,2,2]
def eqf_agg_L4 : S Un→Option (EX Un):=loopF (N_eqf_agg 4) (fun s Q=>awf M_eqf_agg N_eqf_agg eqf_agg_B4 s Q)
def eqf_agg_C4 : Exit→S Un→Option (RF Un):=ctxF M_eqf_agg N_eqf_agg (bodyOf Tryz.f74) [1,1,0,1,2] (retF M_eqf_agg Tryz.f74.results.toList [.d])
def eqf_agg_fn (a:List Agg) (b:List Agg) (eq_o:Agg→Agg→Prop) (eq:Agg→Agg→Bool) : Option (RF Un):=awf M_eqf_agg N_eqf_agg (bodyOf Tryz.f74) (entry Tryz.f74.ntmps 0 [.d (.v (.dat (U:=Un) Ty.agg a)),.d (.v (.dat (U:=Un) Ty.agg b)),.fn (fvo_S_agg_S_agg_to_b eq_o eq)]) (retF M_eqf_agg Tryz.f74.results.toList [.d])
theorem eqf_agg_in (a:List Agg) (b:List Agg) (eq_o:Agg→Agg→Prop) (eq:Agg→Agg→Bool) : eqf_agg_fn a b eq_o eq=cndO ((↑a.length:Int) != (↑b.length:Int)) (some (R_eqf_agg (false))) ((eqf_agg_L4 (eqf_agg_s4 a b eq_o eq (0:Int))).bind (thenX eqf_agg_C4)):=by kernel_rfl
theorem eqf_agg_l4 (a:List Agg) (b:List Agg) (eq_o:Agg→Agg→Prop) (eq:Agg→Agg→Bool) (v0:Int) : eqf_agg_L4 (eqf_agg_s4 a b eq_o eq v0)=cndO (decide (v0<(↑a.length:Int))) (obO (0≤v0∧v0<(↑a.length:Int)) (obO (0≤v0∧v0<(↑b.length:Int)) (obO (eq_o (Agg.ids (a.getD v0.toNat zeroAgg)) (Agg.ids (b.getD v0.toNat zeroAgg))) (cndO (!eq (Agg.ids (a.getD v0.toNat zeroAgg)) (Agg.ids (b.getD v0.toNat zeroAgg))) (some (.ret,(eqf_agg_s4 a b eq_o eq v0))) (eqf_agg_L4 (eqf_agg_s4 a b eq_o eq (IntKind.i64.wrap (v0+1)))))))) (some (.exit 0,(eqf_agg_s4 a b eq_o eq v0))):=(loopF_eq (N_eqf_agg 4) eqf_agg_B4 _).trans (by kernel_rfl)
theorem eqf_agg_a4_ret (a:List Agg) (b:List Agg) (eq_o:Agg→Agg→Prop) (eq:Agg→Agg→Bool) (v0:Int) : eqf_agg_C4 .ret (eqf_agg_s4 a b eq_o eq v0)=some (R_eqf_agg (false)):=by kernel_rfl
theorem eqf_agg_a4_x0 (a:List Agg) (b:List Agg) (eq_o:Agg→Agg→Prop) (eq:Agg→Agg→Bool) (v0:Int) : eqf_agg_C4 (.exit 0) (eqf_agg_s4 a b eq_o eq v0)=some (R_eqf_agg (true)):=by kernel_rfl
def eqfO_agg (o:Agg→Agg→Prop) (a b:List Agg) : Prop:=eqfO zeroAgg o a b
def eqf_agg (a b:List Agg) (_o:Agg→Agg→Prop) (q:Agg→Agg→Bool) : Bool:=eqfA q a b
theorem eqf_agg_spec (a b:List Agg) (o:Agg→Agg→Prop) (q:Agg→Agg→Bool) (ha:WL .agg a) (_hb:WL .agg b) (h:eqfO_agg o a b) : eqf_agg_fn a b o q=some (R_eqf_agg (eqf_agg a b o q)):=by
  rw[eqf_agg_in,cndO_eq]
  unfold eqf_agg
  by_cases hl : a.length=b.length
  · rw[if_neg (by simp [hl])]
    exact loop_all2 (L:=eqf_agg_L4) (st:=fun i=>eqf_agg_s4 a b o q i) (fun r=>some (R_eqf_agg r)) (d:=zeroAgg) q hl ha.len
      (fun i hi=>by
        rw[eqf_agg_l4]
        simp only[cndO_eq,Agg.ids_eq,Int.toNat_natCast]
        rw[if_pos (by simp;omega),obO_pos (by omega),obO_pos (by omega),obO_pos (h hl i hi)]
        cases q (a.getD i zeroAgg) (b.getD i zeroAgg)<;>simp)
      (by rw[eqf_agg_l4];simp [cndO_eq]) (fun i=>eqf_agg_a4_ret _ _ _ _ _) (eqf_agg_a4_x0 _ _ _ _ _)
  · rw[if_pos (by simp;omega),eqfA_len hl]
def F_eqf_agg : FnC Un:=fun args=>match args with
  | [x0,x1,x2]=>(dL .agg x0).bind fun a=>(dL .agg x1).bind fun b=>(dF x2).bind fun eq=>some ([eq=(fvo_S_agg_S_agg_to_b (po_S_agg_S_agg_to_b eq) (pf_S_agg_S_agg_to_b eq)),eqfO_agg (po_S_agg_S_agg_to_b eq) a b],A_eqf_agg (eqf_agg a b (po_S_agg_S_agg_to_b eq) (pf_S_agg_S_agg_to_b eq)),O_eqf_agg (eqf_agg a b (po_S_agg_S_agg_to_b eq) (pf_S_agg_S_agg_to_b eq)))
  | _=>none
theorem ok_eqf_agg : FnOK 74 F_eqf_agg:=by
  intro args ob rs os h hob
  unfold F_eqf_agg at h
  split at h
  · simp only[Option.bind_eq_some_iff,Option.some.injEq,Prod.mk.injEq] at h
    obtain⟨a,e0,b,e1,eq,e2,rfl,rfl,rfl⟩:=h
    obtain rfl:=dL_eq e0
    obtain rfl:=dL_eq e1
    obtain rfl:=dF_eq e2
    have hfv0:=hob _ (List.mem_of_getElem? (i:=0) rfl)
    generalize pf_S_agg_S_agg_to_b eq=pp0 at *
    generalize po_S_agg_S_agg_to_b eq=qq0 at *
    subst hfv0
    exact⟨fn_contractF (M:=M_eqf_agg) rfl (tbl_ok (l1:=[]) (l2:=[]) (l3:=[]) (l4:=[]) (l5:=[]) trivial trivial trivial trivial trivial) Tryz.func74 (by kernel_rfl) N_eqf_agg 0 [.d] (fun hwf=>(eqf_agg_spec a b qq0 pp0 (wfArg hwf (a:=.d (.v (.dat (U:=Un) Ty.agg a))) (List.mem_of_getElem? (i:=0) rfl)) (wfArg hwf (a:=.d (.v (.dat (U:=Un) Ty.agg b))) (List.mem_of_getElem? (i:=1) rfl)) (hob _ (List.mem_of_getElem? (i:=1) rfl)))),hasBody_of Tryz.func74 (by kernel_rfl) (by kernel_rfl)⟩
  · simp at h
end
end Go.Proofs.YtolbngdhgcbmgaaGreat.B
namespace Go.Proofs.YtolbngdhgcbmgaaGreat.B
open Go Go.RowKit
set_option maxRecDepth 100000
noncomputable section
attribute [local irreducible] awp ctxK itersK iterK retQ retGQ awf ctxF loopF
noncomputable def deq {α:Type} (a b:α) : Bool:=@decide (a=b) (Classical.propDecidable _)
theorem deq_iff {α:Type} {a b:α} : deq a b=true↔a=b:=by unfold deq;exact @decide_eq_true_iff _ (Classical.propDecidable _)
theorem deq_of {α:Type} {a b:α} {x:Bool} (h:x=true↔a=b) : x=deq a b:=by
  rw[Bool.eq_iff_iff,h,deq_iff]
theorem name_deq (a b:ByteArray) : (a.toList == b.toList)=true↔a=b:=by
  rw[beq_iff_eq]
  exact⟨fun h=>by
    have e:∀ x : ByteArray,x.toList=x.data.toList:=fun x=>ByteArray.toList_eq x
    rw[e,e] at h
    obtain⟨⟨a⟩⟩:=a
    obtain⟨⟨b⟩⟩:=b
    simp at h
    subst h;rfl,fun h=>by rw[h]⟩
theorem eqBy (x y:By) : andB [EK.bool] (x.at_ == y.at_) (andB [] (x.down == y.down) true)=deq x y:=by
  refine deq_of ?_
  obtain⟨a,b⟩:=x
  obtain⟨a',b'⟩:=y
  show ((a == a') && (b == b'))=true↔_
  rw[Bool.and_eq_true,beq_iff_eq,beq_iff_eq]
  exact⟨fun h=>by rw[h.1,h.2],fun h=>by cases h;exact⟨rfl,rfl⟩⟩
theorem eqCol (x y:Col) : andB [EK.str,EK.int IntKind.i64] (x.table.toList == y.table.toList) (andB [EK.int IntKind.i64] (x.name.toList == y.name.toList) (andB [] (x.type == y.type) true))=deq x y:=by
  refine deq_of ?_
  obtain⟨a,b,c⟩:=x
  obtain⟨a',b',c'⟩:=y
  show ((a.toList == a'.toList) && ((b.toList == b'.toList) && (c == c')))=true↔_
  rw[Bool.and_eq_true,Bool.and_eq_true,name_deq,name_deq,beq_iff_eq]
  exact⟨fun h=>by rw[h.1,h.2.1,h.2.2],fun h=>by cases h;exact⟨rfl,rfl,rfl⟩⟩
theorem eqVal (x y:Val) : andB [EK.int IntKind.i64,EK.str] (x.kind == y.kind) (andB [EK.str] (x.n == y.n) (andB [] (x.s.toList == y.s.toList) true))=deq x y:=by
  refine deq_of ?_
  obtain⟨a,b,c⟩:=x
  obtain⟨a',b',c'⟩:=y
  show ((a == a') && ((b == b') && (c.toList == c'.toList)))=true↔_
  rw[Bool.and_eq_true,Bool.and_eq_true,name_deq,beq_iff_eq,beq_iff_eq]
  exact⟨fun h=>by rw[h.1,h.2.1,h.2.2],fun h=>by cases h;exact⟨rfl,rfl,rfl⟩⟩
theorem eqfA_deq {α:Type} {a b:List α} : eqfA deq a b=deq a b:=deq_of (eqfA_iff fun _ _=>deq_iff)
def M_eql_by : Mc Un:=mach (tbl []) (tbl []) (tbl []) (tbl []) (tbl [])
def A_eql_by (r:Bool) : List (A Un):=[.c (.s (.bool r))]
def O_eql_by (_r:Bool) : List (Ob Un):=[]
def R_eql_by (r:Bool) : RF Un:=(A_eql_by r,O_eql_by r)
def N_eql_by : Nat→NS:=fun l=>(look l [(4,{ ts:=bl 26 12307,bs:=bl 26 0,nm:=[] })]).getD ⟨[],[],[],[],[],false⟩
def eql_by_s4 (a:List By) (b:List By) (v0:Int) : S Un:=(st 26 26 104 0 [(0,al .by_ a),(1,al .by_ b),(4,ab false),(12,ai (↑a.length:Int)),(13,ai v0)] [] [])
def eql_by_B4 : Code:=sub (bodyOf Tryz.f69) [1,1,0,1,2,2]
def eql_by_L4 : S Un→Option (EX Un):=loopF (N_eql_by 4) (fun s Q=>awf M_eql_by N_eql_by eql_by_B4 s Q)
def eql_by_C4 : Exit→S Un→Option (RF Un):=ctxF M_eql_by N_eql_by (bodyOf Tryz.f69) [1,1,0,1,2] (retF M_eql_by Tryz.f69.results.toList [.d])
def eql_by_fn (a:List By) (b:List By) : Option (RF Un):=awf M_eql_by N_eql_by (bodyOf Tryz.f69) (entry Tryz.f69.ntmps 0 [.d (.v (.dat (U:=Un) Ty.by_ a)),.d (.v (.dat (U:=Un) Ty.by_ b))]) (retF M_eql_by Tryz.f69.results.toList [.d])
theorem eql_by_in (a:List By) (b:List By) : eql_by_fn a b=cndO ((↑a.length:Int) != (↑b.length:Int)) (some (R_eql_by (false))) ((eql_by_L4 (eql_by_s4 a b (0:Int))).bind (thenX eql_by_C4)):=by kernel_rfl
theorem eql_by_l4 (a:List By) (b:List By) (v0:Int) : eql_by_L4 (eql_by_s4 a b v0)=cndO (decide (v0<(↑a.length:Int))) (obO (0≤v0∧v0<(↑a.length:Int)) (obO (0≤v0∧v0<(↑b.length:Int)) (cndO (!andB [EK.bool] ((a.getD v0.toNat zeroBy).at_ == (b.getD v0.toNat zeroBy).at_) (andB [] ((a.getD v0.toNat zeroBy).down == (b.getD v0.toNat zeroBy).down) true)) (some (.ret,(eql_by_s4 a b v0))) (eql_by_L4 (eql_by_s4 a b (IntKind.i64.wrap (v0+1))))))) (some (.exit 0,(eql_by_s4 a b v0))):=(loopF_eq (N_eql_by 4) eql_by_B4 _).trans (by kernel_rfl)
theorem eql_by_a4_ret (a:List By) (b:List By) (v0:Int) : eql_by_C4 .ret (eql_by_s4 a b v0)=some (R_eql_by (false)):=by kernel_rfl
theorem eql_by_a4_x0 (a:List By) (b:List By) (v0:Int) : eql_by_C4 (.exit 0) (eql_by_s4 a b v0)=some (R_eql_by (true)):=by kernel_rfl
noncomputable def eql_by (a b:List By) : Bool:=deq a b
theorem eql_by_spec (a b:List By) (ha:WL .by_ a) (_hb:WL .by_ b) : eql_by_fn a b=some (R_eql_by (eql_by a b)):=by
  rw[eql_by_in,cndO_eq]
  unfold eql_by
  rw[← eqfA_deq]
  by_cases hl : a.length=b.length
  · rw[if_neg (by simp [hl])]
    exact loop_all2 (L:=eql_by_L4) (st:=fun i=>eql_by_s4 a b i) (fun r=>some (R_eql_by r)) (d:=zeroBy) deq hl ha.len
      (fun i hi=>by
        rw[eql_by_l4,eqBy]
        simp only[cndO_eq,Int.toNat_natCast]
        rw[if_pos (by simp;omega),obO_pos (by omega),obO_pos (by omega)]
        cases deq (a.getD i zeroBy) (b.getD i zeroBy)<;>simp)
      (by rw[eql_by_l4];simp [cndO_eq]) (fun i=>eql_by_a4_ret _ _ _) (eql_by_a4_x0 _ _ _)
  · rw[if_pos (by simp;omega),eqfA_len hl]
def F_eql_by : FnC Un:=fun args=>match args with
  | [x0,x1]=>(dL .by_ x0).bind fun a=>(dL .by_ x1).bind fun b=>some ([],A_eql_by (eql_by a b),O_eql_by (eql_by a b))
  | _=>none
theorem ok_eql_by : FnOK 69 F_eql_by:=by
  intro args ob rs os h hob
  unfold F_eql_by at h
  split at h
  · simp only[Option.bind_eq_some_iff,Option.some.injEq,Prod.mk.injEq] at h
    obtain⟨a,e0,b,e1,rfl,rfl,rfl⟩:=h
    obtain rfl:=dL_eq e0
    obtain rfl:=dL_eq e1
    exact⟨fn_contractF (M:=M_eql_by) rfl (tbl_ok (l1:=[]) (l2:=[]) (l3:=[]) (l4:=[]) (l5:=[]) trivial trivial trivial trivial trivial) Tryz.func69 (by kernel_rfl) N_eql_by 0 [.d] (fun hwf=>(eql_by_spec a b (wfArg hwf (a:=.d (.v (.dat (U:=Un) Ty.by_ a))) (List.mem_of_getElem? (i:=0) rfl)) (wfArg hwf (a:=.d (.v (.dat (U:=Un) Ty.by_ b))) (List.mem_of_getElem? (i:=1) rfl)))),hasBody_of Tryz.func69 (by kernel_rfl) (by kernel_rfl)⟩
  · simp at h
def M_eql_col : Mc Un:=mach (tbl []) (tbl []) (tbl []) (tbl []) (tbl [])
def A_eql_col (r:Bool) : List (A Un):=[.c (.s (.bool r))]
def O_eql_col (_r:Bool) : List (Ob Un):=[]
def R_eql_col (r:Bool) : RF Un:=(A_eql_col r,O_eql_col r)
def N_eql_col : Nat→NS:=fun l=>(look l [(4,{ ts:=bl 26 12307,bs:=bl 26 0,nm:=[] })]).getD ⟨[],[],[],[],[],false⟩
def eql_col_s4 (a:List Col) (b:List Col) (v0:Int) : S Un:=(st 26 26 104 0 [(0,al .col a),(1,al .col b),(4,ab false),(12,ai (↑a.length:Int)),(13,ai v0)] [] [])
def eql_col_B4 : Code:=sub (bodyOf Tryz.f68) [1,1,0,1,2,2]
def eql_col_L4 : S Un→Option (EX Un):=loopF (N_eql_col 4) (fun s Q=>awf M_eql_col N_eql_col eql_col_B4 s Q)
def eql_col_C4 : Exit→S Un→Option (RF Un):=ctxF M_eql_col N_eql_col (bodyOf Tryz.f68) [1,1,0,1,2] (retF M_eql_col Tryz.f68.results.toList [.d])
def eql_col_fn (a:List Col) (b:List Col) : Option (RF Un):=awf M_eql_col N_eql_col (bodyOf Tryz.f68) (entry Tryz.f68.ntmps 0 [.d (.v (.dat (U:=Un) Ty.col a)),.d (.v (.dat (U:=Un) Ty.col b))]) (retF M_eql_col Tryz.f68.results.toList [.d])
theorem eql_col_in (a:List Col) (b:List Col) : eql_col_fn a b=cndO ((↑a.length:Int) != (↑b.length:Int)) (some (R_eql_col (false))) ((eql_col_L4 (eql_col_s4 a b (0:Int))).bind (thenX eql_col_C4)):=by kernel_rfl
theorem eql_col_l4 (a:List Col) (b:List Col) (v0:Int) : eql_col_L4 (eql_col_s4 a b v0)=cndO (decide (v0<(↑a.length:Int))) (obO (0≤v0∧v0<(↑a.length:Int)) (obO (0≤v0∧v0<(↑b.length:Int)) (cndO (!andB [EK.str,EK.int IntKind.i64] ((a.getD v0.toNat zeroCol).table.toList == (b.getD v0.toNat zeroCol).table.toList) (andB [EK.int IntKind.i64] ((a.getD v0.toNat zeroCol).name.toList == (b.getD v0.toNat zeroCol).name.toList) (andB [] ((a.getD v0.toNat zeroCol).type == (b.getD v0.toNat zeroCol).type) true))) (some (.ret,(eql_col_s4 a b v0))) (eql_col_L4 (eql_col_s4 a b (IntKind.i64.wrap (v0+1))))))) (some (.exit 0,(eql_col_s4 a b v0))):=(loopF_eq (N_eql_col 4) eql_col_B4 _).trans (by kernel_rfl)
theorem eql_col_a4_ret (a:List Col) (b:List Col) (v0:Int) : eql_col_C4 .ret (eql_col_s4 a b v0)=some (R_eql_col (false)):=by kernel_rfl
theorem eql_col_a4_x0 (a:List Col) (b:List Col) (v0:Int) : eql_col_C4 (.exit 0) (eql_col_s4 a b v0)=some (R_eql_col (true)):=by kernel_rfl
noncomputable def eql_col (a b:List Col) : Bool:=deq a b
theorem eql_col_spec (a b:List Col) (ha:WL .col a) (_hb:WL .col b) : eql_col_fn a b=some (R_eql_col (eql_col a b)):=by
  rw[eql_col_in,cndO_eq]
  unfold eql_col
  rw[← eqfA_deq]
  by_cases hl : a.length=b.length
  · rw[if_neg (by simp [hl])]
    exact loop_all2 (L:=eql_col_L4) (st:=fun i=>eql_col_s4 a b i) (fun r=>some (R_eql_col r)) (d:=zeroCol) deq hl ha.len
      (fun i hi=>by
        rw[eql_col_l4,eqCol]
        simp only[cndO_eq,Int.toNat_natCast]
        rw[if_pos (by simp;omega),obO_pos (by omega),obO_pos (by omega)]
        cases deq (a.getD i zeroCol) (b.getD i zeroCol)<;>simp)
      (by rw[eql_col_l4];simp [cndO_eq]) (fun i=>eql_col_a4_ret _ _ _) (eql_col_a4_x0 _ _ _)
  · rw[if_pos (by simp;omega),eqfA_len hl]
def F_eql_col : FnC Un:=fun args=>match args with
  | [x0,x1]=>(dL .col x0).bind fun a=>(dL .col x1).bind fun b=>some ([],A_eql_col (eql_col a b),O_eql_col (eql_col a b))
  | _=>none
theorem ok_eql_col : FnOK 68 F_eql_col:=by
  intro args ob rs os h hob
  unfold F_eql_col at h
  split at h
  · simp only[Option.bind_eq_some_iff,Option.some.injEq,Prod.mk.injEq] at h
    obtain⟨a,e0,b,e1,rfl,rfl,rfl⟩:=h
    obtain rfl:=dL_eq e0
    obtain rfl:=dL_eq e1
    exact⟨fn_contractF (M:=M_eql_col) rfl (tbl_ok (l1:=[]) (l2:=[]) (l3:=[]) (l4:=[]) (l5:=[]) trivial trivial trivial trivial trivial) Tryz.func68 (by kernel_rfl) N_eql_col 0 [.d] (fun hwf=>(eql_col_spec a b (wfArg hwf (a:=.d (.v (.dat (U:=Un) Ty.col a))) (List.mem_of_getElem? (i:=0) rfl)) (wfArg hwf (a:=.d (.v (.dat (U:=Un) Ty.col b))) (List.mem_of_getElem? (i:=1) rfl)))),hasBody_of Tryz.func68 (by kernel_rfl) (by kernel_rfl)⟩
  · simp at h
def M_eql_val : Mc Un:=mach (tbl []) (tbl []) (tbl []) (tbl []) (tbl [])
def A_eql_val (r:Bool) : List (A Un):=[.c (.s (.bool r))]
def O_eql_val (_r:Bool) : List (Ob Un):=[]
def R_eql_val (r:Bool) : RF Un:=(A_eql_val r,O_eql_val r)
def N_eql_val : Nat→NS:=fun l=>(look l [(4,{ ts:=bl 26 12307,bs:=bl 26 0,nm:=[] })]).getD ⟨[],[],[],[],[],false⟩
def eql_val_s4 (a:List Val) (b:List Val) (v0:Int) : S Un:=(st 26 26 104 0 [(0,al .val a),(1,al .val b),(4,ab false),(12,ai (↑a.length:Int)),(13,ai v0)] [] [])
def eql_val_B4 : Code:=sub (bodyOf Tryz.f118) [1,1,0,1,2,2]
def eql_val_L4 : S Un→Option (EX Un):=loopF (N_eql_val 4) (fun s Q=>awf M_eql_val N_eql_val eql_val_B4 s Q)
def eql_val_C4 : Exit→S Un→Option (RF Un):=ctxF M_eql_val N_eql_val (bodyOf Tryz.f118) [1,1,0,1,2] (retF M_eql_val Tryz.f118.results.toList [.d])
def eql_val_fn (a:List Val) (b:List Val) : Option (RF Un):=awf M_eql_val N_eql_val (bodyOf Tryz.f118) (entry Tryz.f118.ntmps 0 [.d (.v (.dat (U:=Un) Ty.val a)),.d (.v (.dat (U:=Un) Ty.val b))]) (retF M_eql_val Tryz.f118.results.toList [.d])
theorem eql_val_in (a:List Val) (b:List Val) : eql_val_fn a b=cndO ((↑a.length:Int) != (↑b.length:Int)) (some (R_eql_val (false))) ((eql_val_L4 (eql_val_s4 a b (0:Int))).bind (thenX eql_val_C4)):=by kernel_rfl
theorem eql_val_l4 (a:List Val) (b:List Val) (v0:Int) : eql_val_L4 (eql_val_s4 a b v0)=cndO (decide (v0<(↑a.length:Int))) (obO (0≤v0∧v0<(↑a.length:Int)) (obO (0≤v0∧v0<(↑b.length:Int)) (cndO (!andB [EK.int IntKind.i64,EK.str] ((a.getD v0.toNat zeroVal).kind == (b.getD v0.toNat zeroVal).kind) (andB [EK.str] ((a.getD v0.toNat zeroVal).n == (b.getD v0.toNat zeroVal).n) (andB [] ((a.getD v0.toNat zeroVal).s.toList == (b.getD v0.toNat zeroVal).s.toList) true))) (some (.ret,(eql_val_s4 a b v0))) (eql_val_L4 (eql_val_s4 a b (IntKind.i64.wrap (v0+1))))))) (some (.exit 0,(eql_val_s4 a b v0))):=(loopF_eq (N_eql_val 4) eql_val_B4 _).trans (by kernel_rfl)
theorem eql_val_a4_ret (a:List Val) (b:List Val) (v0:Int) : eql_val_C4 .ret (eql_val_s4 a b v0)=some (R_eql_val (false)):=by kernel_rfl
theorem eql_val_a4_x0 (a:List Val) (b:List Val) (v0:Int) : eql_val_C4 (.exit 0) (eql_val_s4 a b v0)=some (R_eql_val (true)):=by kernel_rfl
noncomputable def eql_val (a b:List Val) : Bool:=deq a b
theorem eql_val_spec (a b:List Val) (ha:WL .val a) (_hb:WL .val b) : eql_val_fn a b=some (R_eql_val (eql_val a b)):=by
  rw[eql_val_in,cndO_eq]
  unfold eql_val
  rw[← eqfA_deq]
  by_cases hl : a.length=b.length
  · rw[if_neg (by simp [hl])]
    exact loop_all2 (L:=eql_val_L4) (st:=fun i=>eql_val_s4 a b i) (fun r=>some (R_eql_val r)) (d:=zeroVal) deq hl ha.len
      (fun i hi=>by
        rw[eql_val_l4,eqVal]
        simp only[cndO_eq,Int.toNat_natCast]
        rw[if_pos (by simp;omega),obO_pos (by omega),obO_pos (by omega)]
        cases deq (a.getD i zeroVal) (b.getD i zeroVal)<;>simp)
      (by rw[eql_val_l4];simp [cndO_eq]) (fun i=>eql_val_a4_ret _ _ _) (eql_val_a4_x0 _ _ _)
  · rw[if_pos (by simp;omega),eqfA_len hl]
def F_eql_val : FnC Un:=fun args=>match args with
  | [x0,x1]=>(dL .val x0).bind fun a=>(dL .val x1).bind fun b=>some ([],A_eql_val (eql_val a b),O_eql_val (eql_val a b))
  | _=>none
theorem ok_eql_val : FnOK 118 F_eql_val:=by
  intro args ob rs os h hob
  unfold F_eql_val at h
  split at h
  · simp only[Option.bind_eq_some_iff,Option.some.injEq,Prod.mk.injEq] at h
    obtain⟨a,e0,b,e1,rfl,rfl,rfl⟩:=h
    obtain rfl:=dL_eq e0
    obtain rfl:=dL_eq e1
    exact⟨fn_contractF (M:=M_eql_val) rfl (tbl_ok (l1:=[]) (l2:=[]) (l3:=[]) (l4:=[]) (l5:=[]) trivial trivial trivial trivial trivial) Tryz.func118 (by kernel_rfl) N_eql_val 0 [.d] (fun hwf=>(eql_val_spec a b (wfArg hwf (a:=.d (.v (.dat (U:=Un) Ty.val a))) (List.mem_of_getElem? (i:=0) rfl)) (wfArg hwf (a:=.d (.v (.dat (U:=Un) Ty.val b))) (List.mem_of_getElem? (i:=1) rfl)))),hasBody_of Tryz.func118 (by kernel_rfl) (by kernel_rfl)⟩
  · simp at h
end
end Go.Proofs.YtolbngdhgcbmgaaGreat.B
