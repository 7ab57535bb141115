/- Part 29 of the proof: Slaw22. -/
import Derived.Test.YtolbngdhgcbmgaaGreatPonce28
namespace Go.Proofs.YtolbngdhgcbmgaaGreat.B
open Go Go.RowKit
set_option maxRecDepth 100000
noncomputable section
attribute [local irreducible] awp ctxK itersK iterK retQ retGQ awf ctxF loopF
def M_l22_col : Mc Un:=mach (tbl []) (tbl []) (tbl []) (tbl []) (tbl [])
def A_l22_col (r:Term) : List (A Un):=[.agg (encC Ty.term r)]
def O_l22_col (_r:Term) : List (Ob Un):=[]
def R_l22_col (r:Term) : RF Un:=(A_l22_col r,O_l22_col r)
def N_l22_col : Nat→NS:=fun l=>(look l []).getD ⟨[],[],[],[],[],true⟩
def l22_col_fn (at_:Int) : Option (RF Un):=awf M_l22_col N_l22_col (bodyOf Tryz.f23) (entry Tryz.f23.ntmps 0 [.d (.v (.s (.int .i64 at_)))]) (retF M_l22_col Tryz.f23.results.toList [.d])
theorem l22_col_in (at_:Int) : l22_col_fn at_=some (R_l22_col (Term.mk (2:Int) zeroVal (0:Int) at_ (ByteArray.mk #[]) [] [] (2:Int))):=by kernel_rfl
def l22_col (at_:Int) : Term:=.mk 2 zeroVal 0 at_ ⟨#[]⟩ [] [] 2
theorem l22_col_spec (at_:Int) (_h:WI at_) : l22_col_fn at_=some (R_l22_col (l22_col at_)):=by rw[l22_col_in];rfl
def F_l22_col : FnC Un:=fun args=>match args with
  | [x0]=>(dI .i64 x0).bind fun at_=>some ([],A_l22_col (l22_col at_),O_l22_col (l22_col at_))
  | _=>none
theorem ok_l22_col : FnOK 23 F_l22_col:=by
  intro args ob rs os h hob
  unfold F_l22_col at h
  split at h
  · simp only[Option.bind_eq_some_iff,Option.some.injEq,Prod.mk.injEq] at h
    obtain⟨at_,e0,rfl,rfl,rfl⟩:=h
    obtain rfl:=dI_eq e0
    exact⟨fn_contractF (M:=M_l22_col) rfl (tbl_ok (l1:=[]) (l2:=[]) (l3:=[]) (l4:=[]) (l5:=[]) trivial trivial trivial trivial trivial) Tryz.func23 (by kernel_rfl) N_l22_col 0 [.d] (fun hwf=>(l22_col_spec at_ (wfArg hwf (a:=.d (.v (.s (.int .i64 at_)))) (List.mem_of_getElem? (i:=0) rfl)))),hasBody_of Tryz.func23 (by kernel_rfl) (by kernel_rfl)⟩
  · simp at h
def M_l22_num : Mc Un:=mach (tbl [(82,F_value_Num)]) (tbl []) (tbl []) (tbl []) (tbl [])
def A_l22_num (r:Term) : List (A Un):=[.agg (encC Ty.term r)]
def O_l22_num (_r:Term) : List (Ob Un):=[]
def R_l22_num (r:Term) : RF Un:=(A_l22_num r,O_l22_num r)
def N_l22_num : Nat→NS:=fun l=>(look l []).getD ⟨[],[],[],[],[],true⟩
def l22_num_fn (n:Int) : Option (RF Un):=awf M_l22_num N_l22_num (bodyOf Tryz.f25) (entry Tryz.f25.ntmps 0 [.d (.v (.s (.int .i64 n)))]) (retF M_l22_num Tryz.f25.results.toList [.d])
theorem l22_num_in (n:Int) : l22_num_fn n=some (R_l22_num (Term.mk (1:Int) (value_Num n) (0:Int) (0:Int) (ByteArray.mk #[]) [] [] (2:Int))):=by kernel_rfl
def l22_num (n:Int) : Term:=.mk 1 (value_Num n) 0 0 ⟨#[]⟩ [] [] 2
theorem l22_num_spec (n:Int) (_h:WI n) : l22_num_fn n=some (R_l22_num (l22_num n)):=by rw[l22_num_in];rfl
def F_l22_num : FnC Un:=fun args=>match args with
  | [x0]=>(dI .i64 x0).bind fun n=>some ([],A_l22_num (l22_num n),O_l22_num (l22_num n))
  | _=>none
theorem ok_l22_num : FnOK 25 F_l22_num:=by
  intro args ob rs os h hob
  unfold F_l22_num at h
  split at h
  · simp only[Option.bind_eq_some_iff,Option.some.injEq,Prod.mk.injEq] at h
    obtain⟨n,e0,rfl,rfl,rfl⟩:=h
    obtain rfl:=dI_eq e0
    exact⟨fn_contractF (M:=M_l22_num) rfl (tbl_ok (l1:=[(82,F_value_Num)]) (l2:=[]) (l3:=[]) (l4:=[]) (l5:=[]) ⟨ok_value_Num,trivial⟩ trivial trivial trivial trivial) Tryz.func25 (by kernel_rfl) N_l22_num 0 [.d] (fun hwf=>(l22_num_spec n (wfArg hwf (a:=.d (.v (.s (.int .i64 n)))) (List.mem_of_getElem? (i:=0) rfl)))),hasBody_of Tryz.func25 (by kernel_rfl) (by kernel_rfl)⟩
  · simp at h
def M_l22_op : Mc Un:=mach (tbl []) (tbl []) (tbl []) (tbl []) (tbl [])
def A_l22_op (r:Term) : List (A Un):=[.agg (encC Ty.term r)]
def O_l22_op (_r:Term) : List (Ob Un):=[]
def R_l22_op (r:Term) : RF Un:=(A_l22_op r,O_l22_op r)
def N_l22_op : Nat→NS:=fun l=>(look l []).getD ⟨[],[],[],[],[],true⟩
def l22_op_fn (kind:Int) (a:Term) (b:Term) : Option (RF Un):=awf M_l22_op N_l22_op (bodyOf Tryz.f22) (entry Tryz.f22.ntmps 0 [.d (.v (.s (.int .i64 kind))),.d (.agg (enc Ty.term a)),.d (.agg (enc Ty.term b))]) (retF M_l22_op Tryz.f22.results.toList [.d])
theorem l22_op_in (kind:Int) (a:Term) (b:Term) : l22_op_fn kind a b=some (R_l22_op (Term.mk kind zeroVal (0:Int) (0:Int) (ByteArray.mk #[]) [(Term.ids a),(Term.ids b)] [] (1:Int))):=by kernel_rfl
def l22_op (kind:Int) (a b:Term) : Term:=.mk kind zeroVal 0 0 ⟨#[]⟩ [a,b] [] 1
theorem l22_op_spec (kind:Int) (a b:Term) (_h:WI kind) (_h2:WS .term a) (_h3:WS .term b) : l22_op_fn kind a b=some (R_l22_op (l22_op kind a b)):=by rw[l22_op_in,Term.ids_eq,Term.ids_eq];rfl
def F_l22_op : FnC Un:=fun args=>match args with
  | [x0,x1,x2]=>(dI .i64 x0).bind fun kind=>(dS .term x1).bind fun a=>(dS .term x2).bind fun b=>some ([],A_l22_op (l22_op kind a b),O_l22_op (l22_op kind a b))
  | _=>none
theorem ok_l22_op : FnOK 22 F_l22_op:=by
  intro args ob rs os h hob
  unfold F_l22_op at h
  split at h
  · simp only[Option.bind_eq_some_iff,Option.some.injEq,Prod.mk.injEq] at h
    obtain⟨kind,e0,a,e1,b,e2,rfl,rfl,rfl⟩:=h
    obtain rfl:=dI_eq e0
    obtain rfl:=dS_eq e1
    obtain rfl:=dS_eq e2
    exact⟨fn_contractF (M:=M_l22_op) rfl (tbl_ok (l1:=[]) (l2:=[]) (l3:=[]) (l4:=[]) (l5:=[]) trivial trivial trivial trivial trivial) Tryz.func22 (by kernel_rfl) N_l22_op 0 [.d] (fun hwf=>(l22_op_spec kind a b (wfArg hwf (a:=.d (.v (.s (.int .i64 kind)))) (List.mem_of_getElem? (i:=0) rfl)) (wfArg hwf (a:=.d (.agg (enc Ty.term a))) (List.mem_of_getElem? (i:=1) rfl)) (wfArg hwf (a:=.d (.agg (enc Ty.term b))) (List.mem_of_getElem? (i:=2) rfl)))),hasBody_of Tryz.func22 (by kernel_rfl) (by kernel_rfl)⟩
  · simp at h
def M_l22_table : Mc Un:=mach (tbl []) (tbl []) (tbl []) (tbl []) (tbl [])
def A_l22_table (r:Rel) : List (A Un):=[.agg (encC Ty.rel r)]
def O_l22_table (_r:Rel) : List (Ob Un):=[]
def R_l22_table (r:Rel) : RF Un:=(A_l22_table r,O_l22_table r)
def N_l22_table : Nat→NS:=fun l=>(look l []).getD ⟨[],[],[],[],[],true⟩
def l22_table_fn (name:ByteArray) : Option (RF Un):=awf M_l22_table N_l22_table (bodyOf Tryz.f21) (entry Tryz.f21.ntmps 0 [.d (.v (cs name))]) (retF M_l22_table Tryz.f21.results.toList [.d])
theorem l22_table_in (name:ByteArray) : l22_table_fn name=some (R_l22_table (Rel.mk (1:Int) name [{ table:=name,name:=(ByteArray.mk #[97]),type:=(2:Int) }] [] [] [] [] (0:Int) (0:Int) false [])):=by kernel_rfl
def l22_table (name:ByteArray) : Rel:=.mk 1 name [{ table:=name,name:=⟨#[97]⟩,type:=2 }] [] [] [] [] 0 0 false []
theorem l22_table_spec (name:ByteArray) (_h:WStr name) : l22_table_fn name=some (R_l22_table (l22_table name)):=by rw[l22_table_in];rfl
def F_l22_table : FnC Un:=fun args=>match args with
  | [x0]=>(dStr x0).bind fun name=>some ([],A_l22_table (l22_table name),O_l22_table (l22_table name))
  | _=>none
theorem ok_l22_table : FnOK 21 F_l22_table:=by
  intro args ob rs os h hob
  unfold F_l22_table at h
  split at h
  · simp only[Option.bind_eq_some_iff,Option.some.injEq,Prod.mk.injEq] at h
    obtain⟨name,e0,rfl,rfl,rfl⟩:=h
    obtain rfl:=dStr_eq e0
    exact⟨fn_contractF (M:=M_l22_table) rfl (tbl_ok (l1:=[]) (l2:=[]) (l3:=[]) (l4:=[]) (l5:=[]) trivial trivial trivial trivial trivial) Tryz.func21 (by kernel_rfl) N_l22_table 0 [.d] (fun hwf=>(l22_table_spec name (wfArg hwf (a:=.d (.v (cs name))) (List.mem_of_getElem? (i:=0) rfl)))),hasBody_of Tryz.func21 (by kernel_rfl) (by kernel_rfl)⟩
  · simp at h
def M_l22_filter : Mc Un:=mach (tbl []) (tbl []) (tbl []) (tbl []) (tbl [])
def A_l22_filter (r:Rel) : List (A Un):=[.agg (encC Ty.rel r)]
def O_l22_filter (_r:Rel) : List (Ob Un):=[]
def R_l22_filter (r:Rel) : RF Un:=(A_l22_filter r,O_l22_filter r)
def N_l22_filter : Nat→NS:=fun l=>(look l []).getD ⟨[],[],[],[],[],true⟩
def l22_filter_fn (q:Rel) (t:Term) : Option (RF Un):=awf M_l22_filter N_l22_filter (bodyOf Tryz.f24) (entry Tryz.f24.ntmps 0 [.d (.agg (enc Ty.rel q)),.d (.agg (enc Ty.term t))]) (retF M_l22_filter Tryz.f24.results.toList [.d])
theorem l22_filter_in (q:Rel) (t:Term) : l22_filter_fn q t=some (R_l22_filter (Rel.mk (3:Int) (ByteArray.mk #[]) q.cols [(Rel.ids q)] [(Term.ids t)] [] [] (0:Int) (0:Int) false [])):=by kernel_rfl
def l22_filter (q:Rel) (t:Term) : Rel:=.mk 3 ⟨#[]⟩ q.cols [q] [t] [] [] 0 0 false []
theorem l22_filter_spec (q:Rel) (t:Term) (_h2:WS .rel q) (_h3:WS .term t) : l22_filter_fn q t=some (R_l22_filter (l22_filter q t)):=by rw[l22_filter_in,Term.ids_eq,Rel.ids_eq];rfl
def F_l22_filter : FnC Un:=fun args=>match args with
  | [x0,x1]=>(dS .rel x0).bind fun q=>(dS .term x1).bind fun t=>some ([],A_l22_filter (l22_filter q t),O_l22_filter (l22_filter q t))
  | _=>none
theorem ok_l22_filter : FnOK 24 F_l22_filter:=by
  intro args ob rs os h hob
  unfold F_l22_filter at h
  split at h
  · simp only[Option.bind_eq_some_iff,Option.some.injEq,Prod.mk.injEq] at h
    obtain⟨q,e0,t,e1,rfl,rfl,rfl⟩:=h
    obtain rfl:=dS_eq e0
    obtain rfl:=dS_eq e1
    exact⟨fn_contractF (M:=M_l22_filter) rfl (tbl_ok (l1:=[]) (l2:=[]) (l3:=[]) (l4:=[]) (l5:=[]) trivial trivial trivial trivial trivial) Tryz.func24 (by kernel_rfl) N_l22_filter 0 [.d] (fun hwf=>(l22_filter_spec q t (wfArg hwf (a:=.d (.agg (enc Ty.rel q))) (List.mem_of_getElem? (i:=0) rfl)) (wfArg hwf (a:=.d (.agg (enc Ty.term t))) (List.mem_of_getElem? (i:=1) rfl)))),hasBody_of Tryz.func24 (by kernel_rfl) (by kernel_rfl)⟩
  · simp at h
def M_l22_awake : Mc Un:=mach (tbl [(21,F_l22_table),(23,F_l22_col),(22,F_l22_op),(25,F_l22_num),(24,F_l22_filter),(8,F_push_Once),(16,F_algebra_SameRel),(12,F_push_Rel)]) (tbl []) (tbl []) (tbl []) (tbl [])
def A_l22_awake (r:Bool) : List (A Un):=[.c (.s (.bool r))]
def O_l22_awake (_r:Bool) : List (Ob Un):=[]
def R_l22_awake (r:Bool) : RF Un:=(A_l22_awake r,O_l22_awake r)
def N_l22_awake : Nat→NS:=fun l=>(look l []).getD ⟨[],[],[],[],[],true⟩
def l22_awake_fn : Option (RF Un):=awf M_l22_awake N_l22_awake (bodyOf Tryz.f7) (entry Tryz.f7.ntmps 0 []) (retF M_l22_awake Tryz.f7.results.toList [.d])
def awkB : List Col:=[{ table:=⟨#[116]⟩,name:=⟨#[97]⟩,type:=2 },{ table:=⟨#[117]⟩,name:=⟨#[97]⟩,type:=2 }]
def awkL : Term:=l22_op 13 (l22_col 0) (l22_col 1)
def awkR : Rel:=l22_filter (.mk 5 ⟨#[]⟩ awkB [l22_table ⟨#[116]⟩,l22_table ⟨#[117]⟩] [] [] [] 0 0 false []) (l22_op 17 (l22_op 17 (l22_op 11 (l22_col 0) (l22_num 1)) (l22_op 11 (l22_col 1) (l22_num 2))) awkL)
def awkW : Rel:=.mk 5 ⟨#[]⟩ awkB [l22_filter (l22_table ⟨#[116]⟩) (l22_op 11 (l22_col 0) (l22_num 1)),l22_filter (l22_table ⟨#[117]⟩) (l22_op 11 (l22_col 0) (l22_num 2))] [awkL] [] [] 0 0 false []
theorem l22_awake_in : l22_awake_fn=obO (onceOK awkR) (obO (onceOK awkW) (cndO (push_Once awkR).2 (cndO (!(push_Once awkW).2) (cndO (algebra_SameRel (push_Once awkR).1 awkW) (obO (relD awkR) (some (R_l22_awake (algebra_SameRel (Rel.ids (push_Rel awkR)) awkW)))) (some (R_l22_awake false))) (some (R_l22_awake false))) (some (R_l22_awake false)))):=by kernel_rfl
def l22_awake : Bool:=true
theorem l22_awake_spec : l22_awake_fn=some (R_l22_awake l22_awake):=by
  have h1:onceOK awkR:=onceK_ok (by kernel_rfl)
  have h2:onceOK awkW:=onceK_ok (by kernel_rfl)
  have h3:(push_Once awkR).2=true:=by kernel_rfl
  have h4:(push_Once awkW).2=false:=by kernel_rfl
  have h5:(push_Once awkR).1=awkW:=by kernel_rfl
  have h6:(pF 9).1 awkR=some awkW:=by kernel_rfl
  obtain⟨p1,p2,_⟩:=push_Rel_of h6
  have h7:algebra_SameRel awkW awkW=true:=deq_iff.2 rfl
  rw[l22_awake_in,obO_pos h1,obO_pos h2,h3,h4,h5,h7,obO_pos p2,Rel.ids_eq,p1,h7]
  rfl
def F_l22_awake : FnC Un:=fun args=>match args with
  | []=>some ([],A_l22_awake (l22_awake),O_l22_awake (l22_awake))
  | _=>none
theorem ok_l22_awake : FnOK 7 F_l22_awake:=by
  intro args ob rs os h hob
  unfold F_l22_awake at h
  split at h
  · simp only[Option.bind_eq_some_iff,Option.some.injEq,Prod.mk.injEq] at h
    obtain⟨rfl,rfl,rfl⟩:=h
    exact⟨fn_contractF (M:=M_l22_awake) rfl (tbl_ok (l1:=[(21,F_l22_table),(23,F_l22_col),(22,F_l22_op),(25,F_l22_num),(24,F_l22_filter),(8,F_push_Once),(16,F_algebra_SameRel),(12,F_push_Rel)]) (l2:=[]) (l3:=[]) (l4:=[]) (l5:=[]) ⟨ok_l22_table,ok_l22_col,ok_l22_op,ok_l22_num,ok_l22_filter,ok_push_Once,ok_algebra_SameRel,ok_push_Rel,trivial⟩ trivial trivial trivial trivial) Tryz.func7 (by kernel_rfl) N_l22_awake 0 [.d] (fun hwf=>(l22_awake_spec)),hasBody_of Tryz.func7 (by kernel_rfl) (by kernel_rfl)⟩
  · simp at h
def M_l22_PushOnce : Mc Un:=mach (tbl [(6,F_r15_Rel),(7,F_l22_awake),(8,F_push_Once),(9,F_r22_Once),(10,F_r15_SameRel)]) (tbl []) (tbl []) (tbl []) (tbl [])
def A_l22_PushOnce (r:Bool) : List (A Un):=[.c (.s (.bool r))]
def O_l22_PushOnce (_r:Bool) : List (Ob Un):=[]
def R_l22_PushOnce (r:Bool) : RF Un:=(A_l22_PushOnce r,O_l22_PushOnce r)
def N_l22_PushOnce : Nat→NS:=fun l=>(look l []).getD ⟨[],[],[],[],[],true⟩
def l22_PushOnce_fn (q:Rel) (env:List Int) : Option (RF Un):=awf M_l22_PushOnce N_l22_PushOnce (bodyOf Tryz.f3) (entry Tryz.f3.ntmps 0 [.d (.agg (enc Ty.rel q)),.d (.v (.dat (U:=Un) Ty.int env))]) (retF M_l22_PushOnce Tryz.f3.results.toList [.d])
theorem l22_PushOnce_in (q:Rel) (env:List Int) : l22_PushOnce_fn q env=obO (env15 env (Rel.ids q).ht) (cndO (!r15_Rel (Rel.ids q) env) (some (R_l22_PushOnce (l22_awake))) (obO (onceOK (Rel.ids q)) (obO (refOK (Rel.ids q)) (cndO (l22_awake) (cndO (r15_SameRel (Rel.ids ((push_Once (Rel.ids q)).fst)) (Rel.ids ((r22_Once (Rel.ids q)).fst))) (some (R_l22_PushOnce ((push_Once (Rel.ids q)).snd == (r22_Once (Rel.ids q)).snd))) (some (R_l22_PushOnce (false)))) (some (R_l22_PushOnce (false))))))):=by kernel_rfl
mutual
theorem term_ht_sz : ∀ t : Term,t.ht≤t.sz
  | .mk op v depth at_ name kids sub type=>by
    have:=terms_ht_sz kids
    have:=rels_ht_sz sub
    simp only[Term.ht,Term.sz];omega
theorem terms_ht_sz : ∀ l : List Term,htTs l≤szTs l
  | []=>Nat.le_refl _
  | t::l=>by
    have:=term_ht_sz t
    have:=terms_ht_sz l
    simp only[htTs,szTs];omega
theorem agg_ht_sz : ∀ a : Agg,a.ht≤a.sz
  | .mk name distinct t=>by
    have:=terms_ht_sz t
    simp only[Agg.ht,Agg.sz];omega
theorem aggs_ht_sz : ∀ l : List Agg,htAs l≤szAs l
  | []=>Nat.le_refl _
  | t::l=>by
    have:=agg_ht_sz t
    have:=aggs_ht_sz l
    simp only[htAs,szAs];omega
theorem rel_ht_sz : ∀ r : Rel,r.ht≤r.sz
  | .mk op table cols kids terms aggs keys limit skip all rows=>by
    have:=rels_ht_sz kids
    have:=terms_ht_sz terms
    have:=aggs_ht_sz aggs
    simp only[Rel.ht,Rel.sz];omega
theorem rels_ht_sz : ∀ l : List Rel,htRs l≤szRs l
  | []=>Nat.le_refl _
  | t::l=>by
    have:=rel_ht_sz t
    have:=rels_ht_sz l
    simp only[htRs,szRs];omega
end
theorem sz_kid {r:Rel} {i:Nat} (h:i<r.kids.length) : (r.kids.getD i zeroRel).sz≤r.sz:=by
  have h1:=szRs_mem (getD_mem (d:=zeroRel) h)
  have h2:=r.sz_eq
  omega
theorem sz_term {r:Rel} : (r.terms.getD 0 zeroTerm).sz≤r.sz:=by
  have h2:=r.sz_eq
  by_cases h : 0<r.terms.length
  · have h1:=szTs_mem (getD_mem (d:=zeroTerm) h)
    omega
  · have : r.terms=[]:=List.length_eq_zero_iff.1 (by omega)
    rw[this]
    show zeroTerm.sz≤r.sz
    have h3:zeroTerm.sz=1:=rfl
    omega
theorem csR_eq (r:Rel) : csR r=r.cols.length+r.terms.length+r.aggs.length+csRs r.kids:=by cases r;simp only[csR,Rel.cols_mk,Rel.terms_mk,Rel.aggs_mk,Rel.kids_mk]
theorem csRs_mem {x:Rel} : ∀ {l:List Rel},x∈l→csR x≤csRs l
  | [],h=>absurd h List.not_mem_nil
  | y::l,h=>by
    simp only[csRs]
    rcases List.mem_cons.1 h with rfl | h
    · omega
    · have:=csRs_mem h;omega
theorem cs_kid {r:Rel} {i:Nat} (h:i<r.kids.length) : csR (r.kids.getD i zeroRel)≤csR r:=by
  have h1:=csRs_mem (getD_mem (d:=zeroRel) h)
  have h2:=csR_eq r
  omega
theorem cs_two {k:Rel} (h:k.kids.length=2) : csR (k.kids.getD 0 zeroRel)+csR (k.kids.getD 1 zeroRel)≤csR k:=by
  have h1:=kids_two h
  have h2:=csR_eq k
  have h3:csRs k.kids=csR (k.kids.getD 0 zeroRel)+csR (k.kids.getD 1 zeroRel):=by
    conv=>lhs;rw[h1]
    simp only[csRs,Nat.add_zero]
  omega
theorem pos_of {t:Term} {env:List Int} (h:term15 t env=true) : posT t:=fun hp x hx=>uses_of t env 0 hp h x ((riseI_mem _ _).1 hx)
theorem rel15_once {r:Rel} {env:List Int} (h:rel15 r env=true) (hs:r.sz≤2000000) (hc:csR r≤2000000) : onceOK r∧refOK r:=by
  have base:r.op=3→r.kids.length=1→r.terms.length=1→(r.terms.getD 0 zeroTerm).sz≤2000000∧(r.kids.getD 0 zeroRel).sz≤2000000∧csR (r.kids.getD 0 zeroRel)≤2000000∧rel15 (r.kids.getD 0 zeroRel) env=true∧∃ env2,term15 (r.terms.getD 0 zeroTerm) env2=true:=fun h3 hk ht=>by
    have a1:=sz_term (r:=r)
    have a2:=sz_kid (r:=r) (i:=0) (by omega)
    have a3:=cs_kid (r:=r) (i:=0) (by omega)
    rw[rel15_eq] at h
    simp only[Bool.and_eq_true] at h
    obtain⟨⟨⟨_,hkk⟩,_⟩,h4⟩:=h
    unfold rest15 at h4
    rw[if_neg (by omega),if_neg (by omega),if_pos (.inl h3)] at h4
    simp only[Bool.and_eq_true] at h4
    have h1:=kids_one hk
    refine⟨by omega,by omega,by omega,?_,inW15 r::env,?_⟩
    · rw[h1] at hkk;simp only[rels15,Bool.and_true] at hkk;exact hkk
    · have h2:r.terms=[r.terms.getD 0 zeroTerm]:=by
        match hk : r.terms,ht with
        | [a],_=>rfl
      have h3:=h4.2
      rw[h2] at h3;simp only[terms15,Bool.and_true] at h3;exact h3
  refine⟨fun h3 hk ht hf=>?_,fun h3 hk ht=>?_⟩
  · obtain⟨b1,b2,b3,b4,_⟩:=base h3 hk ht
    have hf':formedR (r.kids.getD 0 zeroRel)=true:=hf
    generalize r.kids.getD 0 zeroRel=k at b2 b3 b4 hf'
    generalize r.terms.getD 0 zeroTerm=t at b1
    have hkl:=szRs_len k.kids
    have hke:=k.sz_eq
    have hst:=sz_term (r:=k)
    unfold formedR at hf'
    refine⟨b1,fun c3=>?_,fun c5=>?_,fun c6=>?_,fun c4=>?_,by omega⟩
    · rw[if_pos c3,decide_eq_true_eq] at hf'
      exact⟨hf'.1,hf'.2,by omega⟩
    · rw[if_neg (by omega),if_pos (.inl c5),decide_eq_true_eq] at hf'
      have w:=cs_two hf'
      have w1:=width_cs (k.kids.getD 0 zeroRel) (by omega)
      have w2:=width_cs (k.kids.getD 1 zeroRel) (by omega)
      refine⟨b1,hf',?_,by omega⟩
      unfold joinW
      rw[wrap_id (by omega)]
      omega
    · rw[if_neg (by omega),if_pos (.inr c6),decide_eq_true_eq] at hf'
      exact hf'
    · rw[if_neg (by omega),if_neg (by omega),if_pos (by omega),decide_eq_true_eq] at hf'
      exact hf'
  · obtain⟨b1,b2,b3,b4,env2,b5⟩:=base h3 hk ht
    generalize r.kids.getD 0 zeroRel=k at b2 b3 b4
    generalize r.terms.getD 0 zeroTerm=t at b1 b5
    have hst:=sz_term (r:=k)
    have hw:=width_cs k b3
    have hps:=split_ok t env2 b5
    rw[rel15_eq] at b4
    simp only[Bool.and_eq_true] at b4
    obtain⟨⟨⟨g1,_⟩,_⟩,g4⟩:=b4
    unfold headR15 at g1
    simp only[Bool.and_eq_true,decide_eq_true_eq,Bool.not_eq_true'] at g1
    obtain⟨⟨hn,hl⟩,_⟩:=g1
    have kn:∀ n : Int,kidsN k.op=n→(k.kids.length:Int)=n:=fun n e=>by omega
    refine⟨b1,fun c3=>?_,fun c5=>?_,fun c=>?_,fun c=>?_,fun _=>pos_of b5,fun _ p hp=>pos_of (hps p hp)⟩
    · have:=kn 1 (by rw[c3];rfl)
      unfold rest15 at g4
      rw[if_neg (by omega),if_neg (by omega),if_pos (.inl c3)] at g4
      simp only[Bool.and_eq_true,decide_eq_true_eq] at g4
      exact⟨by omega,by omega,by omega⟩
    · have:=kn 2 (by rw[c5];rfl)
      exact⟨b1,by omega,by omega,by omega⟩
    · have:=kn 2 (by rcases c with e | e<;>rw[e]<;>rfl)
      omega
    · have:=kn 1 (by rcases c with e | e | e | e<;>rw[e]<;>rfl)
      omega
def l22_PushOnce (_q:Rel) (_env:List Int) : Bool:=true
def onceLaw (q:Rel) (env:List Int) : Prop:=q.sz≤2000000∧csR q≤2000000∧env.length≤2000000
theorem l22_PushOnce_spec (q:Rel) (env:List Int) (_hq:WS .rel q) (_he:WL .int env) (h:onceLaw q env) : l22_PushOnce_fn q env=some (R_l22_PushOnce (l22_PushOnce q env)):=by
  obtain⟨h1,h2,h3⟩:=h
  have hh:=rel_ht_sz q
  have e1:r15_Rel q env=rel15 q env:=rfl
  rw[l22_PushOnce_in]
  simp only[Rel.ids_eq,e1]
  rw[obO_pos (show env15 env q.ht from by unfold env15;omega)]
  by_cases hv : rel15 q env=true
  · obtain⟨o1,o2⟩:=rel15_once hv h1 h2
    have e2:r22_Once q=push_Once q:=(once_same hv).symm
    have e3:r15_SameRel (push_Once q).1 (push_Once q).1=true:=deq_iff.2 rfl
    have e4:l22_awake=true:=rfl
    rw[hv,cndO_eq,if_neg (by decide),obO_pos o1,obO_pos o2,e2,e3,e4,beq_self_eq_true]
    rfl
  · rw[cndO_eq,if_pos (by simpa using hv)]
    rfl
def F_l22_PushOnce : FnC Un:=fun args=>match args with
  | [x0,x1]=>(dS .rel x0).bind fun q=>(dL .int x1).bind fun env=>some ([onceLaw q env],A_l22_PushOnce (l22_PushOnce q env),O_l22_PushOnce (l22_PushOnce q env))
  | _=>none
theorem ok_l22_PushOnce : FnOK 3 F_l22_PushOnce:=by
  intro args ob rs os h hob
  unfold F_l22_PushOnce at h
  split at h
  · simp only[Option.bind_eq_some_iff,Option.some.injEq,Prod.mk.injEq] at h
    obtain⟨q,e0,env,e1,rfl,rfl,rfl⟩:=h
    obtain rfl:=dS_eq e0
    obtain rfl:=dL_eq e1
    exact⟨fn_contractF (M:=M_l22_PushOnce) rfl (tbl_ok (l1:=[(6,F_r15_Rel),(7,F_l22_awake),(8,F_push_Once),(9,F_r22_Once),(10,F_r15_SameRel)]) (l2:=[]) (l3:=[]) (l4:=[]) (l5:=[]) ⟨ok_r15_Rel,ok_l22_awake,ok_push_Once,ok_r22_Once,ok_r15_SameRel,trivial⟩ trivial trivial trivial trivial) Tryz.func3 (by kernel_rfl) N_l22_PushOnce 0 [.d] (fun hwf=>(l22_PushOnce_spec q env (wfArg hwf (a:=.d (.agg (enc Ty.rel q))) (List.mem_of_getElem? (i:=0) rfl)) (wfArg hwf (a:=.d (.v (.dat (U:=Un) Ty.int env))) (List.mem_of_getElem? (i:=1) rfl)) (hob _ (List.mem_of_getElem? (i:=0) rfl)))),hasBody_of Tryz.func3 (by kernel_rfl) (by kernel_rfl)⟩
  · simp at h
end
end Go.Proofs.YtolbngdhgcbmgaaGreat.B
