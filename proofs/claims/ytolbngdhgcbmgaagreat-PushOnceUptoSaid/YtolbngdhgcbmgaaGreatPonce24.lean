/- Part 24 of the proof: Spush3a Spush3b Spush3c. -/
import Derived.Test.YtolbngdhgcbmgaaGreatPonce23
namespace Go.Proofs.YtolbngdhgcbmgaaGreat.B
open Go Go.RowKit
set_option maxRecDepth 100000
noncomputable section
attribute [local irreducible] awp ctxK itersK iterK retQ retGQ awf ctxF loopF
def M_left1 : Mc Un:=mach (tbl [(126,F_conj_Within)]) (tbl []) (tbl []) (tbl []) (tbl [])
def A_left1 (r:Bool) : List (A Un):=[.c (.s (.bool r))]
def O_left1 (_r:Bool) : List (Ob Un):=[]
def R_left1 (r:Bool) : RF Un:=(A_left1 r,O_left1 r)
def N_left1 : Nat→NS:=fun l=>(look l []).getD ⟨[],[],[],[],[],true⟩
def left1_fn (p:Term) (c0:Int) : Option (RF Un):=awf M_left1 N_left1 (bodyOf Tryz.f130) (entry Tryz.f130.ntmps 0 [.d (.agg (enc Ty.term p)),.box [.v (.s (.int .i64 c0))]]) (retF M_left1 Tryz.f130.results.toList [.d])
theorem left1_in (p:Term) (c0:Int) : left1_fn p c0=obO ((Term.ids p).sz≤(2000000:Nat)) (some (R_left1 (conj_Within (Term.ids p) (0:Int) c0))):=by kernel_rfl
def left1 (p:Term) (n:Int) : Bool:=withinA p 0 n
theorem left1_spec (p:Term) (n:Int) (_hp:WS .term p) (_hn:WI n) (h:p.sz≤2000000) : left1_fn p n=some (R_left1 (left1 p n)):=by
  rw[left1_in,Term.ids_eq,obO_pos h,conj_Within_eq];rfl
def L_left1 : List (List (DC Un))→Option (FV Un):=fun dl=>match dl with
  | [b0]=>(bI .i64 b0).bind fun c0=>some (fvo_S_term_to_b (fun p=>p.sz≤2000000) (fun p=>left1 p c0))
  | _=>none
theorem okL_left1 : ClOK 130 L_left1:=by
  refine⟨hasBody_of Tryz.func130 (by kernel_rfl) (by kernel_rfl),fun dl φ args ob rs hF hφ hob=>?_⟩
  unfold L_left1 at hF
  split at hF
  · simp only[Option.bind_eq_some_iff,Option.some.injEq] at hF
    obtain⟨c0,g0,hE⟩:=hF
    subst hE
    obtain rfl:=bI_eq g0
    unfold fvo_S_term_to_b at hφ
    split at hφ
    · simp only[Option.bind_eq_some_iff,Option.some.injEq,Prod.mk.injEq] at hφ
      obtain⟨p,e0,rfl,rfl⟩:=hφ
      simp only[List.map_cons,List.map_nil,List.cons_append,List.nil_append]
      rw[dS_eq e0]
      exact Contract.data (fn_contractF (M:=M_left1) rfl (tbl_ok (l1:=[(126,F_conj_Within)]) (l2:=[]) (l3:=[]) (l4:=[]) (l5:=[]) ⟨ok_conj_Within,trivial⟩ trivial trivial trivial trivial) Tryz.func130 (by kernel_rfl) N_left1 0 [.d] (fun hwf=>(left1_spec p c0 (wfArg hwf (a:=.d (.agg (enc Ty.term p))) (List.mem_of_getElem? (i:=0) rfl)) (wfArg hwf (a:=.box [.v (.s (.int .i64 c0))]) (List.mem_of_getElem? (i:=1) rfl)) (hob _ (List.mem_of_getElem? (i:=0) rfl)))))
    · simp at hφ
  · simp at hF
def M_push_left : Mc Un:=mach (tbl [(50,F_algebra_Width),(123,F_conj_Split),(124,F_push_parted),(121,F_push_filter),(131,F_push_with)]) (tbl []) (tbl [(130,L_left1)]) (tbl []) (tbl [])
def A_push_left (r:Rel×Bool) : List (A Un):=[.agg (encC Ty.rel r.1),.c (.s (.bool r.2))]
def O_push_left (_r:Rel×Bool) : List (Ob Un):=[]
def R_push_left (r:Rel×Bool) : RF Un:=(A_push_left r,O_push_left r)
def N_push_left : Nat→NS:=fun l=>(look l []).getD ⟨[],[],[],[],[],true⟩
def push_left_c1 (q:Rel):=algebra_Width (Rel.mk (Rel.op (q.kids.getD 0 zeroRel)) (Rel.table (q.kids.getD 0 zeroRel)) (Rel.cols (q.kids.getD 0 zeroRel)) (Rel.kids (q.kids.getD 0 zeroRel)) (Rel.terms (q.kids.getD 0 zeroRel)) (Rel.aggs (q.kids.getD 0 zeroRel)) (Rel.keys (q.kids.getD 0 zeroRel)) (Rel.limit (q.kids.getD 0 zeroRel)) (Rel.skip (q.kids.getD 0 zeroRel)) (Rel.all (q.kids.getD 0 zeroRel)) (Rel.rows (q.kids.getD 0 zeroRel)))
def push_left_c2 (t:Term):=conj_Split (Term.mk t.op t.v t.depth t.at_ t.name t.kids t.sub t.type)
def push_left_c3 (t:Term) (q:Rel):=push_parted (push_left_c2 t) (po_S_term_to_b (fvo_S_term_to_b (fun p=>p.sz≤(2000000:Nat)) fun p=>left1 p (push_left_c1 q))) (pf_S_term_to_b (fvo_S_term_to_b (fun p=>p.sz≤(2000000:Nat)) fun p=>left1 p (push_left_c1 q)))
def push_left_c4 (t:Term) (q:Rel):=push_filter (Rel.mk (Rel.op (q.kids.getD 0 zeroRel)) (Rel.table (q.kids.getD 0 zeroRel)) (Rel.cols (q.kids.getD 0 zeroRel)) (Rel.kids (q.kids.getD 0 zeroRel)) (Rel.terms (q.kids.getD 0 zeroRel)) (Rel.aggs (q.kids.getD 0 zeroRel)) (Rel.keys (q.kids.getD 0 zeroRel)) (Rel.limit (q.kids.getD 0 zeroRel)) (Rel.skip (q.kids.getD 0 zeroRel)) (Rel.all (q.kids.getD 0 zeroRel)) (Rel.rows (q.kids.getD 0 zeroRel))) (push_left_c3 t q).fst
def push_left_c5 (t:Term) (q:Rel):=push_with (Rel.mk q.op q.table q.cols q.kids q.terms q.aggs q.keys q.limit q.skip q.all q.rows) [Rel.mk (push_left_c4 t q).op (push_left_c4 t q).table (push_left_c4 t q).cols (push_left_c4 t q).kids (push_left_c4 t q).terms (push_left_c4 t q).aggs (push_left_c4 t q).keys (push_left_c4 t q).limit (push_left_c4 t q).skip (push_left_c4 t q).all (push_left_c4 t q).rows,Rel.mk (Rel.op (q.kids.getD 1 zeroRel)) (Rel.table (q.kids.getD 1 zeroRel)) (Rel.cols (q.kids.getD 1 zeroRel)) (Rel.kids (q.kids.getD 1 zeroRel)) (Rel.terms (q.kids.getD 1 zeroRel)) (Rel.aggs (q.kids.getD 1 zeroRel)) (Rel.keys (q.kids.getD 1 zeroRel)) (Rel.limit (q.kids.getD 1 zeroRel)) (Rel.skip (q.kids.getD 1 zeroRel)) (Rel.all (q.kids.getD 1 zeroRel)) (Rel.rows (q.kids.getD 1 zeroRel))]
def push_left_fn (t:Term) (q:Rel) : Option (RF Un):=awf M_push_left N_push_left (bodyOf Tryz.f85) (entry Tryz.f85.ntmps 0 [.d (.agg (enc Ty.term t)),.d (.agg (enc Ty.rel q))]) (retF M_push_left Tryz.f85.results.toList [.d,.d])
theorem push_left_in (t:Term) (q:Rel) : push_left_fn t q=obO ((0:Int)≤(0:Int)∧(0:Int)<(↑q.kids.length:Int)) (obO ((Term.ids t).sz≤(2000000:Nat)) (obO ((fvo_S_term_to_b (fun p=>p.sz≤(2000000:Nat)) fun p=>left1 p (push_left_c1 q))=fvo_S_term_to_b (po_S_term_to_b (fvo_S_term_to_b (fun p=>p.sz≤(2000000:Nat)) fun p=>left1 p (push_left_c1 q))) (pf_S_term_to_b (fvo_S_term_to_b (fun p=>p.sz≤(2000000:Nat)) fun p=>left1 p (push_left_c1 q)))) (obO (allOT (po_S_term_to_b (fvo_S_term_to_b (fun p=>p.sz≤(2000000:Nat)) fun p=>left1 p (push_left_c1 q))) (push_left_c2 t)) (cndO ((↑(push_left_c3 t q).fst.length:Int) == (0:Int)) (some (R_push_left (zeroRel,false))) (obO ((0:Int)≤(0:Int)∧(0:Int)<(↑q.kids.length:Int)) (obO ((0:Int)≤(1:Int)∧(1:Int)<(↑q.kids.length:Int)) (some (R_push_left (push_filter (Rel.ids (push_left_c5 t q)) (push_left_c3 t q).snd,true))))))))):=by kernel_rfl
def push_left (t:Term) (q:Rel) : Rel×Bool :=
  if ((splitT t).filter fun p=>withinA p 0 (widthR (q.kids.getD 0 zeroRel))).length=0 then (zeroRel,false)
  else (pushFilter (pushWith q [pushFilter (q.kids.getD 0 zeroRel) ((splitT t).filter fun p=>withinA p 0 (widthR (q.kids.getD 0 zeroRel))),q.kids.getD 1 zeroRel]) ((splitT t).filter fun p=>!withinA p 0 (widthR (q.kids.getD 0 zeroRel))),true)
theorem split_szs {t:Term} (h:t.sz≤2000000) : allOT (fun p=>p.sz≤2000000) (splitT t):=by
  have h1:=splitT_sz t
  have h2:=splitT_len t
  exact⟨fun x hx=>by have:=szTs_mem hx;omega,by omega⟩
theorem push_left_spec (t:Term) (q:Rel) (_ht:WS .term t) (_hq:WS .rel q) (h1:t.sz≤2000000) (h2:q.kids.length=2) : push_left_fn t q=some (R_push_left (push_left t q)):=by
  have e1:push_left_c1 q=widthR (q.kids.getD 0 zeroRel):=by unfold push_left_c1;rw[rel_eta,aW_eq]
  have e2:push_left_c2 t=splitT t:=by unfold push_left_c2;rw[term_eta,conj_Split_eq]
  have e3:push_left_c3 t q=((splitT t).filter (fun p=>withinA p 0 (widthR (q.kids.getD 0 zeroRel))),(splitT t).filter fun p=>!withinA p 0 (widthR (q.kids.getD 0 zeroRel))):=by
    unfold push_left_c3 push_parted
    rw[e1,e2]
    simp only[pffvo_S_term_to_b]
    rfl
  have e4:push_left_c4 t q=pushFilter (q.kids.getD 0 zeroRel) ((splitT t).filter fun p=>withinA p 0 (widthR (q.kids.getD 0 zeroRel))):=by
    unfold push_left_c4;rw[rel_eta,e3];rfl
  have e5:push_left_c5 t q=pushWith q [push_left_c4 t q,q.kids.getD 1 zeroRel]:=by
    unfold push_left_c5;rw[rel_eta,rel_eta,rel_eta];rfl
  rw[push_left_in]
  simp only[Term.ids_eq,Rel.ids_eq,pofvo_S_term_to_b,pffvo_S_term_to_b]
  rw[obO_pos (by omega),obO_pos h1,obO_pos trivial,e2,obO_pos (split_szs h1),e3,e5,e4,cndO_eq]
  unfold push_left
  by_cases h0 : ((splitT t).filter fun p=>withinA p 0 (widthR (q.kids.getD 0 zeroRel))).length=0
  · rw[if_pos (by simpa using h0),if_pos h0]
  · rw[if_neg (by simpa using h0),if_neg h0,obO_pos (by omega),obO_pos (by omega)]
    rfl
def F_push_left : FnC Un:=fun args=>match args with
  | [x0,x1]=>(dS .term x0).bind fun t=>(dS .rel x1).bind fun q=>some ([t.sz≤2000000,q.kids.length=2],A_push_left (push_left t q),O_push_left (push_left t q))
  | _=>none
theorem ok_push_left : FnOK 85 F_push_left:=by
  intro args ob rs os h hob
  unfold F_push_left at h
  split at h
  · simp only[Option.bind_eq_some_iff,Option.some.injEq,Prod.mk.injEq] at h
    obtain⟨t,e0,q,e1,rfl,rfl,rfl⟩:=h
    obtain rfl:=dS_eq e0
    obtain rfl:=dS_eq e1
    exact⟨fn_contractF (M:=M_push_left) rfl (tbl_ok (l1:=[(50,F_algebra_Width),(123,F_conj_Split),(124,F_push_parted),(121,F_push_filter),(131,F_push_with)]) (l2:=[]) (l3:=[(130,L_left1)]) (l4:=[]) (l5:=[]) ⟨ok_algebra_Width,ok_conj_Split,ok_push_parted,ok_push_filter,ok_push_with,trivial⟩ trivial ⟨okL_left1,trivial⟩ trivial trivial) Tryz.func85 (by kernel_rfl) N_push_left 0 [.d,.d] (fun hwf=>(push_left_spec t q (wfArg hwf (a:=.d (.agg (enc Ty.term t))) (List.mem_of_getElem? (i:=0) rfl)) (wfArg hwf (a:=.d (.agg (enc Ty.rel q))) (List.mem_of_getElem? (i:=1) rfl)) (hob _ (List.mem_of_getElem? (i:=0) rfl)) (hob _ (List.mem_of_getElem? (i:=1) rfl)))),hasBody_of Tryz.func85 (by kernel_rfl) (by kernel_rfl)⟩
  · simp at h
def M_push_formed : Mc Un:=mach (tbl []) (tbl []) (tbl []) (tbl []) (tbl [])
def A_push_formed (r:Bool) : List (A Un):=[.c (.s (.bool r))]
def O_push_formed (_r:Bool) : List (Ob Un):=[]
def R_push_formed (r:Bool) : RF Un:=(A_push_formed r,O_push_formed r)
def N_push_formed : Nat→NS:=fun l=>(look l []).getD ⟨[],[],[],[],[],true⟩
def push_formed_fn (q:Rel) : Option (RF Un):=awf M_push_formed N_push_formed (bodyOf Tryz.f27) (entry Tryz.f27.ntmps 0 [.d (.agg (enc Ty.rel q))]) (retF M_push_formed Tryz.f27.results.toList [.d])
theorem push_formed_in (q:Rel) : push_formed_fn q=cndO (q.op == 3) (cndO ((↑q.kids.length:Int) == (1:Int)) (some (R_push_formed ((↑q.terms.length:Int) == (1:Int)))) (some (R_push_formed (false)))) (cndO (q.op == 5) (some (R_push_formed ((↑q.kids.length:Int) == (2:Int)))) (cndO (q.op == 6) (some (R_push_formed ((↑q.kids.length:Int) == (2:Int)))) (cndO (q.op == 4) (some (R_push_formed ((↑q.kids.length:Int) == (1:Int)))) (cndO (q.op == 7) (some (R_push_formed ((↑q.kids.length:Int) == (1:Int)))) (some (R_push_formed (true))))))):=by kernel_rfl
def push_formed (q:Rel) : Bool:=formedR q
theorem push_formed_spec (q:Rel) (_hq:WS .rel q) : push_formed_fn q=some (R_push_formed (push_formed q)):=by
  have e:∀ (n:Nat) (z:Int),z=(n:Int)→∀ a : Nat,((a:Int) == z)=decide (a=n):=fun n z hz a=>by rw[Bool.eq_iff_iff,beq_iff_eq,decide_eq_true_eq];omega
  rw[push_formed_in]
  unfold push_formed formedR
  simp only[e 1 1 rfl,e 2 2 rfl]
  simp only[cndO_or]
  simp only[cndO_eq,Bool.or_eq_true,beq_iff_eq,decide_eq_true_eq]
  by_cases h3 : q.op=3
  · rw[if_pos h3,if_pos h3]
    by_cases h1 : q.kids.length=1
    · rw[if_pos h1]
      congr 2
      exact decide_eq_decide.2 ⟨fun h=>⟨h1,h⟩,fun h=>h.2⟩
    · rw[if_neg h1,decide_eq_false (fun h=>h1 h.1)]
  rw[if_neg h3,if_neg h3]
  by_cases h5 : q.op=5∨q.op=6
  · rw[if_pos h5,if_pos h5]
  rw[if_neg h5,if_neg h5]
  by_cases h4 : q.op=4∨q.op=7
  · rw[if_pos h4,if_pos h4]
  · rw[if_neg h4,if_neg h4]
def F_push_formed : FnC Un:=fun args=>match args with
  | [x0]=>(dS .rel x0).bind fun q=>some ([],A_push_formed (push_formed q),O_push_formed (push_formed q))
  | _=>none
theorem ok_push_formed : FnOK 27 F_push_formed:=by
  intro args ob rs os h hob
  unfold F_push_formed at h
  split at h
  · simp only[Option.bind_eq_some_iff,Option.some.injEq,Prod.mk.injEq] at h
    obtain⟨q,e0,rfl,rfl,rfl⟩:=h
    obtain rfl:=dS_eq e0
    exact⟨fn_contractF (M:=M_push_formed) rfl (tbl_ok (l1:=[]) (l2:=[]) (l3:=[]) (l4:=[]) (l5:=[]) trivial trivial trivial trivial trivial) Tryz.func27 (by kernel_rfl) N_push_formed 0 [.d] (fun hwf=>(push_formed_spec q (wfArg hwf (a:=.d (.agg (enc Ty.rel q))) (List.mem_of_getElem? (i:=0) rfl)))),hasBody_of Tryz.func27 (by kernel_rfl) (by kernel_rfl)⟩
  · simp at h
end
end Go.Proofs.YtolbngdhgcbmgaaGreat.B
namespace Go.Proofs.YtolbngdhgcbmgaaGreat.B
open Go Go.RowKit
set_option maxRecDepth 100000
noncomputable section
attribute [local irreducible] awp ctxK itersK iterK retQ retGQ awf ctxF loopF
def M_push_project : Mc Un:=mach (tbl [(132,F_push_plain),(133,F_push_put),(121,F_push_filter),(131,F_push_with)]) (tbl []) (tbl []) (tbl []) (tbl [])
def A_push_project (r:Rel×Bool) : List (A Un):=[.agg (encC Ty.rel r.1),.c (.s (.bool r.2))]
def O_push_project (_r:Rel×Bool) : List (Ob Un):=[]
def R_push_project (r:Rel×Bool) : RF Un:=(A_push_project r,O_push_project r)
def N_push_project : Nat→NS:=fun l=>(look l []).getD ⟨[],[],[],[],[],true⟩
def push_project_c1 (t:Term) (q:Rel):=push_put (Term.mk t.op t.v t.depth t.at_ t.name t.kids t.sub t.type) q.terms
def push_project_c2 (t:Term) (q:Rel):=push_filter (Rel.mk (Rel.op (q.kids.getD 0 zeroRel)) (Rel.table (q.kids.getD 0 zeroRel)) (Rel.cols (q.kids.getD 0 zeroRel)) (Rel.kids (q.kids.getD 0 zeroRel)) (Rel.terms (q.kids.getD 0 zeroRel)) (Rel.aggs (q.kids.getD 0 zeroRel)) (Rel.keys (q.kids.getD 0 zeroRel)) (Rel.limit (q.kids.getD 0 zeroRel)) (Rel.skip (q.kids.getD 0 zeroRel)) (Rel.all (q.kids.getD 0 zeroRel)) (Rel.rows (q.kids.getD 0 zeroRel))) [Term.mk (push_project_c1 t q).op (push_project_c1 t q).v (push_project_c1 t q).depth (push_project_c1 t q).at_ (push_project_c1 t q).name (push_project_c1 t q).kids (push_project_c1 t q).sub (push_project_c1 t q).type]
def push_project_fn (t:Term) (q:Rel) : Option (RF Un):=awf M_push_project N_push_project (bodyOf Tryz.f86) (entry Tryz.f86.ntmps 0 [.d (.agg (enc Ty.term t)),.d (.agg (enc Ty.rel q))]) (retF M_push_project Tryz.f86.results.toList [.d,.d])
theorem push_project_in (t:Term) (q:Rel) : push_project_fn t q=obO ((Term.ids t).sz≤(2000000:Nat)) (cndO (!push_plain (Term.ids t) q.terms) (some (R_push_project (zeroRel,false))) (obO ((0:Int)≤(0:Int)∧(0:Int)<(↑q.kids.length:Int)) (obO (putOK (Term.ids t) q.terms) (some (R_push_project (push_with (Rel.ids q) [(Rel.ids (push_project_c2 t q))],true)))))):=by kernel_rfl
mutual
theorem put_ok_of : ∀ (l:List Term) (t:Term) (n:Nat),(∀ x∈inT 0 t,0≤x∧x<(l.length:Int))→t.sz≤n→n≤1000000000→putT_ok l t
  | l,.mk op v depth at_ name kids sub type,n,h,hs,hn=>by
    simp only[Term.sz] at hs
    have hl:=szTs_len kids
    simp only[putT_ok]
    refine⟨fun h2 hd=>h at_ ?_,fun _=>⟨by omega,puts_ok_of l kids n (fun x hx=>h x ?_) (by omega) hn⟩⟩
    · simp only[inT,List.mem_append];exact .inl (.inl (by rw[if_pos ⟨h2,hd⟩];simp))
    · simp only[inT,List.mem_append];exact .inl (.inr hx)
theorem puts_ok_of : ∀ (l r:List Term) (n:Nat),(∀ x∈inTs 0 r,0≤x∧x<(l.length:Int))→szTs r≤n→n≤1000000000→putTs_ok l r
  | _,[],_,_,_,_=>trivial
  | l,t::r,n,h,hs,hn=>by
    simp only[szTs] at hs
    exact⟨put_ok_of l t n (fun x hx=>h x (by simp only[inTs,List.mem_append];exact .inl hx)) (by omega) hn,puts_ok_of l r n (fun x hx=>h x (by simp only[inTs,List.mem_append];exact .inr hx)) (by omega) hn⟩
end
theorem plain_put {t:Term} {l:List Term} (h:plainP t l=true) (hs:t.sz≤2000000) : putOK t l:=by
  unfold plainP at h
  simp only[Bool.and_eq_true,List.all_eq_true,decide_eq_true_eq] at h
  exact put_ok_of l t 2000000 (fun x hx=>(h.2 x ((riseI_mem _ _).2 hx)).1) hs (by omega)
def push_project (t:Term) (q:Rel) : Rel×Bool:=if plainP t q.terms=true then (pushWith q [pushFilter (q.kids.getD 0 zeroRel) [putT q.terms t]],true) else (zeroRel,false)
theorem push_project_spec (t:Term) (q:Rel) (_ht:WS .term t) (_hq:WS .rel q) (h1:t.sz≤2000000) (h2:q.kids.length=1) : push_project_fn t q=some (R_push_project (push_project t q)):=by
  have e1:push_project_c1 t q=putT q.terms t:=by unfold push_project_c1;rw[term_eta];rfl
  have e2:push_project_c2 t q=pushFilter (q.kids.getD 0 zeroRel) [putT q.terms t]:=by unfold push_project_c2;rw[rel_eta];simp only[Term.ids_eq,e1,term_eta];rfl
  rw[push_project_in]
  simp only[Term.ids_eq,Rel.ids_eq]
  rw[obO_pos h1,e2,cndO_eq]
  unfold push_project
  have e3:push_plain t q.terms=plainP t q.terms:=rfl
  rw[e3]
  by_cases hp : plainP t q.terms=true
  · rw[if_neg (by rw[hp];decide),if_pos hp,obO_pos (by omega),obO_pos (plain_put hp h1)]
    rfl
  · rw[if_pos (by simpa using hp),if_neg hp]
def F_push_project : FnC Un:=fun args=>match args with
  | [x0,x1]=>(dS .term x0).bind fun t=>(dS .rel x1).bind fun q=>some ([t.sz≤2000000,q.kids.length=1],A_push_project (push_project t q),O_push_project (push_project t q))
  | _=>none
theorem ok_push_project : FnOK 86 F_push_project:=by
  intro args ob rs os h hob
  unfold F_push_project at h
  split at h
  · simp only[Option.bind_eq_some_iff,Option.some.injEq,Prod.mk.injEq] at h
    obtain⟨t,e0,q,e1,rfl,rfl,rfl⟩:=h
    obtain rfl:=dS_eq e0
    obtain rfl:=dS_eq e1
    exact⟨fn_contractF (M:=M_push_project) rfl (tbl_ok (l1:=[(132,F_push_plain),(133,F_push_put),(121,F_push_filter),(131,F_push_with)]) (l2:=[]) (l3:=[]) (l4:=[]) (l5:=[]) ⟨ok_push_plain,ok_push_put,ok_push_filter,ok_push_with,trivial⟩ trivial trivial trivial trivial) Tryz.func86 (by kernel_rfl) N_push_project 0 [.d,.d] (fun hwf=>(push_project_spec t q (wfArg hwf (a:=.d (.agg (enc Ty.term t))) (List.mem_of_getElem? (i:=0) rfl)) (wfArg hwf (a:=.d (.agg (enc Ty.rel q))) (List.mem_of_getElem? (i:=1) rfl)) (hob _ (List.mem_of_getElem? (i:=0) rfl)) (hob _ (List.mem_of_getElem? (i:=1) rfl)))),hasBody_of Tryz.func86 (by kernel_rfl) (by kernel_rfl)⟩
  · simp at h
def M_push_through : Mc Un:=mach (tbl [(121,F_push_filter),(131,F_push_with)]) (tbl []) (tbl []) (tbl []) (tbl [])
def A_push_through (r:Rel×Bool) : List (A Un):=[.agg (encC Ty.rel r.1),.c (.s (.bool r.2))]
def O_push_through (_r:Rel×Bool) : List (Ob Un):=[]
def R_push_through (r:Rel×Bool) : RF Un:=(A_push_through r,O_push_through r)
def N_push_through : Nat→NS:=fun l=>(look l [(3,{ ts:=bl 27 7260,bs:=bl 27 28,nm:=[(.sl 6,108)],cs:=true })]).getD ⟨[],[],[],[],[],true⟩
def push_through_c1 (t:Term) (q:Rel) (v0:Int):=push_filter (Rel.mk (Rel.op (q.kids.getD v0.toNat zeroRel)) (Rel.table (q.kids.getD v0.toNat zeroRel)) (Rel.cols (q.kids.getD v0.toNat zeroRel)) (Rel.kids (q.kids.getD v0.toNat zeroRel)) (Rel.terms (q.kids.getD v0.toNat zeroRel)) (Rel.aggs (q.kids.getD v0.toNat zeroRel)) (Rel.keys (q.kids.getD v0.toNat zeroRel)) (Rel.limit (q.kids.getD v0.toNat zeroRel)) (Rel.skip (q.kids.getD v0.toNat zeroRel)) (Rel.all (q.kids.getD v0.toNat zeroRel)) (Rel.rows (q.kids.getD v0.toNat zeroRel))) [Term.mk t.op t.v t.depth t.at_ t.name t.kids t.sub t.type]
def push_through_s3 (t:Term) (q:Rel) (v0:Int) (v1:List Rel) : S Un:=(st 27 27 109 0 [(2,ax 2),(3,ax 3),(4,ax 4),(6,ao 108),(10,al .rel q.kids),(11,ai (↑q.kids.length:Int)),(12,ai v0)] [(2,bg .term t),(3,bg .rel q),(4,some (false,[C.s (Value.int IntKind.i64 (0:Int)),C.s (Value.string (ByteArray.mk #[])),C.sl Ty.col [] true,C.sl Ty.rel [] true,C.sl Ty.term [] true,C.sl Ty.agg [] true,C.sl Ty.by_ [] true,C.s (Value.int IntKind.i64 (0:Int)),C.s (Value.int IntKind.i64 (0:Int)),C.s (Value.bool false),C.sl Ty.row [] true]))] [(108,some ⟨(0:Nat),Ty.rel,v1,some (0:Nat),true⟩)])
def push_through_B3 : Code:=sub (bodyOf Tryz.f87) [1,1,0,1,2,2]
def push_through_L3 : S Un→Option (EX Un):=loopF (N_push_through 3) (fun s Q=>awf M_push_through N_push_through push_through_B3 s Q)
def push_through_C3 : Exit→S Un→Option (RF Un):=ctxF M_push_through N_push_through (bodyOf Tryz.f87) [1,1,0,1,2] (retF M_push_through Tryz.f87.results.toList [.d,.d])
def push_through_fn (t:Term) (q:Rel) : Option (RF Un):=awf M_push_through N_push_through (bodyOf Tryz.f87) (entry Tryz.f87.ntmps 1 [.d (.agg (enc Ty.term t)),.d (.agg (enc Ty.rel q))]) (retF M_push_through Tryz.f87.results.toList [.d,.d])
theorem push_through_in (t:Term) (q:Rel) : push_through_fn t q=(push_through_L3 (push_through_s3 t q (0:Int) ([]))).bind (thenX push_through_C3):=by kernel_rfl
theorem push_through_l3 (t:Term) (q:Rel) (v0:Int) (v1:List Rel) : push_through_L3 (push_through_s3 t q v0 v1)=cndO (decide (v0<(↑q.kids.length:Int))) (obO (0≤v0∧v0<(↑q.kids.length:Int)) (obO ((v1.length+[(Rel.ids (push_through_c1 t q v0))].length)*(192:Nat)≤roomB) (push_through_L3 (push_through_s3 t q (IntKind.i64.wrap (v0+1)) (v1++[(Rel.ids (push_through_c1 t q v0))]))))) (some (.exit 0,(push_through_s3 t q v0 v1))):=(loopF_eq (N_push_through 3) push_through_B3 _).trans (by kernel_rfl)
theorem push_through_a3_x0 (t:Term) (q:Rel) (v0:Int) (v1:List Rel) : push_through_C3 (.exit 0) (push_through_s3 t q v0 v1)=some (R_push_through (push_with (Rel.ids q) v1,true)):=by kernel_rfl
def push_through (t:Term) (q:Rel) : Rel×Bool:=(pushWith q (q.kids.map fun x=>pushFilter x [t]),true)
theorem push_through_spec (t:Term) (q:Rel) (_ht:WS .term t) (_hq:WS .rel q) (h:q.kids.length≤2000000) : push_through_fn t q=some (R_push_through (push_through t q)):=by
  have hk:WL .rel q.kids:=_hq.rel_kids
  obtain⟨lp,_⟩:=loop_fold (e:=.exit 0) (L:=push_through_L3) (st:=fun (s:List Rel) i=>push_through_s3 t q i s) (l:=q.kids) (d:=zeroRel) (g:=fun s x=>s++[pushFilter x [t]]) (fun i s=>s.length=i) hk.len
    (fun s i x hi hx hI=>by
      have hI':s.length=i:=hI
      have e1:push_through_c1 t q (i:Int)=pushFilter x [t]:=by
        unfold push_through_c1
        rw[Int.toNat_natCast,hx,rel_eta]
        try simp only[Term.ids_eq,term_eta]
        all_goals rfl
      refine⟨by show (s++[_]).length=i+1;rw[List.length_append,List.length_singleton];omega,?_⟩
      rw[push_through_l3]
      simp only[cndO_eq,hi,decide_true,if_true,and_true,e1,Rel.ids_eq]
      rw[obO_pos (by omega),obO_pos (by unfold roomB;rw[List.length_singleton];omega)])
    (fun s _=>by rw[push_through_l3];simp [cndO_eq]) [] rfl
  have hm:∀ (l:List Rel) (s:List Rel),l.foldl (fun s x=>s++[pushFilter x [t]]) s=s++l.map fun x=>pushFilter x [t]:=by
    intro l
    induction l with
    | nil=>intro s;simp
    | cons x l ih=>intro s;rw[List.foldl_cons,ih];simp
  rw[hm,List.nil_append] at lp
  rw[push_through_in]
  refine (loop_end lp).trans ?_
  rw[push_through_a3_x0]
  simp only[Rel.ids_eq]
  rfl
def F_push_through : FnC Un:=fun args=>match args with
  | [x0,x1]=>(dS .term x0).bind fun t=>(dS .rel x1).bind fun q=>some ([q.kids.length≤2000000],A_push_through (push_through t q),O_push_through (push_through t q))
  | _=>none
theorem ok_push_through : FnOK 87 F_push_through:=by
  intro args ob rs os h hob
  unfold F_push_through at h
  split at h
  · simp only[Option.bind_eq_some_iff,Option.some.injEq,Prod.mk.injEq] at h
    obtain⟨t,e0,q,e1,rfl,rfl,rfl⟩:=h
    obtain rfl:=dS_eq e0
    obtain rfl:=dS_eq e1
    exact⟨fn_contractF (M:=M_push_through) rfl (tbl_ok (l1:=[(121,F_push_filter),(131,F_push_with)]) (l2:=[]) (l3:=[]) (l4:=[]) (l5:=[]) ⟨ok_push_filter,ok_push_with,trivial⟩ trivial trivial trivial trivial) Tryz.func87 (by kernel_rfl) N_push_through 1 [.d,.d] (fun hwf=>(push_through_spec t q (wfArg hwf (a:=.d (.agg (enc Ty.term t))) (List.mem_of_getElem? (i:=0) rfl)) (wfArg hwf (a:=.d (.agg (enc Ty.rel q))) (List.mem_of_getElem? (i:=1) rfl)) (hob _ (List.mem_of_getElem? (i:=0) rfl)))),hasBody_of Tryz.func87 (by kernel_rfl) (by kernel_rfl)⟩
  · simp at h
end
end Go.Proofs.YtolbngdhgcbmgaaGreat.B
namespace Go.Proofs.YtolbngdhgcbmgaaGreat.B
open Go Go.RowKit
set_option maxRecDepth 100000
noncomputable section
attribute [local irreducible] awp ctxK itersK iterK retQ retGQ awf ctxF loopF
def M_join1 : Mc Un:=mach (tbl [(126,F_conj_Within)]) (tbl []) (tbl []) (tbl []) (tbl [])
def A_join1 (r:Bool) : List (A Un):=[.c (.s (.bool r))]
def O_join1 (_r:Bool) : List (Ob Un):=[]
def R_join1 (r:Bool) : RF Un:=(A_join1 r,O_join1 r)
def N_join1 : Nat→NS:=fun l=>(look l []).getD ⟨[],[],[],[],[],true⟩
def join1_fn (p:Term) (c0:Int) : Option (RF Un):=awf M_join1 N_join1 (bodyOf Tryz.f125) (entry Tryz.f125.ntmps 0 [.d (.agg (enc Ty.term p)),.box [.v (.s (.int .i64 c0))]]) (retF M_join1 Tryz.f125.results.toList [.d])
theorem join1_in (p:Term) (c0:Int) : join1_fn p c0=obO ((Term.ids p).sz≤(2000000:Nat)) (some (R_join1 (conj_Within (Term.ids p) (0:Int) c0))):=by kernel_rfl
def join1 (p:Term) (n:Int) : Bool:=withinA p 0 n
theorem join1_spec (p:Term) (n:Int) (_hp:WS .term p) (_hn:WI n) (h:p.sz≤2000000) : join1_fn p n=some (R_join1 (join1 p n)):=by
  rw[join1_in,Term.ids_eq,obO_pos h,conj_Within_eq];rfl
def L_join1 : List (List (DC Un))→Option (FV Un):=fun dl=>match dl with
  | [b0]=>(bI .i64 b0).bind fun c0=>some (fvo_S_term_to_b (fun p=>p.sz≤2000000) (fun p=>join1 p c0))
  | _=>none
theorem okL_join1 : ClOK 125 L_join1:=by
  refine⟨hasBody_of Tryz.func125 (by kernel_rfl) (by kernel_rfl),fun dl φ args ob rs hF hφ hob=>?_⟩
  unfold L_join1 at hF
  split at hF
  · simp only[Option.bind_eq_some_iff,Option.some.injEq] at hF
    obtain⟨c0,g0,hE⟩:=hF
    subst hE
    obtain rfl:=bI_eq g0
    unfold fvo_S_term_to_b at hφ
    split at hφ
    · simp only[Option.bind_eq_some_iff,Option.some.injEq,Prod.mk.injEq] at hφ
      obtain⟨p,e0,rfl,rfl⟩:=hφ
      simp only[List.map_cons,List.map_nil,List.cons_append,List.nil_append]
      rw[dS_eq e0]
      exact Contract.data (fn_contractF (M:=M_join1) rfl (tbl_ok (l1:=[(126,F_conj_Within)]) (l2:=[]) (l3:=[]) (l4:=[]) (l5:=[]) ⟨ok_conj_Within,trivial⟩ trivial trivial trivial trivial) Tryz.func125 (by kernel_rfl) N_join1 0 [.d] (fun hwf=>(join1_spec p c0 (wfArg hwf (a:=.d (.agg (enc Ty.term p))) (List.mem_of_getElem? (i:=0) rfl)) (wfArg hwf (a:=.box [.v (.s (.int .i64 c0))]) (List.mem_of_getElem? (i:=1) rfl)) (hob _ (List.mem_of_getElem? (i:=0) rfl)))))
    · simp at hφ
  · simp at hF
def M_join2 : Mc Un:=mach (tbl [(126,F_conj_Within)]) (tbl []) (tbl []) (tbl []) (tbl [])
def A_join2 (r:Bool) : List (A Un):=[.c (.s (.bool r))]
def O_join2 (_r:Bool) : List (Ob Un):=[]
def R_join2 (r:Bool) : RF Un:=(A_join2 r,O_join2 r)
def N_join2 : Nat→NS:=fun l=>(look l []).getD ⟨[],[],[],[],[],true⟩
def join2_fn (p:Term) (c0:Int) (c1:Int) : Option (RF Un):=awf M_join2 N_join2 (bodyOf Tryz.f127) (entry Tryz.f127.ntmps 0 [.d (.agg (enc Ty.term p)),.box [.v (.s (.int .i64 c0))],.box [.v (.s (.int .i64 c1))]]) (retF M_join2 Tryz.f127.results.toList [.d])
theorem join2_in (p:Term) (c0:Int) (c1:Int) : join2_fn p c0 c1=obO ((Term.ids p).sz≤(2000000:Nat)) (some (R_join2 (conj_Within (Term.ids p) c0 c1))):=by kernel_rfl
def join2 (p:Term) (n m:Int) : Bool:=withinA p n m
theorem join2_spec (p:Term) (n m:Int) (_hp:WS .term p) (_hn:WI n) (_hm:WI m) (h:p.sz≤2000000) : join2_fn p n m=some (R_join2 (join2 p n m)):=by
  rw[join2_in,Term.ids_eq,obO_pos h,conj_Within_eq];rfl
def L_join2 : List (List (DC Un))→Option (FV Un):=fun dl=>match dl with
  | [b0,b1]=>(bI .i64 b0).bind fun c0=>(bI .i64 b1).bind fun c1=>some (fvo_S_term_to_b (fun p=>p.sz≤2000000) (fun p=>join2 p c0 c1))
  | _=>none
theorem okL_join2 : ClOK 127 L_join2:=by
  refine⟨hasBody_of Tryz.func127 (by kernel_rfl) (by kernel_rfl),fun dl φ args ob rs hF hφ hob=>?_⟩
  unfold L_join2 at hF
  split at hF
  · simp only[Option.bind_eq_some_iff,Option.some.injEq] at hF
    obtain⟨c0,g0,c1,g1,hE⟩:=hF
    subst hE
    obtain rfl:=bI_eq g0
    obtain rfl:=bI_eq g1
    unfold fvo_S_term_to_b at hφ
    split at hφ
    · simp only[Option.bind_eq_some_iff,Option.some.injEq,Prod.mk.injEq] at hφ
      obtain⟨p,e0,rfl,rfl⟩:=hφ
      simp only[List.map_cons,List.map_nil,List.cons_append,List.nil_append]
      rw[dS_eq e0]
      exact Contract.data (fn_contractF (M:=M_join2) rfl (tbl_ok (l1:=[(126,F_conj_Within)]) (l2:=[]) (l3:=[]) (l4:=[]) (l5:=[]) ⟨ok_conj_Within,trivial⟩ trivial trivial trivial trivial) Tryz.func127 (by kernel_rfl) N_join2 0 [.d] (fun hwf=>(join2_spec p c0 c1 (wfArg hwf (a:=.d (.agg (enc Ty.term p))) (List.mem_of_getElem? (i:=0) rfl)) (wfArg hwf (a:=.box [.v (.s (.int .i64 c0))]) (List.mem_of_getElem? (i:=1) rfl)) (wfArg hwf (a:=.box [.v (.s (.int .i64 c1))]) (List.mem_of_getElem? (i:=2) rfl)) (hob _ (List.mem_of_getElem? (i:=0) rfl)))))
    · simp at hφ
  · simp at hF
def M_push_join : Mc Un:=mach (tbl [(50,F_algebra_Width),(123,F_conj_Split),(124,F_push_parted),(128,F_push_down),(121,F_push_filter),(129,F_conj_Join)]) (tbl []) (tbl [(125,L_join1),(127,L_join2)]) (tbl []) (tbl [])
def A_push_join (r:Rel×Bool) : List (A Un):=[.agg (encC Ty.rel r.1),.c (.s (.bool r.2))]
def O_push_join (_r:Rel×Bool) : List (Ob Un):=[]
def R_push_join (r:Rel×Bool) : RF Un:=(A_push_join r,O_push_join r)
def N_push_join : Nat→NS:=fun l=>(look l [(7,{ ts:=bl 90 105553116280792,bs:=bl 90 984,nm:=[(.sl 10,360),(.sl 12,361),(.sl 13,362)],cs:=true })]).getD ⟨[],[],[],[],[],true⟩
def push_join_c1 (q:Rel):=algebra_Width (Rel.mk (Rel.op (q.kids.getD 0 zeroRel)) (Rel.table (q.kids.getD 0 zeroRel)) (Rel.cols (q.kids.getD 0 zeroRel)) (Rel.kids (q.kids.getD 0 zeroRel)) (Rel.terms (q.kids.getD 0 zeroRel)) (Rel.aggs (q.kids.getD 0 zeroRel)) (Rel.keys (q.kids.getD 0 zeroRel)) (Rel.limit (q.kids.getD 0 zeroRel)) (Rel.skip (q.kids.getD 0 zeroRel)) (Rel.all (q.kids.getD 0 zeroRel)) (Rel.rows (q.kids.getD 0 zeroRel)))
def push_join_c2 (t:Term):=conj_Split (Term.mk t.op t.v t.depth t.at_ t.name t.kids t.sub t.type)
def push_join_c3 (q:Rel) (v1:List Term):=push_filter (Rel.mk (Rel.op (q.kids.getD 1 zeroRel)) (Rel.table (q.kids.getD 1 zeroRel)) (Rel.cols (q.kids.getD 1 zeroRel)) (Rel.kids (q.kids.getD 1 zeroRel)) (Rel.terms (q.kids.getD 1 zeroRel)) (Rel.aggs (q.kids.getD 1 zeroRel)) (Rel.keys (q.kids.getD 1 zeroRel)) (Rel.limit (q.kids.getD 1 zeroRel)) (Rel.skip (q.kids.getD 1 zeroRel)) (Rel.all (q.kids.getD 1 zeroRel)) (Rel.rows (q.kids.getD 1 zeroRel))) v1
def push_join_c4 (t:Term) (q:Rel):=push_parted (push_join_c2 t) (po_S_term_to_b (fvo_S_term_to_b (fun p=>p.sz≤(2000000:Nat)) fun p=>join1 p (push_join_c1 q))) (pf_S_term_to_b (fvo_S_term_to_b (fun p=>p.sz≤(2000000:Nat)) fun p=>join1 p (push_join_c1 q)))
def push_join_c5 (t:Term) (q:Rel):=push_filter (Rel.mk (Rel.op (q.kids.getD 0 zeroRel)) (Rel.table (q.kids.getD 0 zeroRel)) (Rel.cols (q.kids.getD 0 zeroRel)) (Rel.kids (q.kids.getD 0 zeroRel)) (Rel.terms (q.kids.getD 0 zeroRel)) (Rel.aggs (q.kids.getD 0 zeroRel)) (Rel.keys (q.kids.getD 0 zeroRel)) (Rel.limit (q.kids.getD 0 zeroRel)) (Rel.skip (q.kids.getD 0 zeroRel)) (Rel.all (q.kids.getD 0 zeroRel)) (Rel.rows (q.kids.getD 0 zeroRel))) (push_join_c4 t q).fst
def push_join_s7 (t:Term) (q:Rel) (v0:Int) (v1:List Term) : S Un:=(st 90 90 363 0 [(3,ax 3),(4,ax 4),(6,ax 6),(7,ax 7),(8,ax 8),(9,ax 9),(10,ao 360),(12,ao 361),(13,ao 362),(45,ai (↑(push_parted (push_join_c4 t q).snd (po_S_term_to_b (fvo_S_term_to_b (fun p=>p.sz≤(2000000:Nat)) fun p=>join2 p (push_join_c1 q) (IntKind.i64.wrap (algebra_Width (Rel.ids (q.kids.getD 0 zeroRel))+algebra_Width (Rel.ids (q.kids.getD 1 zeroRel)))))) (pf_S_term_to_b (fvo_S_term_to_b (fun p=>p.sz≤(2000000:Nat)) fun p=>join2 p (push_join_c1 q) (IntKind.i64.wrap (algebra_Width (Rel.ids (q.kids.getD 0 zeroRel))+algebra_Width (Rel.ids (q.kids.getD 1 zeroRel))))))).fst.length:Int)),(46,ai v0)] [(3,bg .rel q),(4,some (false,[C.s (Value.int IntKind.i64 (0:Int)),C.s (Value.string (ByteArray.mk #[])),C.sl Ty.col [] true,C.sl Ty.rel [] true,C.sl Ty.term [] true,C.sl Ty.agg [] true,C.sl Ty.by_ [] true,C.s (Value.int IntKind.i64 (0:Int)),C.s (Value.int IntKind.i64 (0:Int)),C.s (Value.bool false),C.sl Ty.row [] true])),(6,some (false,encC Ty.rel (q.kids.getD 0 zeroRel))),(7,some (false,encC Ty.rel (q.kids.getD 1 zeroRel))),(8,some (true,[C.s (Value.int IntKind.i64 (push_join_c1 q))])),(9,some (true,[C.s (Value.int IntKind.i64 (IntKind.i64.wrap (algebra_Width (Rel.ids (q.kids.getD 0 zeroRel))+algebra_Width (Rel.ids (q.kids.getD 1 zeroRel)))))]))] [(360,some ⟨(0:Nat),Ty.term,(push_join_c4 t q).fst,some (0:Nat),true⟩),(361,some ⟨(0:Nat),Ty.term,v1,some (0:Nat),true⟩),(362,some ⟨(0:Nat),Ty.term,(push_parted (push_join_c4 t q).snd (po_S_term_to_b (fvo_S_term_to_b (fun p=>p.sz≤(2000000:Nat)) fun p=>join2 p (push_join_c1 q) (IntKind.i64.wrap (algebra_Width (Rel.ids (q.kids.getD 0 zeroRel))+algebra_Width (Rel.ids (q.kids.getD 1 zeroRel)))))) (pf_S_term_to_b (fvo_S_term_to_b (fun p=>p.sz≤(2000000:Nat)) fun p=>join2 p (push_join_c1 q) (IntKind.i64.wrap (algebra_Width (Rel.ids (q.kids.getD 0 zeroRel))+algebra_Width (Rel.ids (q.kids.getD 1 zeroRel))))))).snd,some (0:Nat),true⟩)])
def push_join_B7 : Code:=sub (bodyOf Tryz.f84) [1,1,1,1,1,1,0,1,2,2]
def push_join_L7 : S Un→Option (EX Un):=loopF (N_push_join 7) (fun s Q=>awf M_push_join N_push_join push_join_B7 s Q)
def push_join_C7 : Exit→S Un→Option (RF Un):=ctxF M_push_join N_push_join (bodyOf Tryz.f84) [1,1,1,1,1,1,0,1,2] (retF M_push_join Tryz.f84.results.toList [.d,.d])
def push_join_fn (t:Term) (q:Rel) : Option (RF Un):=awf M_push_join N_push_join (bodyOf Tryz.f84) (entry Tryz.f84.ntmps 3 [.d (.agg (enc Ty.term t)),.d (.agg (enc Ty.rel q))]) (retF M_push_join Tryz.f84.results.toList [.d,.d])
theorem push_join_in (t:Term) (q:Rel) : push_join_fn t q=obO ((0:Int)≤(0:Int)∧(0:Int)<(↑q.kids.length:Int)) (obO ((0:Int)≤(1:Int)∧(1:Int)<(↑q.kids.length:Int)) (obO ((Term.ids t).sz≤(2000000:Nat)) (obO ((fvo_S_term_to_b (fun p=>p.sz≤(2000000:Nat)) fun p=>join1 p (push_join_c1 q))=fvo_S_term_to_b (po_S_term_to_b (fvo_S_term_to_b (fun p=>p.sz≤(2000000:Nat)) fun p=>join1 p (push_join_c1 q))) (pf_S_term_to_b (fvo_S_term_to_b (fun p=>p.sz≤(2000000:Nat)) fun p=>join1 p (push_join_c1 q)))) (obO (allOT (po_S_term_to_b (fvo_S_term_to_b (fun p=>p.sz≤(2000000:Nat)) fun p=>join1 p (push_join_c1 q))) (push_join_c2 t)) (obO ((fvo_S_term_to_b (fun p=>p.sz≤(2000000:Nat)) fun p=>join2 p (push_join_c1 q) (IntKind.i64.wrap (algebra_Width (Rel.ids (q.kids.getD 0 zeroRel))+algebra_Width (Rel.ids (q.kids.getD 1 zeroRel)))))=fvo_S_term_to_b (po_S_term_to_b (fvo_S_term_to_b (fun p=>p.sz≤(2000000:Nat)) fun p=>join2 p (push_join_c1 q) (IntKind.i64.wrap (algebra_Width (Rel.ids (q.kids.getD 0 zeroRel))+algebra_Width (Rel.ids (q.kids.getD 1 zeroRel)))))) (pf_S_term_to_b (fvo_S_term_to_b (fun p=>p.sz≤(2000000:Nat)) fun p=>join2 p (push_join_c1 q) (IntKind.i64.wrap (algebra_Width (Rel.ids (q.kids.getD 0 zeroRel))+algebra_Width (Rel.ids (q.kids.getD 1 zeroRel))))))) (obO (allOT (po_S_term_to_b (fvo_S_term_to_b (fun p=>p.sz≤(2000000:Nat)) fun p=>join2 p (push_join_c1 q) (IntKind.i64.wrap (algebra_Width (Rel.ids (q.kids.getD 0 zeroRel))+algebra_Width (Rel.ids (q.kids.getD 1 zeroRel)))))) (push_join_c4 t q).snd) ((push_join_L7 (push_join_s7 t q (0:Int) ((push_parted (push_join_c4 t q).snd (po_S_term_to_b (fvo_S_term_to_b (fun p=>p.sz≤(2000000:Nat)) fun p=>join2 p (push_join_c1 q) (IntKind.i64.wrap (algebra_Width (Rel.ids (q.kids.getD 0 zeroRel))+algebra_Width (Rel.ids (q.kids.getD 1 zeroRel)))))) (pf_S_term_to_b (fvo_S_term_to_b (fun p=>p.sz≤(2000000:Nat)) fun p=>join2 p (push_join_c1 q) (IntKind.i64.wrap (algebra_Width (Rel.ids (q.kids.getD 0 zeroRel))+algebra_Width (Rel.ids (q.kids.getD 1 zeroRel))))))).fst))).bind (thenX push_join_C7)))))))):=by kernel_rfl
theorem push_join_l7 (t:Term) (q:Rel) (v0:Int) (v1:List Term) : push_join_L7 (push_join_s7 t q v0 v1)=cndO (decide (v0<(↑(push_parted (push_join_c4 t q).snd (po_S_term_to_b (fvo_S_term_to_b (fun p=>p.sz≤(2000000:Nat)) fun p=>join2 p (push_join_c1 q) (IntKind.i64.wrap (algebra_Width (Rel.ids (q.kids.getD 0 zeroRel))+algebra_Width (Rel.ids (q.kids.getD 1 zeroRel)))))) (pf_S_term_to_b (fvo_S_term_to_b (fun p=>p.sz≤(2000000:Nat)) fun p=>join2 p (push_join_c1 q) (IntKind.i64.wrap (algebra_Width (Rel.ids (q.kids.getD 0 zeroRel))+algebra_Width (Rel.ids (q.kids.getD 1 zeroRel))))))).fst.length:Int))) (obO (0≤v0∧v0<(↑v1.length:Int)) (obO ((Term.ids (v1.getD v0.toNat zeroTerm)).sz≤(2000000:Nat)) (obO (0≤IntKind.i64.wrap (algebra_Width (Rel.ids (q.kids.getD 0 zeroRel))+algebra_Width (Rel.ids (q.kids.getD 1 zeroRel)))∧IntKind.i64.wrap (algebra_Width (Rel.ids (q.kids.getD 0 zeroRel))+algebra_Width (Rel.ids (q.kids.getD 1 zeroRel)))≤2000000) (obO (0≤v0∧v0<(↑v1.length:Int)) (obO ((0:Nat)≤v0.toNat) (push_join_L7 (push_join_s7 t q (IntKind.i64.wrap (v0+1)) (v1.set v0.toNat (Term.ids (push_down (Term.ids (v1.getD v0.toNat zeroTerm)) (push_join_c1 q) (IntKind.i64.wrap (algebra_Width (Rel.ids (q.kids.getD 0 zeroRel))+algebra_Width (Rel.ids (q.kids.getD 1 zeroRel)))))))))))))) (some (.exit 0,(push_join_s7 t q v0 v1))):=(loopF_eq (N_push_join 7) push_join_B7 _).trans (by kernel_rfl)
theorem push_join_a7_x0 (t:Term) (q:Rel) (v0:Int) (v1:List Term) : push_join_C7 (.exit 0) (push_join_s7 t q v0 v1)=cndO (decide ((↑q.terms.length:Int) > (0:Int))) (obO ((0:Int)≤(0:Int)∧(0:Int)<(↑q.terms.length:Int)) (obO ((Term.ids (q.terms.getD 0 zeroTerm)).sz≤(2000000:Nat)) (obO (((conj_Split (Term.ids (q.terms.getD 0 zeroTerm))).length+(push_parted (push_join_c4 t q).snd (po_S_term_to_b (fvo_S_term_to_b (fun p=>p.sz≤(2000000:Nat)) fun p=>join2 p (push_join_c1 q) (IntKind.i64.wrap (algebra_Width (Rel.ids (q.kids.getD 0 zeroRel))+algebra_Width (Rel.ids (q.kids.getD 1 zeroRel)))))) (pf_S_term_to_b (fvo_S_term_to_b (fun p=>p.sz≤(2000000:Nat)) fun p=>join2 p (push_join_c1 q) (IntKind.i64.wrap (algebra_Width (Rel.ids (q.kids.getD 0 zeroRel))+algebra_Width (Rel.ids (q.kids.getD 1 zeroRel))))))).snd.length)*(128:Nat)≤roomB) (cndO (decide ((↑(conj_Split (Term.ids (q.terms.getD 0 zeroTerm))++(push_parted (push_join_c4 t q).snd (po_S_term_to_b (fvo_S_term_to_b (fun p=>p.sz≤(2000000:Nat)) fun p=>join2 p (push_join_c1 q) (IntKind.i64.wrap (algebra_Width (Rel.ids (q.kids.getD 0 zeroRel))+algebra_Width (Rel.ids (q.kids.getD 1 zeroRel)))))) (pf_S_term_to_b (fvo_S_term_to_b (fun p=>p.sz≤(2000000:Nat)) fun p=>join2 p (push_join_c1 q) (IntKind.i64.wrap (algebra_Width (Rel.ids (q.kids.getD 0 zeroRel))+algebra_Width (Rel.ids (q.kids.getD 1 zeroRel))))))).snd).length:Int) > (0:Int))) (some (R_push_join (Rel.mk (5:Int) (ByteArray.mk #[]) q.cols [(Rel.ids (push_join_c5 t q)),(Rel.ids (push_join_c3 q v1))] [(Term.ids (conj_Join (conj_Split (Term.ids (q.terms.getD 0 zeroTerm))++(push_parted (push_join_c4 t q).snd (po_S_term_to_b (fvo_S_term_to_b (fun p=>p.sz≤(2000000:Nat)) fun p=>join2 p (push_join_c1 q) (IntKind.i64.wrap (algebra_Width (Rel.ids (q.kids.getD 0 zeroRel))+algebra_Width (Rel.ids (q.kids.getD 1 zeroRel)))))) (pf_S_term_to_b (fvo_S_term_to_b (fun p=>p.sz≤(2000000:Nat)) fun p=>join2 p (push_join_c1 q) (IntKind.i64.wrap (algebra_Width (Rel.ids (q.kids.getD 0 zeroRel))+algebra_Width (Rel.ids (q.kids.getD 1 zeroRel))))))).snd)))] [] [] (0:Int) (0:Int) false [],true))) (some (R_push_join (Rel.mk (5:Int) (ByteArray.mk #[]) q.cols [(Rel.ids (push_join_c5 t q)),(Rel.ids (push_join_c3 q v1))] [] [] [] (0:Int) (0:Int) false [],true))))))) (obO ((0+(push_parted (push_join_c4 t q).snd (po_S_term_to_b (fvo_S_term_to_b (fun p=>p.sz≤(2000000:Nat)) fun p=>join2 p (push_join_c1 q) (IntKind.i64.wrap (algebra_Width (Rel.ids (q.kids.getD 0 zeroRel))+algebra_Width (Rel.ids (q.kids.getD 1 zeroRel)))))) (pf_S_term_to_b (fvo_S_term_to_b (fun p=>p.sz≤(2000000:Nat)) fun p=>join2 p (push_join_c1 q) (IntKind.i64.wrap (algebra_Width (Rel.ids (q.kids.getD 0 zeroRel))+algebra_Width (Rel.ids (q.kids.getD 1 zeroRel))))))).snd.length)*(128:Nat)≤roomB) (cndO (decide ((↑((push_parted (push_join_c4 t q).snd (po_S_term_to_b (fvo_S_term_to_b (fun p=>p.sz≤(2000000:Nat)) fun p=>join2 p (push_join_c1 q) (IntKind.i64.wrap (algebra_Width (Rel.ids (q.kids.getD 0 zeroRel))+algebra_Width (Rel.ids (q.kids.getD 1 zeroRel)))))) (pf_S_term_to_b (fvo_S_term_to_b (fun p=>p.sz≤(2000000:Nat)) fun p=>join2 p (push_join_c1 q) (IntKind.i64.wrap (algebra_Width (Rel.ids (q.kids.getD 0 zeroRel))+algebra_Width (Rel.ids (q.kids.getD 1 zeroRel))))))).snd).length:Int) > (0:Int))) (some (R_push_join (Rel.mk (5:Int) (ByteArray.mk #[]) q.cols [(Rel.ids (push_join_c5 t q)),(Rel.ids (push_join_c3 q v1))] [(Term.ids (conj_Join ((push_parted (push_join_c4 t q).snd (po_S_term_to_b (fvo_S_term_to_b (fun p=>p.sz≤(2000000:Nat)) fun p=>join2 p (push_join_c1 q) (IntKind.i64.wrap (algebra_Width (Rel.ids (q.kids.getD 0 zeroRel))+algebra_Width (Rel.ids (q.kids.getD 1 zeroRel)))))) (pf_S_term_to_b (fvo_S_term_to_b (fun p=>p.sz≤(2000000:Nat)) fun p=>join2 p (push_join_c1 q) (IntKind.i64.wrap (algebra_Width (Rel.ids (q.kids.getD 0 zeroRel))+algebra_Width (Rel.ids (q.kids.getD 1 zeroRel))))))).snd)))] [] [] (0:Int) (0:Int) false [],true))) (some (R_push_join (Rel.mk (5:Int) (ByteArray.mk #[]) q.cols [(Rel.ids (push_join_c5 t q)),(Rel.ids (push_join_c3 q v1))] [] [] [] (0:Int) (0:Int) false [],true))))):=by kernel_rfl
def joinW (q:Rel) : Int:=IntKind.i64.wrap (widthR (q.kids.getD 0 zeroRel)+widthR (q.kids.getD 1 zeroRel))
def joinRest (t:Term) (q:Rel) : List Term:=(splitT t).filter fun p=>!withinA p 0 (widthR (q.kids.getD 0 zeroRel))
def joinOn (t:Term) (q:Rel) : List Term:=(if q.terms.length > 0 then splitT (q.terms.getD 0 zeroTerm) else [])++(joinRest t q).filter fun p=>!withinA p (widthR (q.kids.getD 0 zeroRel)) (joinW q)
def push_join (t:Term) (q:Rel) : Rel×Bool :=
  (.mk 5 ⟨#[]⟩ q.cols [pushFilter (q.kids.getD 0 zeroRel) ((splitT t).filter fun p=>withinA p 0 (widthR (q.kids.getD 0 zeroRel))),pushFilter (q.kids.getD 1 zeroRel) (((joinRest t q).filter fun p=>withinA p (widthR (q.kids.getD 0 zeroRel)) (joinW q)).map fun p=>pushDown p (widthR (q.kids.getD 0 zeroRel)) (joinW q))] (if (joinOn t q).length > 0 then [joinT (joinOn t q)] else []) [] [] 0 0 false [],true)
def joinOK (t:Term) (q:Rel) : Prop:=t.sz≤2000000∧q.kids.length=2∧(0≤joinW q∧joinW q≤2000000)∧(q.terms.getD 0 zeroTerm).sz≤2000000
theorem push_join_spec (t:Term) (q:Rel) (_ht:WS .term t) (_hq:WS .rel q) (h:joinOK t q) : push_join_fn t q=some (R_push_join (push_join t q)):=by
  obtain⟨h1,h2,h3,h4⟩:=h
  obtain⟨n,hn⟩ : ∃ n,n=widthR (q.kids.getD 0 zeroRel):=⟨_,rfl⟩
  have e1:push_join_c1 q=n:=by unfold push_join_c1;rw[rel_eta,aW_eq,hn]
  have e2:push_join_c2 t=splitT t:=by unfold push_join_c2;rw[term_eta,conj_Split_eq]
  have eW:IntKind.i64.wrap (algebra_Width (Rel.ids (q.kids.getD 0 zeroRel))+algebra_Width (Rel.ids (q.kids.getD 1 zeroRel)))=joinW q:=by rw[Rel.ids_eq,Rel.ids_eq,aW_eq,aW_eq];rfl
  have eW':IntKind.i64.wrap (algebra_Width (q.kids.getD 0 zeroRel)+algebra_Width (q.kids.getD 1 zeroRel))=joinW q:=by rw[aW_eq,aW_eq];rfl
  have e4:push_join_c4 t q=((splitT t).filter (fun p=>withinA p 0 n),joinRest t q):=by
    unfold push_join_c4 push_parted
    rw[e1,e2]
    simp only[pffvo_S_term_to_b]
    unfold joinRest
    rw[← hn]
    rfl
  have e7:push_parted (push_join_c4 t q).snd (fun p=>p.sz≤2000000) (fun p=>join2 p n (joinW q))=((joinRest t q).filter (fun p=>withinA p n (joinW q)),(joinRest t q).filter fun p=>!withinA p n (joinW q)):=by
    rw[e4];rfl
  have hall:=split_szs h1
  have hmem:∀ p∈joinRest t q,p.sz≤2000000:=fun p hp=>hall.1 p (List.mem_filter.1 hp).1
  have hrl:(joinRest t q).length≤2000000:=Nat.le_trans (List.length_filter_le _ _) hall.2
  have hon:joinOn t q=(if q.terms.length > 0 then splitT (q.terms.getD 0 zeroTerm) else [])++(joinRest t q).filter fun p=>!withinA p n (joinW q):=by rw[hn];rfl
  obtain⟨rr,hrr⟩ : ∃ rr,rr=(joinRest t q).filter (fun p=>withinA p n (joinW q)):=⟨_,rfl⟩
  obtain⟨bb,hbb⟩ : ∃ bb,bb=(joinRest t q).filter (fun p=>!withinA p n (joinW q)):=⟨_,rfl⟩
  rw[← hrr,← hbb] at e7
  rw[← hbb] at hon
  have hrrl:rr.length≤2000000:=by rw[hrr];exact Nat.le_trans (List.length_filter_le _ _) hrl
  have hbbl:bb.length≤2000000:=by rw[hbb];exact Nat.le_trans (List.length_filter_le _ _) hrl
  have hrm:∀ p∈rr,p.sz≤2000000:=fun p hp=>hmem p (List.mem_filter.1 (hrr ▸ hp)).1
  have e5:push_join_c5 t q=pushFilter (q.kids.getD 0 zeroRel) ((splitT t).filter fun p=>withinA p 0 n):=by
    unfold push_join_c5;rw[rel_eta,e4];rfl
  have e3:∀ v,push_join_c3 q v=pushFilter (q.kids.getD 1 zeroRel) v:=fun v=>by unfold push_join_c3;rw[rel_eta];rfl
  have lp:=loop_map (L:=push_join_L7) (st:=fun xs i=>push_join_s7 t q i xs) (l:=rr) (d:=zeroTerm) (e:=.exit 0) (fun p=>pushDown p n (joinW q)) (by omega)
    (fun xs i x hi hxl hx hm=>by
      rw[push_join_l7]
      simp only[eW,pofvo_S_term_to_b,pffvo_S_term_to_b,e1,e7,cndO_eq,hi,decide_true,if_true,Int.toNat_natCast,hx,Term.ids_eq]
      rw[obO_pos (by omega),obO_pos (hrm x hm),obO_pos h3,obO_pos (by omega),obO_pos (by omega)]
      rfl)
    (fun xs hxl=>by rw[push_join_l7];simp only[eW,pofvo_S_term_to_b,pffvo_S_term_to_b,e1,e7,cndO_eq];simp)
  rw[push_join_in,obO_pos (by omega),obO_pos (by omega)]
  simp only[Term.ids_eq,eW,pofvo_S_term_to_b,pffvo_S_term_to_b,e1,e2,e7]
  rw[obO_pos h1,obO_pos trivial,obO_pos hall,obO_pos trivial,e4,obO_pos ⟨hmem,hrl⟩]
  refine (loop_end lp).trans ?_
  rw[push_join_a7_x0]
  simp only[Term.ids_eq,Rel.ids_eq,eW',pofvo_S_term_to_b,pffvo_S_term_to_b,e1,e7,e3,e5,conj_Split_eq,conj_Join_eq,cndO_eq,decide_eq_true_eq]
  have hsl:=splitT_len (q.terms.getD 0 zeroTerm)
  unfold push_join
  rw[← hn,hon,← hrr]
  by_cases ht : q.terms.length > 0
  · rw[if_pos (by omega),if_pos ht,obO_pos (by omega),obO_pos h4,obO_pos (by unfold roomB;omega)]
    by_cases hl : (splitT (q.terms.getD 0 zeroTerm)++bb).length > 0
    · rw[if_pos (by omega),if_pos hl]
    · rw[if_neg (by omega),if_neg hl]
  · rw[if_neg (by omega),if_neg ht,obO_pos (by unfold roomB;omega),List.nil_append]
    by_cases hl : bb.length > 0
    · rw[if_pos (by omega),if_pos hl]
    · rw[if_neg (by omega),if_neg hl]
def F_push_join : FnC Un:=fun args=>match args with
  | [x0,x1]=>(dS .term x0).bind fun t=>(dS .rel x1).bind fun q=>some ([joinOK t q],A_push_join (push_join t q),O_push_join (push_join t q))
  | _=>none
theorem ok_push_join : FnOK 84 F_push_join:=by
  intro args ob rs os h hob
  unfold F_push_join at h
  split at h
  · simp only[Option.bind_eq_some_iff,Option.some.injEq,Prod.mk.injEq] at h
    obtain⟨t,e0,q,e1,rfl,rfl,rfl⟩:=h
    obtain rfl:=dS_eq e0
    obtain rfl:=dS_eq e1
    exact⟨fn_contractF (M:=M_push_join) rfl (tbl_ok (l1:=[(50,F_algebra_Width),(123,F_conj_Split),(124,F_push_parted),(128,F_push_down),(121,F_push_filter),(129,F_conj_Join)]) (l2:=[]) (l3:=[(125,L_join1),(127,L_join2)]) (l4:=[]) (l5:=[]) ⟨ok_algebra_Width,ok_conj_Split,ok_push_parted,ok_push_down,ok_push_filter,ok_conj_Join,trivial⟩ trivial ⟨okL_join1,okL_join2,trivial⟩ trivial trivial) Tryz.func84 (by kernel_rfl) N_push_join 3 [.d,.d] (fun hwf=>(push_join_spec t q (wfArg hwf (a:=.d (.agg (enc Ty.term t))) (List.mem_of_getElem? (i:=0) rfl)) (wfArg hwf (a:=.d (.agg (enc Ty.rel q))) (List.mem_of_getElem? (i:=1) rfl)) (hob _ (List.mem_of_getElem? (i:=0) rfl)))),hasBody_of Tryz.func84 (by kernel_rfl) (by kernel_rfl)⟩
  · simp at h
end
end Go.Proofs.YtolbngdhgcbmgaaGreat.B
