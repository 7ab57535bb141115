/- Part 27 of the proof: Sref22a. -/
import Derived.Test.YtolbngdhgcbmgaaGreatPonce26
namespace Go.Proofs.YtolbngdhgcbmgaaGreat.B
open Go Go.RowKit
set_option maxRecDepth 100000
noncomputable section
attribute [local irreducible] awp ctxK itersK iterK retQ retGQ awf ctxF loopF
def M_r22_filter : Mc Un:=mach (tbl [(89,F_r21_Join)]) (tbl []) (tbl []) (tbl []) (tbl [])
def A_r22_filter (r:Rel) : List (A Un):=[.agg (encC Ty.rel r)]
def O_r22_filter (_r:Rel) : List (Ob Un):=[]
def R_r22_filter (r:Rel) : RF Un:=(A_r22_filter r,O_r22_filter r)
def N_r22_filter : Nat→NS:=fun l=>(look l []).getD ⟨[],[],[],[],[],true⟩
def r22_filter_fn (r:Rel) (parts:List Term) : Option (RF Un):=awf M_r22_filter N_r22_filter (bodyOf Tryz.f29) (entry Tryz.f29.ntmps 0 [.d (.agg (enc Ty.rel r)),.d (.v (.dat (U:=Un) Ty.term parts))]) (retF M_r22_filter Tryz.f29.results.toList [.d])
theorem r22_filter_in (r:Rel) (parts:List Term) : r22_filter_fn r parts=cndO ((↑parts.length:Int) == (0:Int)) (some (R_r22_filter (r))) (some (R_r22_filter (Rel.mk (3:Int) (ByteArray.mk #[]) r.cols [(Rel.ids r)] [(Term.ids (r21_Join parts))] [] [] (0:Int) (0:Int) false []))):=by kernel_rfl
def r22_filter (r:Rel) (parts:List Term) : Rel:=pushFilter r parts
theorem r22_filter_spec (r:Rel) (parts:List Term) (_hr:WS .rel r) (_hp:WL .term parts) : r22_filter_fn r parts=some (R_r22_filter (r22_filter r parts)):=by
  rw[r22_filter_in]
  unfold r22_filter pushFilter
  simp only[cndO_eq,beq_iff_eq,Rel.ids_eq,Term.ids_eq,r21_Join_eq]
  by_cases h : parts.length=0
  · rw[if_pos (by omega),if_pos h]
  · rw[if_neg (by omega),if_neg h]
def F_r22_filter : FnC Un:=fun args=>match args with
  | [x0,x1]=>(dS .rel x0).bind fun r=>(dL .term x1).bind fun parts=>some ([],A_r22_filter (r22_filter r parts),O_r22_filter (r22_filter r parts))
  | _=>none
theorem ok_r22_filter : FnOK 29 F_r22_filter:=by
  intro args ob rs os h hob
  unfold F_r22_filter at h
  split at h
  · simp only[Option.bind_eq_some_iff,Option.some.injEq,Prod.mk.injEq] at h
    obtain⟨r,e0,parts,e1,rfl,rfl,rfl⟩:=h
    obtain rfl:=dS_eq e0
    obtain rfl:=dL_eq e1
    exact⟨fn_contractF (M:=M_r22_filter) rfl (tbl_ok (l1:=[(89,F_r21_Join)]) (l2:=[]) (l3:=[]) (l4:=[]) (l5:=[]) ⟨ok_r21_Join,trivial⟩ trivial trivial trivial trivial) Tryz.func29 (by kernel_rfl) N_r22_filter 0 [.d] (fun hwf=>(r22_filter_spec r parts (wfArg hwf (a:=.d (.agg (enc Ty.rel r))) (List.mem_of_getElem? (i:=0) rfl)) (wfArg hwf (a:=.d (.v (.dat (U:=Un) Ty.term parts))) (List.mem_of_getElem? (i:=1) rfl)))),hasBody_of Tryz.func29 (by kernel_rfl) (by kernel_rfl)⟩
  · simp at h
def M_r22_parted : Mc Un:=mach (tbl [(91,F_r21_Within)]) (tbl []) (tbl []) (tbl []) (tbl [])
def A_r22_parted (r:List Term×List Term) : List (A Un):=[.c (.ob 0 0),.c (.ob 1 0)]
def O_r22_parted (r:List Term×List Term) : List (Ob Un):=[⟨0,Ty.term,r.1,some 0,true⟩,⟨0,Ty.term,r.2,some 0,true⟩]
def R_r22_parted (r:List Term×List Term) : RF Un:=(A_r22_parted r,O_r22_parted r)
def N_r22_parted : Nat→NS:=fun l=>(look l [(3,{ ts:=bl 40 1799,bs:=bl 40 0,nm:=[(.sl 8,160),(.sl 9,161)],cs:=true })]).getD ⟨[],[],[],[],[],true⟩
def r22_parted_s3 (parts:List Term) (from_:Int) (to_:Int) (v0:Int) (v1:List Term) (v2:List Term) : S Un:=(st 40 40 162 0 [(0,al .term parts),(1,ai from_),(2,ai to_),(8,ao 160),(9,ao 161),(10,ai v0)] [] [(160,some ⟨(0:Nat),Ty.term,v1,some (0:Nat),true⟩),(161,some ⟨(0:Nat),Ty.term,v2,some (0:Nat),true⟩)])
def r22_parted_B3 : Code:=sub (bodyOf Tryz.f31) [1,1,0,1,2,2]
def r22_parted_L3 : S Un→Option (EX Un):=loopF (N_r22_parted 3) (fun s Q=>awf M_r22_parted N_r22_parted r22_parted_B3 s Q)
def r22_parted_C3 : Exit→S Un→Option (RF Un):=ctxF M_r22_parted N_r22_parted (bodyOf Tryz.f31) [1,1,0,1,2] (retF M_r22_parted Tryz.f31.results.toList [.m,.m])
def r22_parted_fn (parts:List Term) (from_:Int) (to_:Int) : Option (RF Un):=awf M_r22_parted N_r22_parted (bodyOf Tryz.f31) (entry Tryz.f31.ntmps 2 [.d (.v (.dat (U:=Un) Ty.term parts)),.d (.v (.s (.int .i64 from_))),.d (.v (.s (.int .i64 to_)))]) (retF M_r22_parted Tryz.f31.results.toList [.m,.m])
theorem r22_parted_in (parts:List Term) (from_:Int) (to_:Int) : r22_parted_fn parts from_ to_=(r22_parted_L3 (r22_parted_s3 parts from_ to_ (0:Int) ([]) ([]))).bind (thenX r22_parted_C3):=by kernel_rfl
theorem r22_parted_l3 (parts:List Term) (from_:Int) (to_:Int) (v0:Int) (v1:List Term) (v2:List Term) : r22_parted_L3 (r22_parted_s3 parts from_ to_ v0 v1 v2)=cndO (decide (v0<(↑parts.length:Int))) (obO (0≤v0∧v0<(↑parts.length:Int)) (obO ((Term.ids (parts.getD v0.toNat zeroTerm)).sz≤(2000000:Nat)) (cndO (r21_Within (Term.ids (parts.getD v0.toNat zeroTerm)) from_ to_) (obO (0≤v0∧v0<(↑parts.length:Int)) (obO ((v1.length+[(Term.ids (parts.getD v0.toNat zeroTerm))].length)*(128:Nat)≤roomB) (r22_parted_L3 (r22_parted_s3 parts from_ to_ (IntKind.i64.wrap (v0+1)) (v1++[(Term.ids (parts.getD v0.toNat zeroTerm))]) v2)))) (obO (0≤v0∧v0<(↑parts.length:Int)) (obO ((v2.length+[(Term.ids (parts.getD v0.toNat zeroTerm))].length)*(128:Nat)≤roomB) (r22_parted_L3 (r22_parted_s3 parts from_ to_ (IntKind.i64.wrap (v0+1)) v1 (v2++[(Term.ids (parts.getD v0.toNat zeroTerm))])))))))) (some (.exit 0,(r22_parted_s3 parts from_ to_ v0 v1 v2))):=(loopF_eq (N_r22_parted 3) r22_parted_B3 _).trans (by kernel_rfl)
theorem r22_parted_a3_x0 (parts:List Term) (from_:Int) (to_:Int) (v0:Int) (v1:List Term) (v2:List Term) : r22_parted_C3 (.exit 0) (r22_parted_s3 parts from_ to_ v0 v1 v2)=some (R_r22_parted (v1,v2)):=by kernel_rfl
def partsOK (l:List Term) : Prop:=(∀ x∈l,x.sz≤2000000)∧l.length≤2000000
def r22_parted (parts:List Term) (from_ to_:Int) : List Term×List Term:=(parts.filter fun p=>withinA p from_ to_,parts.filter fun p=>!withinA p from_ to_)
theorem r22_parted_spec (parts:List Term) (from_ to_:Int) (hl:WL .term parts) (_hf:WI from_) (_ht:WI to_) (h:partsOK parts) : r22_parted_fn parts from_ to_=some (R_r22_parted (r22_parted parts from_ to_)):=by
  obtain⟨ho,hlen⟩:=h
  obtain⟨lp,_⟩:=loop_fold (e:=.exit 0) (L:=r22_parted_L3) (st:=fun (s:List Term×List Term) i=>r22_parted_s3 parts from_ to_ i s.1 s.2) (l:=parts) (d:=zeroTerm) (g:=fun s x=>if withinA x from_ to_=true then (s.1++[x],s.2) else (s.1,s.2++[x])) (fun i s=>s.1.length+s.2.length=i) hl.len
    (fun s i x hi hx hI=>by
      have hI':s.1.length+s.2.length=i:=hI
      have hmem:x∈parts:=by rw[← hx,List.getD_eq_getElem?_getD,List.getElem?_eq_getElem (by omega)];exact List.getElem_mem _
      have hw:r21_Within x from_ to_=withinA x from_ to_:=rfl
      refine⟨?_,?_⟩
      · show (if withinA x from_ to_=true then (s.1++[x],s.2) else (s.1,s.2++[x])).1.length+(if withinA x from_ to_=true then (s.1++[x],s.2) else (s.1,s.2++[x])).2.length=i+1
        split
        · simp only[List.length_append,List.length_singleton];omega
        · simp only[List.length_append,List.length_singleton];omega
      · rw[r22_parted_l3]
        simp only[cndO_eq,hi,decide_true,if_true,and_true,Int.toNat_natCast,hx,Term.ids_eq,hw]
        rw[obO_pos (by omega),obO_pos (ho x hmem),obO_pos (by omega),obO_pos (by unfold roomB;rw[List.length_singleton];omega),obO_pos (by omega),obO_pos (by unfold roomB;rw[List.length_singleton];omega)]
        split<;>rfl)
    (fun s _=>by rw[r22_parted_l3];simp [cndO_eq]) ([],[]) rfl
  rw[parted_fold (fun p=>withinA p from_ to_),List.nil_append,List.nil_append] at lp
  rw[r22_parted_in]
  refine (loop_end lp).trans ?_
  rw[r22_parted_a3_x0]
  rfl
def F_r22_parted : FnC Un:=fun args=>match args with
  | [x0,x1,x2]=>(dL .term x0).bind fun parts=>(dI .i64 x1).bind fun from_=>(dI .i64 x2).bind fun to_=>some ([partsOK parts],A_r22_parted (r22_parted parts from_ to_),O_r22_parted (r22_parted parts from_ to_))
  | _=>none
theorem ok_r22_parted : FnOK 31 F_r22_parted:=by
  intro args ob rs os h hob
  unfold F_r22_parted at h
  split at h
  · simp only[Option.bind_eq_some_iff,Option.some.injEq,Prod.mk.injEq] at h
    obtain⟨parts,e0,from_,e1,to_,e2,rfl,rfl,rfl⟩:=h
    obtain rfl:=dL_eq e0
    obtain rfl:=dI_eq e1
    obtain rfl:=dI_eq e2
    exact⟨fn_contractF (M:=M_r22_parted) rfl (tbl_ok (l1:=[(91,F_r21_Within)]) (l2:=[]) (l3:=[]) (l4:=[]) (l5:=[]) ⟨ok_r21_Within,trivial⟩ trivial trivial trivial trivial) Tryz.func31 (by kernel_rfl) N_r22_parted 2 [.m,.m] (fun hwf=>(r22_parted_spec parts from_ to_ (wfArg hwf (a:=.d (.v (.dat (U:=Un) Ty.term parts))) (List.mem_of_getElem? (i:=0) rfl)) (wfArg hwf (a:=.d (.v (.s (.int .i64 from_)))) (List.mem_of_getElem? (i:=1) rfl)) (wfArg hwf (a:=.d (.v (.s (.int .i64 to_)))) (List.mem_of_getElem? (i:=2) rfl)) (hob _ (List.mem_of_getElem? (i:=0) rfl)))),hasBody_of Tryz.func31 (by kernel_rfl) (by kernel_rfl)⟩
  · simp at h
def ShH (p q:Term→Int→Term) (D:Int) : Prop:=∀ (c:Term) (d:Int),WI c.depth→0≤d→d≤2000000→(p c d).at_=(q c (D+d)).at_
mutual
theorem shT {p q:Term→Int→Term} {D:Int} (H:ShH p q D) : ∀ (t:Term) (d:Int),WS .term t→0≤d→d+t.sz≤2000000→mapT p d t=mapT q (D+d) t
  | .mk op v depth at_ name kids sub type,d,hw,h0,h1=>by
    have hk:WL .term kids:=hw.term_kids
    have hs:WL .rel sub:=hw.term_sub
    simp only[Term.sz] at h1
    have e1:=H (.mk op v depth at_ name kids sub type) d hw.term_depth h0 (by omega)
    simp only[mapT]
    rw[e1,shTs H kids d hk h0 (by omega),shRs H sub (d+1) hs (by omega) (by omega),Int.add_assoc]
theorem shTs {p q:Term→Int→Term} {D:Int} (H:ShH p q D) : ∀ (l:List Term) (d:Int),WL .term l→0≤d→d+szTs l≤2000000→mapTs p d l=mapTs q (D+d) l
  | [],_,_,_,_=>rfl
  | t::r,d,hw,h0,h1=>by
    simp only[szTs] at h1
    simp only[mapTs]
    rw[shT H t d (hw.get List.mem_cons_self) h0 (by omega),shTs H r d (hw.drop 1) h0 (by omega)]
theorem shA {p q:Term→Int→Term} {D:Int} (H:ShH p q D) : ∀ (a:Agg) (d:Int),WS .agg a→0≤d→d+a.sz≤2000000→mapA p d a=mapA q (D+d) a
  | .mk name distinct t,d,hw,h0,h1=>by
    have hk:WL .term t:=hw.agg_t
    simp only[Agg.sz] at h1
    simp only[mapA]
    rw[shTs H t d hk h0 (by omega)]
theorem shAs {p q:Term→Int→Term} {D:Int} (H:ShH p q D) : ∀ (l:List Agg) (d:Int),WL .agg l→0≤d→d+szAs l≤2000000→mapAs p d l=mapAs q (D+d) l
  | [],_,_,_,_=>rfl
  | t::r,d,hw,h0,h1=>by
    simp only[szAs] at h1
    simp only[mapAs]
    rw[shA H t d (hw.get List.mem_cons_self) h0 (by omega),shAs H r d (hw.drop 1) h0 (by omega)]
theorem shR {p q:Term→Int→Term} {D:Int} (H:ShH p q D) : ∀ (r:Rel) (d:Int),WS .rel r→0≤d→d+r.sz≤2000000→mapR p d r=mapR q (D+d) r
  | .mk op table cols kids terms aggs keys limit skip all rows,d,hw,h0,h1=>by
    have hk:WL .rel kids:=hw.rel_kids
    have ht:WL .term terms:=hw.rel_terms
    have ha:WL .agg aggs:=hw.rel_aggs
    simp only[Rel.sz] at h1
    simp only[mapR]
    rw[shRs H kids d hk h0 (by omega),shTs H terms d ht h0 (by omega),shAs H aggs d ha h0 (by omega)]
theorem shRs {p q:Term→Int→Term} {D:Int} (H:ShH p q D) : ∀ (l:List Rel) (d:Int),WL .rel l→0≤d→d+szRs l≤2000000→mapRs p d l=mapRs q (D+d) l
  | [],_,_,_,_=>rfl
  | t::r,d,hw,h0,h1=>by
    simp only[szRs] at h1
    simp only[mapRs]
    rw[shR H t d (hw.get List.mem_cons_self) h0 (by omega),shRs H r d (hw.drop 1) h0 (by omega)]
end
theorem move_eq {t:Term} {depth:Int} {at_:List Int} (ht:WS .term t) (h:t.sz≤2000000) (hd:-2000000≤depth∧depth≤2000000) : moveA t depth at_=r21_Move t depth at_:=by
  have:=shT (p:=fun c d=>moved1 c d depth (fun i=>move1 i at_)) (q:=mvP at_) (D:=depth) (fun c d hc h0 h1=>by
    unfold WI at hc
    show (moved1 c d depth (fun i=>move1 i at_)).at_=(mvP at_ c (depth+d)).at_
    unfold moved1 mvP
    rw[IntKind.wrap_i64]
    by_cases e : c.depth=depth+d
    · rw[if_pos (by omega),if_pos e]
    · rw[if_neg (by omega),if_neg e]
      simp only[setAt,Term.at__mk]) t 0 ht (by omega) (by omega)
  rw[Int.add_zero] at this
  exact this
theorem fold_snoc {α β:Type} (f:α→β) : ∀ (l:List α) (s:List β),l.foldl (fun s x=>s++[f x]) s=s++l.map f
  | [],s=>by simp
  | x::l,s=>by rw[List.foldl_cons,fold_snoc f l];simp
theorem fold_snoc2 {α β γ:Type} (c:γ) (f:α→β) : ∀ (l:List α) (s:γ×List β),(l.foldl (fun (s:γ×List β) x=>(c,s.2++[f x])) s).2=s.2++l.map f
  | [],s=>by simp
  | x::l,s=>by rw[List.foldl_cons,fold_snoc2 c f l];simp
def M_r22_gone : Mc Un:=mach (tbl [(136,F_r21_Move)]) (tbl []) (tbl []) (tbl []) (tbl [])
def A_r22_gone (r:List Term) : List (A Un):=[.c (.ob 0 0)]
def O_r22_gone (r:List Term) : List (Ob Un):=[⟨0,Ty.term,r,none,true⟩]
def R_r22_gone (r:List Term) : RF Un:=(A_r22_gone r,O_r22_gone r)
def N_r22_gone : Nat→NS:=fun l=>(look l [(3,{ ts:=bl 38 391,bs:=bl 38 0,nm:=[(.sl 7,152)],cs:=true }),(8,{ ts:=bl 38 1665,bs:=bl 38 0,nm:=[(.sl 7,153),(.sl 9,154)],cs:=true })]).getD ⟨[],[],[],[],[],true⟩
def r22_gone_c1 (parts:List Term) (v1:List Int) (v2:Int):=r21_Move (Term.mk (Term.op (parts.getD v2.toNat zeroTerm)) (Term.v (parts.getD v2.toNat zeroTerm)) (Term.depth (parts.getD v2.toNat zeroTerm)) (Term.at_ (parts.getD v2.toNat zeroTerm)) (Term.name (parts.getD v2.toNat zeroTerm)) (Term.kids (parts.getD v2.toNat zeroTerm)) (Term.sub (parts.getD v2.toNat zeroTerm)) (Term.type (parts.getD v2.toNat zeroTerm))) (0:Int) v1
def r22_gone_s3 (parts:List Term) (less:Int) (width:Int) (v0:Int) (v1:List Int) : S Un:=(st 38 38 155 0 [(0,al .term parts),(1,ai less),(2,ai width),(7,ao 152),(8,ai v0)] [] [(152,some ⟨(0:Nat),Ty.int,v1,some (0:Nat),true⟩)])
def r22_gone_s8 (parts:List Term) (v1:List Int) (v2:Int) (v3:Option Nat) (v4:List Term) : S Un:=(st 38 38 155 0 [(0,al .term parts),(7,ao 153),(9,ao 154),(10,ai v2)] [] [(153,some ⟨(0:Nat),Ty.int,v1,v3,true⟩),(154,some ⟨(0:Nat),Ty.term,v4,some (0:Nat),true⟩)])
def r22_gone_B3 : Code:=sub (bodyOf Tryz.f90) [1,1,0,1,2,2]
def r22_gone_L3 : S Un→Option (EX Un):=loopF (N_r22_gone 3) (fun s Q=>awf M_r22_gone N_r22_gone r22_gone_B3 s Q)
def r22_gone_B8 : Code:=sub (bodyOf Tryz.f90) [1,1,1,1,0,1,2,2]
def r22_gone_L8 : S Un→Option (EX Un):=loopF (N_r22_gone 8) (fun s Q=>awf M_r22_gone N_r22_gone r22_gone_B8 s Q)
def r22_gone_C3 : Exit→S Un→Option (RF Un):=ctxF M_r22_gone N_r22_gone (bodyOf Tryz.f90) [1,1,0,1,2] (retF M_r22_gone Tryz.f90.results.toList [.o])
def r22_gone_C8 : Exit→S Un→Option (RF Un):=ctxF M_r22_gone N_r22_gone (bodyOf Tryz.f90) [1,1,1,1,0,1,2] (retF M_r22_gone Tryz.f90.results.toList [.o])
def r22_gone_fn (parts:List Term) (less:Int) (width:Int) : Option (RF Un):=awf M_r22_gone N_r22_gone (bodyOf Tryz.f90) (entry Tryz.f90.ntmps 3 [.d (.v (.dat (U:=Un) Ty.term parts)),.d (.v (.s (.int .i64 less))),.d (.v (.s (.int .i64 width)))]) (retF M_r22_gone Tryz.f90.results.toList [.o])
theorem r22_gone_in (parts:List Term) (less:Int) (width:Int) : r22_gone_fn parts less width=(r22_gone_L3 (r22_gone_s3 parts less width (0:Int) ([]))).bind (thenX r22_gone_C3):=by kernel_rfl
theorem r22_gone_l3 (parts:List Term) (less:Int) (width:Int) (v0:Int) (v1:List Int) : r22_gone_L3 (r22_gone_s3 parts less width v0 v1)=cndO (decide (v0<width)) (obO ((v1.length+[IntKind.i64.wrap (v0 - less)].length)*(8:Nat)≤roomB) (r22_gone_L3 (r22_gone_s3 parts less width (IntKind.i64.wrap (v0+1)) (v1++[IntKind.i64.wrap (v0 - less)])))) (some (.exit 0,(r22_gone_s3 parts less width v0 v1))):=(loopF_eq (N_r22_gone 3) r22_gone_B3 _).trans (by kernel_rfl)
theorem r22_gone_a3_x0 (parts:List Term) (less:Int) (width:Int) (v0:Int) (v1:List Int) : r22_gone_C3 (.exit 0) (r22_gone_s3 parts less width v0 v1)=(r22_gone_L8 (r22_gone_s8 parts v1 (0:Int) (some (0:Nat)) ([]))).bind (thenX r22_gone_C8):=by kernel_rfl
theorem r22_gone_l8 (parts:List Term) (v1:List Int) (v2:Int) (v3:Option Nat) (v4:List Term) : r22_gone_L8 (r22_gone_s8 parts v1 v2 v3 v4)=cndO (decide (v2<(↑parts.length:Int))) (obO (0≤v2∧v2<(↑parts.length:Int)) (obO (inOK (0:Int) (Term.ids (parts.getD v2.toNat zeroTerm)).sz) (obO ((v4.length+[(Term.ids (r22_gone_c1 parts v1 v2))].length)*(128:Nat)≤roomB) (r22_gone_L8 (r22_gone_s8 parts v1 (IntKind.i64.wrap (v2+1)) none (v4++[(Term.ids (r22_gone_c1 parts v1 v2))])))))) (some (.exit 2,(r22_gone_s8 parts v1 v2 v3 v4))):=(loopF_eq (N_r22_gone 8) r22_gone_B8 _).trans (by kernel_rfl)
theorem r22_gone_a8_x2 (parts:List Term) (v1:List Int) (v2:Int) (v3:Option Nat) (v4:List Term) : r22_gone_C8 (.exit 2) (r22_gone_s8 parts v1 v2 v3 v4)=some (R_r22_gone (v4)):=by kernel_rfl
def goneAt (less width:Int) : List Int:=(List.range width.toNat).map fun (i:Nat)=>IntKind.i64.wrap ((i:Int) - less)
def r22_gone (parts:List Term) (less width:Int) : List Term:=parts.map fun p=>r21_Move p 0 (goneAt less width)
theorem r22_gone_spec (parts:List Term) (less width:Int) (hl:WL .term parts) (_hs:WI less) (_hw:WI width) (h:partsOK parts) (h2:0≤width∧width≤2000000) : r22_gone_fn parts less width=some (R_r22_gone (r22_gone parts less width)):=by
  obtain⟨ho,hlen⟩:=h
  obtain⟨n,rfl⟩ : ∃ n : Nat,width=(n:Int):=⟨width.toNat,by omega⟩
  have hrl:((List.range n).map fun (i:Nat)=>(i:Int)).length=n:=by simp
  obtain⟨lp,_⟩:=loop_fold (e:=.exit 0) (L:=r22_gone_L3) (st:=fun (s:List Int) i=>r22_gone_s3 parts less (n:Int) i s) (l:=(List.range n).map fun (i:Nat)=>(i:Int)) (d:=0) (g:=fun s x=>s++[IntKind.i64.wrap (x - less)]) (fun i s=>s.length=i) (by omega)
    (fun s i x hi hx hI=>by
      have hI':s.length=i:=hI
      rw[hrl] at hi
      have hx':x=(i:Int):=by rw[← hx,List.getD_eq_getElem?_getD,List.getElem?_map,List.getElem?_range (by omega)];rfl
      refine⟨by show (s++[_]).length=i+1;rw[List.length_append,List.length_singleton];omega,?_⟩
      rw[r22_gone_l3,hx']
      simp only[cndO_eq,hi,decide_true,if_true]
      rw[obO_pos (by unfold roomB;rw[List.length_singleton];omega)])
    (fun s _=>by rw[r22_gone_l3,hrl];simp [cndO_eq]) [] rfl
  rw[fold_snoc,List.nil_append,List.map_map,hrl] at lp
  have hat:(List.range n).map ((fun x=>IntKind.i64.wrap (x - less))∘fun (i:Nat)=>(i:Int))=goneAt less (n:Int):=by unfold goneAt;rw[Int.toNat_natCast];rfl
  rw[hat] at lp
  obtain⟨lq,_⟩:=loop_fold (e:=.exit 2) (L:=r22_gone_L8) (st:=fun (s:Option Nat×List Term) i=>r22_gone_s8 parts (goneAt less (n:Int)) i s.1 s.2) (l:=parts) (d:=zeroTerm) (g:=fun s x=>(none,s.2++[r21_Move x 0 (goneAt less (n:Int))])) (fun i s=>s.2.length=i) hl.len
    (fun s i x hi hx hI=>by
      have hI':s.2.length=i:=hI
      have hmem:x∈parts:=by rw[← hx,List.getD_eq_getElem?_getD,List.getElem?_eq_getElem (by omega)];exact List.getElem_mem _
      have e1:r22_gone_c1 parts (goneAt less (n:Int)) (i:Int)=r21_Move x 0 (goneAt less (n:Int)):=by unfold r22_gone_c1;rw[Int.toNat_natCast,hx,term_eta]
      refine⟨by show (s.2++[_]).length=i+1;rw[List.length_append,List.length_singleton];omega,?_⟩
      rw[r22_gone_l8]
      simp only[cndO_eq,hi,decide_true,if_true,and_true,Int.toNat_natCast,hx,Term.ids_eq,e1]
      rw[obO_pos (by omega),obO_pos (show inOK 0 x.sz from by have:=ho x hmem;exact⟨by omega,by omega,this⟩),obO_pos (by unfold roomB;rw[List.length_singleton];omega)])
    (fun s _=>by rw[r22_gone_l8];simp [cndO_eq]) (some 0,[]) rfl
  rw[r22_gone_in]
  refine (loop_end lp).trans ?_
  rw[r22_gone_a3_x0]
  refine (loop_end lq).trans ?_
  rw[r22_gone_a8_x2,fold_snoc2,List.nil_append]
  rfl
def F_r22_gone : FnC Un:=fun args=>match args with
  | [x0,x1,x2]=>(dL .term x0).bind fun parts=>(dI .i64 x1).bind fun less=>(dI .i64 x2).bind fun width=>some ([partsOK parts,0≤width∧width≤2000000],A_r22_gone (r22_gone parts less width),O_r22_gone (r22_gone parts less width))
  | _=>none
theorem ok_r22_gone : FnOK 90 F_r22_gone:=by
  intro args ob rs os h hob
  unfold F_r22_gone at h
  split at h
  · simp only[Option.bind_eq_some_iff,Option.some.injEq,Prod.mk.injEq] at h
    obtain⟨parts,e0,less,e1,width,e2,rfl,rfl,rfl⟩:=h
    obtain rfl:=dL_eq e0
    obtain rfl:=dI_eq e1
    obtain rfl:=dI_eq e2
    exact⟨fn_contractF (M:=M_r22_gone) rfl (tbl_ok (l1:=[(136,F_r21_Move)]) (l2:=[]) (l3:=[]) (l4:=[]) (l5:=[]) ⟨ok_r21_Move,trivial⟩ trivial trivial trivial trivial) Tryz.func90 (by kernel_rfl) N_r22_gone 3 [.o] (fun hwf=>(r22_gone_spec parts less width (wfArg hwf (a:=.d (.v (.dat (U:=Un) Ty.term parts))) (List.mem_of_getElem? (i:=0) rfl)) (wfArg hwf (a:=.d (.v (.s (.int .i64 less)))) (List.mem_of_getElem? (i:=1) rfl)) (wfArg hwf (a:=.d (.v (.s (.int .i64 width)))) (List.mem_of_getElem? (i:=2) rfl)) (hob _ (List.mem_of_getElem? (i:=0) rfl)) (hob _ (List.mem_of_getElem? (i:=1) rfl)))),hasBody_of Tryz.func90 (by kernel_rfl) (by kernel_rfl)⟩
  · simp at h
def M_r22_over : Mc Un:=mach (tbl []) (tbl []) (tbl []) (tbl []) (tbl [])
def A_r22_over (r:Rel) : List (A Un):=[.agg (encC Ty.rel r)]
def O_r22_over (_r:Rel) : List (Ob Un):=[]
def R_r22_over (r:Rel) : RF Un:=(A_r22_over r,O_r22_over r)
def N_r22_over : Nat→NS:=fun l=>(look l []).getD ⟨[],[],[],[],[],true⟩
def r22_over_fn (q:Rel) (kid:Rel) : Option (RF Un):=awf M_r22_over N_r22_over (bodyOf Tryz.f33) (entry Tryz.f33.ntmps 0 [.d (.agg (enc Ty.rel q)),.d (.agg (enc Ty.rel kid))]) (retF M_r22_over Tryz.f33.results.toList [.d])
theorem r22_over_in (q:Rel) (kid:Rel) : r22_over_fn q kid=some (R_r22_over (Rel.mk q.op q.table q.cols [(Rel.ids kid)] q.terms q.aggs q.keys q.limit q.skip q.all q.rows)):=by kernel_rfl
def r22_over (q kid:Rel) : Rel:=pushWith q [kid]
theorem r22_over_spec (q kid:Rel) (_hq:WS .rel q) (_hk:WS .rel kid) : r22_over_fn q kid=some (R_r22_over (r22_over q kid)):=by
  rw[r22_over_in,Rel.ids_eq];rfl
def F_r22_over : FnC Un:=fun args=>match args with
  | [x0,x1]=>(dS .rel x0).bind fun q=>(dS .rel x1).bind fun kid=>some ([],A_r22_over (r22_over q kid),O_r22_over (r22_over q kid))
  | _=>none
theorem ok_r22_over : FnOK 33 F_r22_over:=by
  intro args ob rs os h hob
  unfold F_r22_over at h
  split at h
  · simp only[Option.bind_eq_some_iff,Option.some.injEq,Prod.mk.injEq] at h
    obtain⟨q,e0,kid,e1,rfl,rfl,rfl⟩:=h
    obtain rfl:=dS_eq e0
    obtain rfl:=dS_eq e1
    exact⟨fn_contractF (M:=M_r22_over) rfl (tbl_ok (l1:=[]) (l2:=[]) (l3:=[]) (l4:=[]) (l5:=[]) trivial trivial trivial trivial trivial) Tryz.func33 (by kernel_rfl) N_r22_over 0 [.d] (fun hwf=>(r22_over_spec q kid (wfArg hwf (a:=.d (.agg (enc Ty.rel q))) (List.mem_of_getElem? (i:=0) rfl)) (wfArg hwf (a:=.d (.agg (enc Ty.rel kid))) (List.mem_of_getElem? (i:=1) rfl)))),hasBody_of Tryz.func33 (by kernel_rfl) (by kernel_rfl)⟩
  · simp at h
theorem loop_allB {α β:Type} {L:S Un→Option (EX Un)} {st:Int→S Un} {C:Exit→S Un→Option β} (R:Bool→Option β) {l:List α} {d:α} {e:Exit} (q:α→Bool) {b:Bool} (hl:l.length≤9223372036854775807)
    (step:∀ (i:Nat) (x:α),(i:Int)<(l.length:Int)→l.getD i d=x→x∈l→L (st i)=if q x=true then L (st (IntKind.i64.wrap ((i:Int)+1))) else some (.ret,st i))
    (stop:L (st (l.length:Int))=some (e,st (l.length:Int))) (r1:∀ i : Int,C .ret (st i)=R false) (r2:∀ i : Int,C e (st i)=R b) : (L (st 0)).bind (thenX C)=R (l.all q && b):=by
  have key:∀ (r:List α) (i:Nat),l.drop i=r→i≤l.length→(L (st i)).bind (thenX C)=R (r.all q && b):=by
    intro r
    induction r with
    | nil =>
      intro i hr hi
      have : l.length≤i:=List.drop_eq_nil_iff.1 hr
      have e:i=l.length:=by omega
      rw[e,stop]
      rw[List.all_nil,Bool.true_and]
      exact r2 _
    | cons x r ih =>
      intro i hr hi
      have hlt:i<l.length:=by
        rcases Nat.lt_or_ge i l.length with h | h
        · exact h
        · rw[List.drop_eq_nil_of_le h] at hr;simp at hr
      have hx:l.getD i d=x:=by
        have:=List.getElem?_drop (xs:=l) (i:=i) (j:=0)
        rw[hr,Nat.add_zero] at this
        rw[List.getD_eq_getElem?_getD,← this];rfl
      have hm:x∈l:=by rw[← hx,List.getD_eq_getElem?_getD,List.getElem?_eq_getElem hlt];exact List.getElem_mem _
      have hr2:l.drop (i+1)=r:=by rw[← List.tail_drop,hr];rfl
      rw[step i x (by omega) hx hm,List.all_cons]
      cases hq : q x
      · rw[if_neg (by decide),Bool.false_and,Bool.false_and]
        exact r1 _
      · rw[if_pos rfl,wrap_id (by omega),Bool.true_and]
        exact ih (i+1) hr2 (by omega)
  exact key l 0 rfl (Nat.zero_le _)
def r15_Plain (t:Term) : Bool:=plainT t
theorem plainTs_all15 : ∀ l : List Term,(l.all r15_Plain)=plainTs l
  | []=>rfl
  | t::r=>by simp only[List.all_cons,plainTs,plainTs_all15 r,r15_Plain]
def A_r15_Plain (r:Bool) : List (A Un):=[.c (.s (.bool r))]
def O_r15_Plain (_r:Bool) : List (Ob Un):=[]
def Fm_r15_Plain (m:Nat) : FnC Un:=fun args=>match args with
  | [x0]=>(dS .term x0).bind fun t=>some ([t.ht<m],A_r15_Plain (r15_Plain t),O_r15_Plain (r15_Plain t))
  | _=>none
def M_r15_Plain (m:Nat) : Mc Un:=mach (tbl [(92,Fm_r15_Plain m)]) (tbl []) (tbl []) (tbl []) (tbl [])
def R_r15_Plain (r:Bool) : RF Un:=(A_r15_Plain r,O_r15_Plain r)
def N_r15_Plain : Nat→NS:=fun l=>(look l [(2,{ ts:=bl 22 14,bs:=bl 22 2,nm:=[],cs:=true })]).getD ⟨[],[],[],[],[],true⟩
def r15_Plain_s2 (t:Term) (v0:Int) : S Un:=(st 22 22 88 0 [(1,ax 1),(2,ab false),(3,ai v0)] [(1,bg .term t)] [])
def r15_Plain_B2 : Code:=sub (bodyOf Tryz.f92) [1,0,1,2,2]
def r15_Plain_L2 (m:Nat) : S Un→Option (EX Un):=loopF (N_r15_Plain 2) (fun s Q=>awf (M_r15_Plain m) N_r15_Plain r15_Plain_B2 s Q)
def r15_Plain_C2 (m:Nat) : Exit→S Un→Option (RF Un):=ctxF (M_r15_Plain m) N_r15_Plain (bodyOf Tryz.f92) [1,0,1,2] (retF (M_r15_Plain m) Tryz.f92.results.toList [.d])
def r15_Plain_fn (m:Nat) (t:Term) : Option (RF Un):=awf (M_r15_Plain m) N_r15_Plain (bodyOf Tryz.f92) (entry Tryz.f92.ntmps 0 [.d (.agg (enc Ty.term t))]) (retF (M_r15_Plain m) Tryz.f92.results.toList [.d])
theorem r15_Plain_in (m:Nat) (t:Term) : r15_Plain_fn m t=(r15_Plain_L2 m (r15_Plain_s2 t (0:Int))).bind (thenX (r15_Plain_C2 m)):=by kernel_rfl
theorem r15_Plain_l2 (m:Nat) (t:Term) (v0:Int) : r15_Plain_L2 m (r15_Plain_s2 t v0)=cndO (decide (v0<(↑t.kids.length:Int))) (obO (0≤v0∧v0<(↑t.kids.length:Int)) (obO ((Term.ids (t.kids.getD v0.toNat zeroTerm)).ht<m) (cndO (!r15_Plain (Term.ids (t.kids.getD v0.toNat zeroTerm))) (some (.ret,(r15_Plain_s2 t v0))) (r15_Plain_L2 m (r15_Plain_s2 t (IntKind.i64.wrap (v0+1))))))) (some (.exit 0,(r15_Plain_s2 t v0))):=(loopF_eq (N_r15_Plain 2) r15_Plain_B2 _).trans (by kernel_rfl)
theorem r15_Plain_a2_ret (m:Nat) (t:Term) (v0:Int) : r15_Plain_C2 m .ret (r15_Plain_s2 t v0)=some (R_r15_Plain (false)):=by kernel_rfl
theorem r15_Plain_a2_x0 (m:Nat) (t:Term) (v0:Int) : r15_Plain_C2 m (.exit 0) (r15_Plain_s2 t v0)=some (R_r15_Plain ((↑t.sub.length:Int) == (0:Int))):=by kernel_rfl
theorem r15_Plain_spec (m:Nat) (t:Term) (ht:WS .term t) (h:t.ht<m+1) : r15_Plain_fn m t=some (R_r15_Plain (r15_Plain t)):=by
  have hk:WL .term t.kids:=ht.term_kids
  rw[r15_Plain_in]
  refine (loop_allB (L:=r15_Plain_L2 m) (st:=fun i=>r15_Plain_s2 t i) (fun r=>some (R_r15_Plain r)) (l:=t.kids) (d:=zeroTerm) (b:=((t.sub.length:Int) == 0)) r15_Plain hk.len
    (fun i x hi hx hmem=>by
      have hht:=Term.ht_kid hmem
      rw[r15_Plain_l2]
      simp only[cndO_eq,hi,decide_true,if_true,and_true,Int.toNat_natCast,hx,Term.ids_eq]
      rw[obO_pos (by omega),obO_pos (by omega)]
      cases r15_Plain x<;>rfl)
    (by rw[r15_Plain_l2];simp [cndO_eq]) (fun i=>r15_Plain_a2_ret _ _ _) (fun i=>r15_Plain_a2_x0 _ _ _)).trans ?_
  congr 2
  show _=plainT t
  rw[plainT_eq,plainTs_all15,Bool.and_comm]
  congr 1
  cases t.sub with
  | nil=>rfl
  | cons x l=>simp;omega
theorem okm_r15_Plain (m:Nat) (h_r15_Plain:FnOK 92 (Fm_r15_Plain m)) : FnOK 92 (Fm_r15_Plain (m+1)):=by
  intro args ob rs os h hob
  unfold Fm_r15_Plain at h
  split at h
  · simp only[Option.bind_eq_some_iff,Option.some.injEq,Prod.mk.injEq] at h
    obtain⟨t,e0,rfl,rfl,rfl⟩:=h
    obtain rfl:=dS_eq e0
    exact⟨fn_contractF (M:=(M_r15_Plain m)) rfl (tbl_ok (l1:=[(92,Fm_r15_Plain m)]) (l2:=[]) (l3:=[]) (l4:=[]) (l5:=[]) ⟨h_r15_Plain,trivial⟩ trivial trivial trivial trivial) Tryz.func92 (by kernel_rfl) N_r15_Plain 0 [.d] (fun hwf=>(r15_Plain_spec m t (wfArg hwf (a:=.d (.agg (enc Ty.term t))) (List.mem_of_getElem? (i:=0) rfl)) (hob _ (List.mem_of_getElem? (i:=0) rfl)))),hasBody_of Tryz.func92 (by kernel_rfl) (by kernel_rfl)⟩
  · simp at h
theorem okAll_r15plainG : ∀ m,FnOK 92 (Fm_r15_Plain m)
  | 0=>by
    skip
    intro args ob rs os h hob
    unfold Fm_r15_Plain at h
    split at h
    · simp only[Option.bind_eq_some_iff,Option.some.injEq,Prod.mk.injEq] at h
      obtain⟨_,_,rfl,_,_⟩:=h
      exact absurd (hob _ (List.mem_of_getElem? (i:=0) rfl)) (Nat.not_lt_zero _)
    · simp at h
  | m+1=>by
    have ih:=okAll_r15plainG m
    exact okm_r15_Plain m ih
def F_r15_Plain : FnC Un:=fun args=>match args with
  | [x0]=>(dS .term x0).bind fun t=>some ([],A_r15_Plain (r15_Plain t),O_r15_Plain (r15_Plain t))
  | _=>none
theorem ok_r15_Plain : FnOK 92 F_r15_Plain:=by
  intro args ob rs os h hob
  unfold F_r15_Plain at h
  split at h
  · simp only[Option.bind_eq_some_iff,Option.some.injEq,Prod.mk.injEq] at h
    obtain⟨t,e0,rfl,rfl,rfl⟩:=h
    refine ((okAll_r15plainG (t.ht+1))) _ [t.ht<t.ht+1] _ _ (?_ : Fm_r15_Plain (t.ht+1) _=some _) ?_
    · unfold Fm_r15_Plain
      simp only[e0,Option.bind_some]
    · intro p hp
      simp only[List.mem_cons,List.not_mem_nil,or_false] at hp
      subst hp
      exact Nat.lt_succ_self _
  · simp at h
end
end Go.Proofs.YtolbngdhgcbmgaaGreat.B
