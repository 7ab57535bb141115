/- Part 16 of the proof: Ssame4 Ssame5. -/
import Derived.Test.YtolbngdhgcbmgaaGreatPonce15
namespace Go.Proofs.YtolbngdhgcbmgaaGreat.B
open Go Go.RowKit
set_option maxRecDepth 100000
noncomputable section
attribute [local irreducible] awp ctxK itersK iterK retQ retGQ awf ctxF loopF
def M_algebra_sameRow : Mc Un:=mach (tbl [(118,F_eql_val)]) (tbl []) (tbl []) (tbl []) (tbl [])
def A_algebra_sameRow (r:Bool) : List (A Un):=[.c (.s (.bool r))]
def O_algebra_sameRow (_r:Bool) : List (Ob Un):=[]
def R_algebra_sameRow (r:Bool) : RF Un:=(A_algebra_sameRow r,O_algebra_sameRow r)
def N_algebra_sameRow : Nat→NS:=fun l=>(look l []).getD ⟨[],[],[],[],[],false⟩
def algebra_sameRow_fn (a:List Val) (b:List Val) : Option (RF Un):=awf M_algebra_sameRow N_algebra_sameRow (bodyOf Tryz.f71) (entry Tryz.f71.ntmps 0 [.d (.v (.dat (U:=Un) Ty.val a)),.d (.v (.dat (U:=Un) Ty.val b))]) (retF M_algebra_sameRow Tryz.f71.results.toList [.d])
theorem algebra_sameRow_in (a:List Val) (b:List Val) : algebra_sameRow_fn a b=some (R_algebra_sameRow (eql_val a b)):=by kernel_rfl
def algebra_sameRow (a:List Val) (b:List Val) : Bool :=
  (eql_val a b)
theorem algebra_sameRow_eq (a:List Val) (b:List Val) : algebra_sameRow_fn a b=some (R_algebra_sameRow (algebra_sameRow a b)):=by rw[algebra_sameRow_in];unfold algebra_sameRow;simp only[cndO_eq];repeat (first | rfl | split)
def F_algebra_sameRow : FnC Un:=fun args=>match args with
  | [x0,x1]=>(dL .val x0).bind fun a=>(dL .val x1).bind fun b=>some ([],A_algebra_sameRow (algebra_sameRow a b),O_algebra_sameRow (algebra_sameRow a b))
  | _=>none
theorem ok_algebra_sameRow : FnOK 71 F_algebra_sameRow:=by
  intro args ob rs os h hob
  unfold F_algebra_sameRow at h
  split at h
  · simp only[Option.bind_eq_some_iff,Option.some.injEq,Prod.mk.injEq] at h
    obtain⟨a,e0,b,e1,rfl,rfl,rfl⟩:=h
    obtain rfl:=dL_eq e0
    obtain rfl:=dL_eq e1
    exact⟨fn_contractF (M:=M_algebra_sameRow) rfl (tbl_ok (l1:=[(118,F_eql_val)]) (l2:=[]) (l3:=[]) (l4:=[]) (l5:=[]) ⟨ok_eql_val,trivial⟩ trivial trivial trivial trivial) Tryz.func71 (by kernel_rfl) N_algebra_sameRow 0 [.d] (fun hwf=>(algebra_sameRow_eq a b)),hasBody_of Tryz.func71 (by kernel_rfl) (by kernel_rfl)⟩
  · simp at h
def V_algebra_sameRow : FV Un:=fvo_L_val_L_val_to_b (fun a b=>True) (fun a b=>algebra_sameRow a b)
theorem okV_algebra_sameRow : FvOK 71 V_algebra_sameRow:=by
  refine⟨hasBody_of Tryz.func71 (by kernel_rfl) (by kernel_rfl),fun args ob rs h hob=>?_⟩
  unfold V_algebra_sameRow fvo_L_val_L_val_to_b at h
  split at h
  · simp only[Option.bind_eq_some_iff,Option.some.injEq,Prod.mk.injEq] at h
    obtain⟨a,e0,b,e1,rfl,rfl⟩:=h
    simp only[List.map_cons,List.map_nil]
    rw[dL_eq e0]
    rw[dL_eq e1]
    refine Contract.data (ok_algebra_sameRow _ ([]) _ _ (?_ : F_algebra_sameRow _=some _) (by simp)).1
    unfold F_algebra_sameRow
    simp only[dL_mk]
    rfl
  · simp at h
def M_eqf_row : Mc Un:=mach (tbl []) (tbl []) (tbl []) (tbl []) (tbl [])
def A_eqf_row (r:Bool) : List (A Un):=[.c (.s (.bool r))]
def O_eqf_row (_r:Bool) : List (Ob Un):=[]
def R_eqf_row (r:Bool) : RF Un:=(A_eqf_row r,O_eqf_row r)
def N_eqf_row : Nat→NS:=fun l=>(look l [(4,{ ts:=bl 32 229446,bs:=bl 32 0,nm:=[] })]).getD ⟨[],[],[],[],[],false⟩
def eqf_row_s4 (a:List (List Val)) (b:List (List Val)) (eq_o:(List Val)→(List Val)→Prop) (eq:(List Val)→(List Val)→Bool) (v0:Int) : S Un:=(st 32 32 128 0 [(1,al .row b),(2,AV.one (A.c (C.fv (fvo_L_val_L_val_to_b eq_o eq)))),(6,ab false),(15,al .row a),(16,ai (↑a.length:Int)),(17,ai v0)] [] [])
def eqf_row_B4 : Code:=sub (bodyOf Tryz.f70) [1,1,0,1,2,2]
def eqf_row_L4 : S Un→Option (EX Un):=loopF (N_eqf_row 4) (fun s Q=>awf M_eqf_row N_eqf_row eqf_row_B4 s Q)
def eqf_row_C4 : Exit→S Un→Option (RF Un):=ctxF M_eqf_row N_eqf_row (bodyOf Tryz.f70) [1,1,0,1,2] (retF M_eqf_row Tryz.f70.results.toList [.d])
def eqf_row_fn (a:List (List Val)) (b:List (List Val)) (eq_o:(List Val)→(List Val)→Prop) (eq:(List Val)→(List Val)→Bool) : Option (RF Un):=awf M_eqf_row N_eqf_row (bodyOf Tryz.f70) (entry Tryz.f70.ntmps 0 [.d (.v (.dat (U:=Un) Ty.row a)),.d (.v (.dat (U:=Un) Ty.row b)),.fn (fvo_L_val_L_val_to_b eq_o eq)]) (retF M_eqf_row Tryz.f70.results.toList [.d])
theorem eqf_row_in (a:List (List Val)) (b:List (List Val)) (eq_o:(List Val)→(List Val)→Prop) (eq:(List Val)→(List Val)→Bool) : eqf_row_fn a b eq_o eq=cndO ((↑a.length:Int) != (↑b.length:Int)) (some (R_eqf_row (false))) ((eqf_row_L4 (eqf_row_s4 a b eq_o eq (0:Int))).bind (thenX eqf_row_C4)):=by kernel_rfl
theorem eqf_row_l4 (a:List (List Val)) (b:List (List Val)) (eq_o:(List Val)→(List Val)→Prop) (eq:(List Val)→(List Val)→Bool) (v0:Int) : eqf_row_L4 (eqf_row_s4 a b eq_o eq v0)=cndO (decide (v0<(↑a.length:Int))) (obO (0≤v0∧v0<(↑a.length:Int)) (obO (0≤v0∧v0<(↑b.length:Int)) (obO (eq_o (a.getD v0.toNat []) (b.getD v0.toNat [])) (cndO (!eq (a.getD v0.toNat []) (b.getD v0.toNat [])) (some (.ret,(eqf_row_s4 a b eq_o eq v0))) (eqf_row_L4 (eqf_row_s4 a b eq_o eq (IntKind.i64.wrap (v0+1)))))))) (some (.exit 0,(eqf_row_s4 a b eq_o eq v0))):=(loopF_eq (N_eqf_row 4) eqf_row_B4 _).trans (by kernel_rfl)
theorem eqf_row_a4_ret (a:List (List Val)) (b:List (List Val)) (eq_o:(List Val)→(List Val)→Prop) (eq:(List Val)→(List Val)→Bool) (v0:Int) : eqf_row_C4 .ret (eqf_row_s4 a b eq_o eq v0)=some (R_eqf_row (false)):=by kernel_rfl
theorem eqf_row_a4_x0 (a:List (List Val)) (b:List (List Val)) (eq_o:(List Val)→(List Val)→Prop) (eq:(List Val)→(List Val)→Bool) (v0:Int) : eqf_row_C4 (.exit 0) (eqf_row_s4 a b eq_o eq v0)=some (R_eqf_row (true)):=by kernel_rfl
def eqfO_row (o:List Val→List Val→Prop) (a b:List (List Val)) : Prop:=eqfO [] o a b
def eqf_row (a b:List (List Val)) (_o:List Val→List Val→Prop) (q:List Val→List Val→Bool) : Bool:=eqfA q a b
theorem eqf_row_spec (a b:List (List Val)) (o:List Val→List Val→Prop) (q:List Val→List Val→Bool) (ha:WL .row a) (_hb:WL .row b) (h:eqfO_row o a b) : eqf_row_fn a b o q=some (R_eqf_row (eqf_row a b o q)):=by
  rw[eqf_row_in,cndO_eq]
  unfold eqf_row
  by_cases hl : a.length=b.length
  · rw[if_neg (by simp [hl])]
    exact loop_all2 (L:=eqf_row_L4) (st:=fun i=>eqf_row_s4 a b o q i) (fun r=>some (R_eqf_row r)) (d:=[]) q hl ha.len
      (fun i hi=>by
        rw[eqf_row_l4]
        simp only[cndO_eq,Int.toNat_natCast]
        rw[if_pos (by simp;omega),obO_pos (by omega),obO_pos (by omega),obO_pos (h hl i hi)]
        cases q (a.getD i []) (b.getD i [])<;>simp)
      (by rw[eqf_row_l4];simp [cndO_eq]) (fun i=>eqf_row_a4_ret _ _ _ _ _) (eqf_row_a4_x0 _ _ _ _ _)
  · rw[if_pos (by simp;omega),eqfA_len hl]
def F_eqf_row : FnC Un:=fun args=>match args with
  | [x0,x1,x2]=>(dL .row x0).bind fun a=>(dL .row x1).bind fun b=>(dF x2).bind fun eq=>some ([eq=(fvo_L_val_L_val_to_b (po_L_val_L_val_to_b eq) (pf_L_val_L_val_to_b eq)),eqfO_row (po_L_val_L_val_to_b eq) a b],A_eqf_row (eqf_row a b (po_L_val_L_val_to_b eq) (pf_L_val_L_val_to_b eq)),O_eqf_row (eqf_row a b (po_L_val_L_val_to_b eq) (pf_L_val_L_val_to_b eq)))
  | _=>none
theorem ok_eqf_row : FnOK 70 F_eqf_row:=by
  intro args ob rs os h hob
  unfold F_eqf_row at h
  split at h
  · simp only[Option.bind_eq_some_iff,Option.some.injEq,Prod.mk.injEq] at h
    obtain⟨a,e0,b,e1,eq,e2,rfl,rfl,rfl⟩:=h
    obtain rfl:=dL_eq e0
    obtain rfl:=dL_eq e1
    obtain rfl:=dF_eq e2
    have hfv0:=hob _ (List.mem_of_getElem? (i:=0) rfl)
    generalize pf_L_val_L_val_to_b eq=pp0 at *
    generalize po_L_val_L_val_to_b eq=qq0 at *
    subst hfv0
    exact⟨fn_contractF (M:=M_eqf_row) rfl (tbl_ok (l1:=[]) (l2:=[]) (l3:=[]) (l4:=[]) (l5:=[]) trivial trivial trivial trivial trivial) Tryz.func70 (by kernel_rfl) N_eqf_row 0 [.d] (fun hwf=>(eqf_row_spec a b qq0 pp0 (wfArg hwf (a:=.d (.v (.dat (U:=Un) Ty.row a))) (List.mem_of_getElem? (i:=0) rfl)) (wfArg hwf (a:=.d (.v (.dat (U:=Un) Ty.row b))) (List.mem_of_getElem? (i:=1) rfl)) (hob _ (List.mem_of_getElem? (i:=1) rfl)))),hasBody_of Tryz.func70 (by kernel_rfl) (by kernel_rfl)⟩
  · simp at h
end
end Go.Proofs.YtolbngdhgcbmgaaGreat.B
namespace Go.Proofs.YtolbngdhgcbmgaaGreat.B
open Go Go.RowKit
set_option maxRecDepth 100000
noncomputable section
attribute [local irreducible] awp ctxK itersK iterK retQ retGQ awf ctxF loopF
noncomputable def algebra_SameTerm (a b:Term) : Bool:=deq a b
noncomputable def algebra_sameAgg (a b:Agg) : Bool:=deq a b
noncomputable def algebra_SameRel (a b:Rel) : Bool:=deq a b
theorem name_eq (a b:ByteArray) : a.toList=b.toList↔a=b:=by rw[← name_deq,beq_iff_eq]
theorem term_deq (a b:Term) : deq a b=true↔(a.op=b.op∧a.v=b.v∧a.depth=b.depth∧a.at_=b.at_∧a.name=b.name∧a.type=b.type∧a.kids=b.kids∧a.sub=b.sub):=by
  rw[deq_iff]
  constructor
  · rintro rfl;exact⟨rfl,rfl,rfl,rfl,rfl,rfl,rfl,rfl⟩
  · rintro ⟨h1,h2,h3,h4,h5,h6,h7,h8⟩
    rw[← term_eta a,← term_eta b,h1,h2,h3,h4,h5,h6,h7,h8]
theorem agg_deq (a b:Agg) : deq a b=true↔(a.name=b.name∧a.distinct=b.distinct∧a.t=b.t):=by
  rw[deq_iff]
  constructor
  · rintro rfl;exact⟨rfl,rfl,rfl⟩
  · rintro ⟨h1,h2,h3⟩
    rw[← agg_eta a,← agg_eta b,h1,h2,h3]
theorem rel_deq (a b:Rel) : deq a b=true↔(a.op=b.op∧a.table=b.table∧a.limit=b.limit∧a.skip=b.skip∧a.all=b.all∧a.cols=b.cols∧a.keys=b.keys∧a.rows=b.rows∧a.terms=b.terms∧a.aggs=b.aggs∧a.kids=b.kids):=by
  rw[deq_iff]
  constructor
  · rintro rfl;exact⟨rfl,rfl,rfl,rfl,rfl,rfl,rfl,rfl,rfl,rfl,rfl⟩
  · rintro ⟨h1,h2,h3,h4,h5,h6,h7,h8,h9,h10,h11⟩
    rw[← rel_eta a,← rel_eta b,h1,h2,h3,h4,h5,h6,h7,h8,h9,h10,h11]
theorem cndO_and {β:Type} (R:Bool→β) {q x:Bool} : cndO q (some (R x)) (some (R false))=some (R (q && x)):=by cases q<;>rfl
theorem Agg.ht_t {a:Agg} {k:Term} (h:k∈a.t) : k.ht<a.ht:=by
  cases a;simp only[Agg.t_mk] at h;simp only[Agg.ht];have:=htTs_mem h;omega
def A_algebra_SameTerm (r:Bool) : List (A Un):=[.c (.s (.bool r))]
def O_algebra_SameTerm (_r:Bool) : List (Ob Un):=[]
def Fm_algebra_SameTerm (m:Nat) : FnC Un:=fun args=>match args with
  | [x0,x1]=>(dS .term x0).bind fun a=>(dS .term x1).bind fun b=>some ([4*a.ht+1<m],A_algebra_SameTerm (algebra_SameTerm a b),O_algebra_SameTerm (algebra_SameTerm a b))
  | _=>none
def A_algebra_sameAgg (r:Bool) : List (A Un):=[.c (.s (.bool r))]
def O_algebra_sameAgg (_r:Bool) : List (Ob Un):=[]
def Fm_algebra_sameAgg (m:Nat) : FnC Un:=fun args=>match args with
  | [x0,x1]=>(dS .agg x0).bind fun a=>(dS .agg x1).bind fun b=>some ([4*a.ht+2<m],A_algebra_sameAgg (algebra_sameAgg a b),O_algebra_sameAgg (algebra_sameAgg a b))
  | _=>none
def A_algebra_SameRel (r:Bool) : List (A Un):=[.c (.s (.bool r))]
def O_algebra_SameRel (_r:Bool) : List (Ob Un):=[]
def Fm_algebra_SameRel (m:Nat) : FnC Un:=fun args=>match args with
  | [x0,x1]=>(dS .rel x0).bind fun a=>(dS .rel x1).bind fun b=>some ([4*a.ht+3<m],A_algebra_SameRel (algebra_SameRel a b),O_algebra_SameRel (algebra_SameRel a b))
  | _=>none
def Vm_algebra_SameTerm (m:Nat) : FV Un:=fvo_S_term_S_term_to_b (fun a b=>(4*a.ht+1<m)) (fun a b=>algebra_SameTerm a b)
theorem okVm_algebra_SameTerm (m:Nat) (h_algebra_SameTerm:FnOK 73 (Fm_algebra_SameTerm m)) : FvOK 73 (Vm_algebra_SameTerm m):=by
  refine⟨hasBody_of Tryz.func73 (by kernel_rfl) (by kernel_rfl),fun args ob rs h hob=>?_⟩
  unfold Vm_algebra_SameTerm fvo_S_term_S_term_to_b at h
  split at h
  · simp only[Option.bind_eq_some_iff,Option.some.injEq,Prod.mk.injEq] at h
    obtain⟨a,e0,b,e1,rfl,rfl⟩:=h
    simp only[List.map_cons,List.map_nil]
    rw[dS_eq e0]
    rw[dS_eq e1]
    refine Contract.data (h_algebra_SameTerm _ [4*a.ht+1<m] _ _ (?_ : Fm_algebra_SameTerm m _=some _) (fun p hp=>by rw[List.mem_singleton.1 hp];simpa using hob _ List.mem_cons_self)).1
    unfold Fm_algebra_SameTerm
    simp only[dSk_mk]
    rfl
  · simp at h
def Vm_algebra_sameAgg (m:Nat) : FV Un:=fvo_S_agg_S_agg_to_b (fun a b=>(4*a.ht+2<m)) (fun a b=>algebra_sameAgg a b)
theorem okVm_algebra_sameAgg (m:Nat) (h_algebra_sameAgg:FnOK 75 (Fm_algebra_sameAgg m)) : FvOK 75 (Vm_algebra_sameAgg m):=by
  refine⟨hasBody_of Tryz.func75 (by kernel_rfl) (by kernel_rfl),fun args ob rs h hob=>?_⟩
  unfold Vm_algebra_sameAgg fvo_S_agg_S_agg_to_b at h
  split at h
  · simp only[Option.bind_eq_some_iff,Option.some.injEq,Prod.mk.injEq] at h
    obtain⟨a,e0,b,e1,rfl,rfl⟩:=h
    simp only[List.map_cons,List.map_nil]
    rw[dS_eq e0]
    rw[dS_eq e1]
    refine Contract.data (h_algebra_sameAgg _ [4*a.ht+2<m] _ _ (?_ : Fm_algebra_sameAgg m _=some _) (fun p hp=>by rw[List.mem_singleton.1 hp];simpa using hob _ List.mem_cons_self)).1
    unfold Fm_algebra_sameAgg
    simp only[dSk_mk]
    rfl
  · simp at h
def Vm_algebra_SameRel (m:Nat) : FV Un:=fvo_S_rel_S_rel_to_b (fun a b=>(4*a.ht+3<m)) (fun a b=>algebra_SameRel a b)
theorem okVm_algebra_SameRel (m:Nat) (h_algebra_SameRel:FnOK 16 (Fm_algebra_SameRel m)) : FvOK 16 (Vm_algebra_SameRel m):=by
  refine⟨hasBody_of Tryz.func16 (by kernel_rfl) (by kernel_rfl),fun args ob rs h hob=>?_⟩
  unfold Vm_algebra_SameRel fvo_S_rel_S_rel_to_b at h
  split at h
  · simp only[Option.bind_eq_some_iff,Option.some.injEq,Prod.mk.injEq] at h
    obtain⟨a,e0,b,e1,rfl,rfl⟩:=h
    simp only[List.map_cons,List.map_nil]
    rw[dS_eq e0]
    rw[dS_eq e1]
    refine Contract.data (h_algebra_SameRel _ [4*a.ht+3<m] _ _ (?_ : Fm_algebra_SameRel m _=some _) (fun p hp=>by rw[List.mem_singleton.1 hp];simpa using hob _ List.mem_cons_self)).1
    unfold Fm_algebra_SameRel
    simp only[dSk_mk]
    rfl
  · simp at h
theorem vmo_SameTerm (m:Nat) : po_S_term_S_term_to_b (Vm_algebra_SameTerm m)=fun a _=>4*a.ht+1<m:=by unfold Vm_algebra_SameTerm;exact pofvo_S_term_S_term_to_b _ _
theorem vmf_SameTerm (m:Nat) : pf_S_term_S_term_to_b (Vm_algebra_SameTerm m)=deq:=by unfold Vm_algebra_SameTerm;rw[pffvo_S_term_S_term_to_b];unfold algebra_SameTerm;rfl
theorem vmv_SameTerm (m:Nat) : Vm_algebra_SameTerm m=fvo_S_term_S_term_to_b (po_S_term_S_term_to_b (Vm_algebra_SameTerm m)) (pf_S_term_S_term_to_b (Vm_algebra_SameTerm m)):=by unfold Vm_algebra_SameTerm;rw[pofvo_S_term_S_term_to_b,pffvo_S_term_S_term_to_b]
theorem vmo_sameAgg (m:Nat) : po_S_agg_S_agg_to_b (Vm_algebra_sameAgg m)=fun a _=>4*a.ht+2<m:=by unfold Vm_algebra_sameAgg;exact pofvo_S_agg_S_agg_to_b _ _
theorem vmf_sameAgg (m:Nat) : pf_S_agg_S_agg_to_b (Vm_algebra_sameAgg m)=deq:=by unfold Vm_algebra_sameAgg;rw[pffvo_S_agg_S_agg_to_b];unfold algebra_sameAgg;rfl
theorem vmv_sameAgg (m:Nat) : Vm_algebra_sameAgg m=fvo_S_agg_S_agg_to_b (po_S_agg_S_agg_to_b (Vm_algebra_sameAgg m)) (pf_S_agg_S_agg_to_b (Vm_algebra_sameAgg m)):=by unfold Vm_algebra_sameAgg;rw[pofvo_S_agg_S_agg_to_b,pffvo_S_agg_S_agg_to_b]
theorem vmo_SameRel (m:Nat) : po_S_rel_S_rel_to_b (Vm_algebra_SameRel m)=fun a _=>4*a.ht+3<m:=by unfold Vm_algebra_SameRel;exact pofvo_S_rel_S_rel_to_b _ _
theorem vmf_SameRel (m:Nat) : pf_S_rel_S_rel_to_b (Vm_algebra_SameRel m)=deq:=by unfold Vm_algebra_SameRel;rw[pffvo_S_rel_S_rel_to_b];unfold algebra_SameRel;rfl
theorem vmv_SameRel (m:Nat) : Vm_algebra_SameRel m=fvo_S_rel_S_rel_to_b (po_S_rel_S_rel_to_b (Vm_algebra_SameRel m)) (pf_S_rel_S_rel_to_b (Vm_algebra_SameRel m)):=by unfold Vm_algebra_SameRel;rw[pofvo_S_rel_S_rel_to_b,pffvo_S_rel_S_rel_to_b]
theorem vo_sameRow : po_L_val_L_val_to_b V_algebra_sameRow=fun _ _=>True:=by unfold V_algebra_sameRow;exact pofvo_L_val_L_val_to_b _ _
theorem vf_sameRow : pf_L_val_L_val_to_b V_algebra_sameRow=deq:=by unfold V_algebra_sameRow;rw[pffvo_L_val_L_val_to_b];unfold algebra_sameRow eql_val;rfl
theorem vv_sameRow : V_algebra_sameRow=fvo_L_val_L_val_to_b (po_L_val_L_val_to_b V_algebra_sameRow) (pf_L_val_L_val_to_b V_algebra_sameRow):=by unfold V_algebra_sameRow;rw[pofvo_L_val_L_val_to_b,pffvo_L_val_L_val_to_b]
def M_algebra_SameTerm (m:Nat) : Mc Un:=mach (tbl [(72,F_eqf_term),(76,F_eqf_rel)]) (tbl [(73,Vm_algebra_SameTerm m),(16,Vm_algebra_SameRel m)]) (tbl []) (tbl []) (tbl [])
def R_algebra_SameTerm (r:Bool) : RF Un:=(A_algebra_SameTerm r,O_algebra_SameTerm r)
def N_algebra_SameTerm : Nat→NS:=fun l=>(look l []).getD ⟨[],[],[],[],[],false⟩
def algebra_SameTerm_fn (m:Nat) (a:Term) (b:Term) : Option (RF Un):=awf (M_algebra_SameTerm m) N_algebra_SameTerm (bodyOf Tryz.f73) (entry Tryz.f73.ntmps 0 [.d (.agg (enc Ty.term a)),.d (.agg (enc Ty.term b))]) (retF (M_algebra_SameTerm m) Tryz.f73.results.toList [.d])
theorem algebra_SameTerm_in (m:Nat) (a:Term) (b:Term) : algebra_SameTerm_fn m a b=cndO (a.op == b.op) (cndO (andB [EK.int IntKind.i64,EK.str] (a.v.kind == b.v.kind) (andB [EK.str] (a.v.n == b.v.n) (andB [] (a.v.s.toList == b.v.s.toList) true))) (cndO (a.depth == b.depth) (cndO (a.at_ == b.at_) (cndO (a.name.toList == b.name.toList) (cndO (a.type == b.type) (obO (Vm_algebra_SameTerm m=fvo_S_term_S_term_to_b (po_S_term_S_term_to_b (Vm_algebra_SameTerm m)) (pf_S_term_S_term_to_b (Vm_algebra_SameTerm m))) (obO (eqfO_term (po_S_term_S_term_to_b (Vm_algebra_SameTerm m)) a.kids b.kids) (cndO (eqf_term a.kids b.kids (po_S_term_S_term_to_b (Vm_algebra_SameTerm m)) (pf_S_term_S_term_to_b (Vm_algebra_SameTerm m))) (obO (Vm_algebra_SameRel m=fvo_S_rel_S_rel_to_b (po_S_rel_S_rel_to_b (Vm_algebra_SameRel m)) (pf_S_rel_S_rel_to_b (Vm_algebra_SameRel m))) (obO (eqfO_rel (po_S_rel_S_rel_to_b (Vm_algebra_SameRel m)) a.sub b.sub) (some (R_algebra_SameTerm (eqf_rel a.sub b.sub (po_S_rel_S_rel_to_b (Vm_algebra_SameRel m)) (pf_S_rel_S_rel_to_b (Vm_algebra_SameRel m))))))) (some (R_algebra_SameTerm (false)))))) (some (R_algebra_SameTerm (false)))) (some (R_algebra_SameTerm (false)))) (some (R_algebra_SameTerm (false)))) (some (R_algebra_SameTerm (false)))) (some (R_algebra_SameTerm (false)))) (some (R_algebra_SameTerm (false))):=by kernel_rfl
theorem algebra_SameTerm_spec (m:Nat) (a b:Term) (_ha:WS .term a) (_hb:WS .term b) (h:4*a.ht+1<m+1) : algebra_SameTerm_fn m a b=some (R_algebra_SameTerm (algebra_SameTerm a b)):=by
  have o1:eqfO_term (po_S_term_S_term_to_b (Vm_algebra_SameTerm m)) a.kids b.kids:=by
    rw[vmo_SameTerm]
    intro _ i hi
    have:=Term.ht_kid (getD_mem (d:=zeroTerm) hi)
    show 4*_+1<m
    omega
  have o2:eqfO_rel (po_S_rel_S_rel_to_b (Vm_algebra_SameRel m)) a.sub b.sub:=by
    rw[vmo_SameRel]
    intro _ i hi
    have:=Term.ht_sub (getD_mem (d:=zeroRel) hi)
    show 4*_+3<m
    omega
  rw[algebra_SameTerm_in,eqVal,obO_pos (vmv_SameTerm m),obO_pos o1,obO_pos (vmv_SameRel m),obO_pos o2]
  simp only[cndO_and R_algebra_SameTerm,vmf_SameTerm,vmf_SameRel]
  congr 2
  unfold algebra_SameTerm eqf_term eqf_rel
  rw[eqfA_deq,eqfA_deq,Bool.eq_iff_iff,term_deq]
  simp only[Bool.and_eq_true,beq_iff_eq,name_eq,deq_iff]
theorem okm_algebra_SameTerm (m:Nat) (h_algebra_SameTerm:FnOK 73 (Fm_algebra_SameTerm m)) (h_algebra_sameAgg:FnOK 75 (Fm_algebra_sameAgg m)) (h_algebra_SameRel:FnOK 16 (Fm_algebra_SameRel m)) : FnOK 73 (Fm_algebra_SameTerm (m+1)):=by
  intro args ob rs os h hob
  unfold Fm_algebra_SameTerm at h
  split at h
  · simp only[Option.bind_eq_some_iff,Option.some.injEq,Prod.mk.injEq] at h
    obtain⟨a,e0,b,e1,rfl,rfl,rfl⟩:=h
    obtain rfl:=dS_eq e0
    obtain rfl:=dS_eq e1
    exact⟨fn_contractF (M:=(M_algebra_SameTerm m)) rfl (tbl_ok (l1:=[(72,F_eqf_term),(76,F_eqf_rel)]) (l2:=[(73,Vm_algebra_SameTerm m),(16,Vm_algebra_SameRel m)]) (l3:=[]) (l4:=[]) (l5:=[]) ⟨ok_eqf_term,ok_eqf_rel,trivial⟩ ⟨(okVm_algebra_SameTerm m h_algebra_SameTerm),(okVm_algebra_SameRel m h_algebra_SameRel),trivial⟩ trivial trivial trivial) Tryz.func73 (by kernel_rfl) N_algebra_SameTerm 0 [.d] (fun hwf=>(algebra_SameTerm_spec m a b (wfArg hwf (a:=.d (.agg (enc Ty.term a))) (List.mem_of_getElem? (i:=0) rfl)) (wfArg hwf (a:=.d (.agg (enc Ty.term b))) (List.mem_of_getElem? (i:=1) rfl)) (hob _ (List.mem_of_getElem? (i:=0) rfl)))),hasBody_of Tryz.func73 (by kernel_rfl) (by kernel_rfl)⟩
  · simp at h
def M_algebra_sameAgg (m:Nat) : Mc Un:=mach (tbl [(72,F_eqf_term)]) (tbl [(73,Vm_algebra_SameTerm m)]) (tbl []) (tbl []) (tbl [])
def R_algebra_sameAgg (r:Bool) : RF Un:=(A_algebra_sameAgg r,O_algebra_sameAgg r)
def N_algebra_sameAgg : Nat→NS:=fun l=>(look l []).getD ⟨[],[],[],[],[],false⟩
def algebra_sameAgg_fn (m:Nat) (a:Agg) (b:Agg) : Option (RF Un):=awf (M_algebra_sameAgg m) N_algebra_sameAgg (bodyOf Tryz.f75) (entry Tryz.f75.ntmps 0 [.d (.agg (enc Ty.agg a)),.d (.agg (enc Ty.agg b))]) (retF (M_algebra_sameAgg m) Tryz.f75.results.toList [.d])
theorem algebra_sameAgg_in (m:Nat) (a:Agg) (b:Agg) : algebra_sameAgg_fn m a b=cndO (a.name.toList == b.name.toList) (cndO (a.distinct == b.distinct) (obO (Vm_algebra_SameTerm m=fvo_S_term_S_term_to_b (po_S_term_S_term_to_b (Vm_algebra_SameTerm m)) (pf_S_term_S_term_to_b (Vm_algebra_SameTerm m))) (obO (eqfO_term (po_S_term_S_term_to_b (Vm_algebra_SameTerm m)) a.t b.t) (some (R_algebra_sameAgg (eqf_term a.t b.t (po_S_term_S_term_to_b (Vm_algebra_SameTerm m)) (pf_S_term_S_term_to_b (Vm_algebra_SameTerm m))))))) (some (R_algebra_sameAgg (false)))) (some (R_algebra_sameAgg (false))):=by kernel_rfl
theorem algebra_sameAgg_spec (m:Nat) (a b:Agg) (_ha:WS .agg a) (_hb:WS .agg b) (h:4*a.ht+2<m+1) : algebra_sameAgg_fn m a b=some (R_algebra_sameAgg (algebra_sameAgg a b)):=by
  have o1:eqfO_term (po_S_term_S_term_to_b (Vm_algebra_SameTerm m)) a.t b.t:=by
    rw[vmo_SameTerm]
    intro _ i hi
    have:=Agg.ht_t (getD_mem (d:=zeroTerm) hi)
    show 4*_+1<m
    omega
  rw[algebra_sameAgg_in,obO_pos (vmv_SameTerm m),obO_pos o1]
  simp only[cndO_and R_algebra_sameAgg,vmf_SameTerm]
  congr 2
  unfold algebra_sameAgg eqf_term
  rw[eqfA_deq,Bool.eq_iff_iff,agg_deq]
  simp only[Bool.and_eq_true,beq_iff_eq,name_eq,deq_iff]
theorem okm_algebra_sameAgg (m:Nat) (h_algebra_SameTerm:FnOK 73 (Fm_algebra_SameTerm m)) (h_algebra_sameAgg:FnOK 75 (Fm_algebra_sameAgg m)) (h_algebra_SameRel:FnOK 16 (Fm_algebra_SameRel m)) : FnOK 75 (Fm_algebra_sameAgg (m+1)):=by
  intro args ob rs os h hob
  unfold Fm_algebra_sameAgg at h
  split at h
  · simp only[Option.bind_eq_some_iff,Option.some.injEq,Prod.mk.injEq] at h
    obtain⟨a,e0,b,e1,rfl,rfl,rfl⟩:=h
    obtain rfl:=dS_eq e0
    obtain rfl:=dS_eq e1
    exact⟨fn_contractF (M:=(M_algebra_sameAgg m)) rfl (tbl_ok (l1:=[(72,F_eqf_term)]) (l2:=[(73,Vm_algebra_SameTerm m)]) (l3:=[]) (l4:=[]) (l5:=[]) ⟨ok_eqf_term,trivial⟩ ⟨(okVm_algebra_SameTerm m h_algebra_SameTerm),trivial⟩ trivial trivial trivial) Tryz.func75 (by kernel_rfl) N_algebra_sameAgg 0 [.d] (fun hwf=>(algebra_sameAgg_spec m a b (wfArg hwf (a:=.d (.agg (enc Ty.agg a))) (List.mem_of_getElem? (i:=0) rfl)) (wfArg hwf (a:=.d (.agg (enc Ty.agg b))) (List.mem_of_getElem? (i:=1) rfl)) (hob _ (List.mem_of_getElem? (i:=0) rfl)))),hasBody_of Tryz.func75 (by kernel_rfl) (by kernel_rfl)⟩
  · simp at h
def M_algebra_SameRel (m:Nat) : Mc Un:=mach (tbl [(68,F_eql_col),(69,F_eql_by),(70,F_eqf_row),(72,F_eqf_term),(74,F_eqf_agg),(76,F_eqf_rel)]) (tbl [(71,V_algebra_sameRow),(73,Vm_algebra_SameTerm m),(75,Vm_algebra_sameAgg m),(16,Vm_algebra_SameRel m)]) (tbl []) (tbl []) (tbl [])
def R_algebra_SameRel (r:Bool) : RF Un:=(A_algebra_SameRel r,O_algebra_SameRel r)
def N_algebra_SameRel : Nat→NS:=fun l=>(look l []).getD ⟨[],[],[],[],[],false⟩
def algebra_SameRel_fn (m:Nat) (a:Rel) (b:Rel) : Option (RF Un):=awf (M_algebra_SameRel m) N_algebra_SameRel (bodyOf Tryz.f16) (entry Tryz.f16.ntmps 0 [.d (.agg (enc Ty.rel a)),.d (.agg (enc Ty.rel b))]) (retF (M_algebra_SameRel m) Tryz.f16.results.toList [.d])
theorem algebra_SameRel_in (m:Nat) (a:Rel) (b:Rel) : algebra_SameRel_fn m a b=cndO (a.op == b.op) (cndO (a.table.toList == b.table.toList) (cndO (a.limit == b.limit) (cndO (a.skip == b.skip) (cndO (a.all == b.all) (cndO (eql_col a.cols b.cols) (cndO (eql_by a.keys b.keys) (obO (V_algebra_sameRow=fvo_L_val_L_val_to_b (po_L_val_L_val_to_b V_algebra_sameRow) (pf_L_val_L_val_to_b V_algebra_sameRow)) (obO (eqfO_row (po_L_val_L_val_to_b V_algebra_sameRow) a.rows b.rows) (cndO (eqf_row a.rows b.rows (po_L_val_L_val_to_b V_algebra_sameRow) (pf_L_val_L_val_to_b V_algebra_sameRow)) (obO (Vm_algebra_SameTerm m=fvo_S_term_S_term_to_b (po_S_term_S_term_to_b (Vm_algebra_SameTerm m)) (pf_S_term_S_term_to_b (Vm_algebra_SameTerm m))) (obO (eqfO_term (po_S_term_S_term_to_b (Vm_algebra_SameTerm m)) a.terms b.terms) (cndO (eqf_term a.terms b.terms (po_S_term_S_term_to_b (Vm_algebra_SameTerm m)) (pf_S_term_S_term_to_b (Vm_algebra_SameTerm m))) (obO (Vm_algebra_sameAgg m=fvo_S_agg_S_agg_to_b (po_S_agg_S_agg_to_b (Vm_algebra_sameAgg m)) (pf_S_agg_S_agg_to_b (Vm_algebra_sameAgg m))) (obO (eqfO_agg (po_S_agg_S_agg_to_b (Vm_algebra_sameAgg m)) a.aggs b.aggs) (cndO (eqf_agg a.aggs b.aggs (po_S_agg_S_agg_to_b (Vm_algebra_sameAgg m)) (pf_S_agg_S_agg_to_b (Vm_algebra_sameAgg m))) (obO (Vm_algebra_SameRel m=fvo_S_rel_S_rel_to_b (po_S_rel_S_rel_to_b (Vm_algebra_SameRel m)) (pf_S_rel_S_rel_to_b (Vm_algebra_SameRel m))) (obO (eqfO_rel (po_S_rel_S_rel_to_b (Vm_algebra_SameRel m)) a.kids b.kids) (some (R_algebra_SameRel (eqf_rel a.kids b.kids (po_S_rel_S_rel_to_b (Vm_algebra_SameRel m)) (pf_S_rel_S_rel_to_b (Vm_algebra_SameRel m))))))) (some (R_algebra_SameRel (false)))))) (some (R_algebra_SameRel (false)))))) (some (R_algebra_SameRel (false)))))) (some (R_algebra_SameRel (false)))) (some (R_algebra_SameRel (false)))) (some (R_algebra_SameRel (false)))) (some (R_algebra_SameRel (false)))) (some (R_algebra_SameRel (false)))) (some (R_algebra_SameRel (false)))) (some (R_algebra_SameRel (false))):=by kernel_rfl
theorem algebra_SameRel_spec (m:Nat) (a b:Rel) (_ha:WS .rel a) (_hb:WS .rel b) (h:4*a.ht+3<m+1) : algebra_SameRel_fn m a b=some (R_algebra_SameRel (algebra_SameRel a b)):=by
  have o0:eqfO_row (po_L_val_L_val_to_b V_algebra_sameRow) a.rows b.rows:=by
    rw[vo_sameRow]
    intro _ i hi
    trivial
  have o1:eqfO_term (po_S_term_S_term_to_b (Vm_algebra_SameTerm m)) a.terms b.terms:=by
    rw[vmo_SameTerm]
    intro _ i hi
    have:=Rel.ht_term (getD_mem (d:=zeroTerm) hi)
    show 4*_+1<m
    omega
  have o2:eqfO_agg (po_S_agg_S_agg_to_b (Vm_algebra_sameAgg m)) a.aggs b.aggs:=by
    rw[vmo_sameAgg]
    intro _ i hi
    have:=Rel.ht_agg (getD_mem (d:=zeroAgg) hi)
    show 4*_+2<m
    omega
  have o3:eqfO_rel (po_S_rel_S_rel_to_b (Vm_algebra_SameRel m)) a.kids b.kids:=by
    rw[vmo_SameRel]
    intro _ i hi
    have:=Rel.ht_kid (getD_mem (d:=zeroRel) hi)
    show 4*_+3<m
    omega
  rw[algebra_SameRel_in,obO_pos vv_sameRow,obO_pos o0,obO_pos (vmv_SameTerm m),obO_pos o1,obO_pos (vmv_sameAgg m),obO_pos o2,obO_pos (vmv_SameRel m),obO_pos o3]
  simp only[cndO_and R_algebra_SameRel,vmf_SameTerm,vmf_SameRel,vmf_sameAgg,vf_sameRow]
  congr 2
  unfold algebra_SameRel eqf_term eqf_rel eqf_agg eqf_row eql_col eql_by
  rw[eqfA_deq,eqfA_deq,eqfA_deq,eqfA_deq,Bool.eq_iff_iff,rel_deq]
  simp only[Bool.and_eq_true,beq_iff_eq,name_eq,deq_iff]
theorem okm_algebra_SameRel (m:Nat) (h_algebra_SameTerm:FnOK 73 (Fm_algebra_SameTerm m)) (h_algebra_sameAgg:FnOK 75 (Fm_algebra_sameAgg m)) (h_algebra_SameRel:FnOK 16 (Fm_algebra_SameRel m)) : FnOK 16 (Fm_algebra_SameRel (m+1)):=by
  intro args ob rs os h hob
  unfold Fm_algebra_SameRel at h
  split at h
  · simp only[Option.bind_eq_some_iff,Option.some.injEq,Prod.mk.injEq] at h
    obtain⟨a,e0,b,e1,rfl,rfl,rfl⟩:=h
    obtain rfl:=dS_eq e0
    obtain rfl:=dS_eq e1
    exact⟨fn_contractF (M:=(M_algebra_SameRel m)) rfl (tbl_ok (l1:=[(68,F_eql_col),(69,F_eql_by),(70,F_eqf_row),(72,F_eqf_term),(74,F_eqf_agg),(76,F_eqf_rel)]) (l2:=[(71,V_algebra_sameRow),(73,Vm_algebra_SameTerm m),(75,Vm_algebra_sameAgg m),(16,Vm_algebra_SameRel m)]) (l3:=[]) (l4:=[]) (l5:=[]) ⟨ok_eql_col,ok_eql_by,ok_eqf_row,ok_eqf_term,ok_eqf_agg,ok_eqf_rel,trivial⟩ ⟨okV_algebra_sameRow,(okVm_algebra_SameTerm m h_algebra_SameTerm),(okVm_algebra_sameAgg m h_algebra_sameAgg),(okVm_algebra_SameRel m h_algebra_SameRel),trivial⟩ trivial trivial trivial) Tryz.func16 (by kernel_rfl) N_algebra_SameRel 0 [.d] (fun hwf=>(algebra_SameRel_spec m a b (wfArg hwf (a:=.d (.agg (enc Ty.rel a))) (List.mem_of_getElem? (i:=0) rfl)) (wfArg hwf (a:=.d (.agg (enc Ty.rel b))) (List.mem_of_getElem? (i:=1) rfl)) (hob _ (List.mem_of_getElem? (i:=0) rfl)))),hasBody_of Tryz.func16 (by kernel_rfl) (by kernel_rfl)⟩
  · simp at h
theorem okAll_sameG : ∀ m,FnOK 73 (Fm_algebra_SameTerm m)∧FnOK 75 (Fm_algebra_sameAgg m)∧FnOK 16 (Fm_algebra_SameRel m)
  | 0=>by
    refine⟨?_,?_,?_⟩
    · intro args ob rs os h hob
      unfold Fm_algebra_SameTerm at h
      split at h
      · simp only[Option.bind_eq_some_iff,Option.some.injEq,Prod.mk.injEq] at h
        obtain⟨_,_,_,_,rfl,_,_⟩:=h
        exact absurd (hob _ (List.mem_of_getElem? (i:=0) rfl)) (Nat.not_lt_zero _)
      · simp at h
    · intro args ob rs os h hob
      unfold Fm_algebra_sameAgg at h
      split at h
      · simp only[Option.bind_eq_some_iff,Option.some.injEq,Prod.mk.injEq] at h
        obtain⟨_,_,_,_,rfl,_,_⟩:=h
        exact absurd (hob _ (List.mem_of_getElem? (i:=0) rfl)) (Nat.not_lt_zero _)
      · simp at h
    · intro args ob rs os h hob
      unfold Fm_algebra_SameRel at h
      split at h
      · simp only[Option.bind_eq_some_iff,Option.some.injEq,Prod.mk.injEq] at h
        obtain⟨_,_,_,_,rfl,_,_⟩:=h
        exact absurd (hob _ (List.mem_of_getElem? (i:=0) rfl)) (Nat.not_lt_zero _)
      · simp at h
  | m+1=>by
    have ih:=okAll_sameG m
    exact⟨okm_algebra_SameTerm m ih.1 ih.2.1 ih.2.2,okm_algebra_sameAgg m ih.1 ih.2.1 ih.2.2,okm_algebra_SameRel m ih.1 ih.2.1 ih.2.2⟩
def F_algebra_SameRel : FnC Un:=fun args=>match args with
  | [x0,x1]=>(dS .rel x0).bind fun a=>(dS .rel x1).bind fun b=>some ([],A_algebra_SameRel (algebra_SameRel a b),O_algebra_SameRel (algebra_SameRel a b))
  | _=>none
theorem ok_algebra_SameRel : FnOK 16 F_algebra_SameRel:=by
  intro args ob rs os h hob
  unfold F_algebra_SameRel at h
  split at h
  · simp only[Option.bind_eq_some_iff,Option.some.injEq,Prod.mk.injEq] at h
    obtain⟨a,e0,b,e1,rfl,rfl,rfl⟩:=h
    refine ((okAll_sameG (4*a.ht+3+1)).2.2) _ [4*a.ht+3<4*a.ht+3+1] _ _ (?_ : Fm_algebra_SameRel (4*a.ht+3+1) _=some _) ?_
    · unfold Fm_algebra_SameRel
      simp only[e0,e1,Option.bind_some]
    · intro p hp
      simp only[List.mem_cons,List.not_mem_nil,or_false] at hp
      subst hp
      exact Nat.lt_succ_self _
  · simp at h
end
end Go.Proofs.YtolbngdhgcbmgaaGreat.B
