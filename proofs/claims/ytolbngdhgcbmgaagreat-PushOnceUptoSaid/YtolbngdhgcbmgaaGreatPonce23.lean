/- Part 23 of the proof: Sconj5 Salg1 Spush1 Spush2. -/
import Derived.Test.YtolbngdhgcbmgaaGreatPonce22
namespace Go.Proofs.YtolbngdhgcbmgaaGreat.B
open Go Go.RowKit
set_option maxRecDepth 100000
noncomputable section
attribute [local irreducible] awp ctxK itersK iterK retQ retGQ awf ctxF loopF
def M_idxf_term : Mc Un:=mach (tbl []) (tbl []) (tbl []) (tbl []) (tbl [])
def A_idxf_term (r:Int) : List (A Un):=[.c (.s (.int .i64 r))]
def O_idxf_term (_r:Int) : List (Ob Un):=[]
def R_idxf_term (r:Int) : RF Un:=(A_idxf_term r,O_idxf_term r)
def N_idxf_term : Nat→NS:=fun l=>(look l [(2,{ ts:=bl 19 403,bs:=bl 19 0,nm:=[] })]).getD ⟨[],[],[],[],[],false⟩
def idxf_term_s2 (s:List Term) (f_o:Term→Prop) (f:Term→Bool) (v0:Int) : S Un:=(st 19 19 76 0 [(0,al .term s),(1,AV.one (A.c (C.fv (fvo_S_term_to_b f_o f)))),(4,ai (0:Int)),(7,ai (↑s.length:Int)),(8,ai v0)] [] [])
def idxf_term_e2_ret (s:List Term) (f_o:Term→Prop) (f:Term→Bool) (v0:Int) (v1:Int) : S Un:=(st 19 19 76 0 [(0,al .term s),(1,AV.one (A.c (C.fv (fvo_S_term_to_b f_o f)))),(4,ai v1),(7,ai (↑s.length:Int)),(8,ai v0)] [] [])
def idxf_term_B2 : Code:=sub (bodyOf Tryz.f142) [1,0,1,2,2]
def idxf_term_L2 : S Un→Option (EX Un):=loopF (N_idxf_term 2) (fun s Q=>awf M_idxf_term N_idxf_term idxf_term_B2 s Q)
def idxf_term_C2 : Exit→S Un→Option (RF Un):=ctxF M_idxf_term N_idxf_term (bodyOf Tryz.f142) [1,0,1,2] (retF M_idxf_term Tryz.f142.results.toList [.d])
def idxf_term_fn (s:List Term) (f_o:Term→Prop) (f:Term→Bool) : Option (RF Un):=awf M_idxf_term N_idxf_term (bodyOf Tryz.f142) (entry Tryz.f142.ntmps 0 [.d (.v (.dat (U:=Un) Ty.term s)),.fn (fvo_S_term_to_b f_o f)]) (retF M_idxf_term Tryz.f142.results.toList [.d])
theorem idxf_term_in (s:List Term) (f_o:Term→Prop) (f:Term→Bool) : idxf_term_fn s f_o f=(idxf_term_L2 (idxf_term_s2 s f_o f (0:Int))).bind (thenX idxf_term_C2):=by kernel_rfl
theorem idxf_term_l2 (s:List Term) (f_o:Term→Prop) (f:Term→Bool) (v0:Int) : idxf_term_L2 (idxf_term_s2 s f_o f v0)=cndO (decide (v0<(↑s.length:Int))) (obO (0≤v0∧v0<(↑s.length:Int)) (obO (f_o (Term.ids (s.getD v0.toNat zeroTerm))) (cndO (f (Term.ids (s.getD v0.toNat zeroTerm))) (some (.ret,(idxf_term_e2_ret s f_o f v0 v0))) (idxf_term_L2 (idxf_term_s2 s f_o f (IntKind.i64.wrap (v0+1))))))) (some (.exit 0,(idxf_term_s2 s f_o f v0))):=(loopF_eq (N_idxf_term 2) idxf_term_B2 _).trans (by kernel_rfl)
theorem idxf_term_a2_ret (s:List Term) (f_o:Term→Prop) (f:Term→Bool) (v0:Int) (v1:Int) : idxf_term_C2 .ret (idxf_term_e2_ret s f_o f v0 v1)=some (R_idxf_term (v1)):=by kernel_rfl
theorem idxf_term_a2_x0 (s:List Term) (f_o:Term→Prop) (f:Term→Bool) (v0:Int) : idxf_term_C2 (.exit 0) (idxf_term_s2 s f_o f v0)=some (R_idxf_term ((-1:Int))):=by kernel_rfl
def allO_term (o:Term→Prop) (s:List Term) : Prop:=∀ x∈s,o x
def idxf_term (s:List Term) (_o:Term→Prop) (f:Term→Bool) : Int:=match s.findIdx? f with | some i=>(i:Int) | none=>-1
theorem idxf_term_nonneg (s:List Term) (o:Term→Prop) (f:Term→Bool) : 0≤idxf_term s o f↔s.any f=true:=by
  unfold idxf_term
  cases h : s.findIdx? f with
  | none =>
    have:=List.findIdx?_eq_none_iff.1 h
    simp only[List.any_eq_true]
    constructor
    · intro h1;exact absurd h1 (by decide)
    · rintro ⟨x,hx,hf⟩;rw[this x hx] at hf;simp at hf
  | some i =>
    obtain⟨h1,h2,_⟩:=List.findIdx?_eq_some_iff_getElem.1 h
    simp only[List.any_eq_true]
    exact⟨fun _=>⟨s[i],List.getElem_mem h1,h2⟩,fun _=>by omega⟩
theorem idxf_term_spec (s:List Term) (o:Term→Prop) (f:Term→Bool) (hs:WL .term s) (ho:allO_term o s) : idxf_term_fn s o f=some (R_idxf_term (idxf_term s o f)):=by
  have key:∀ (r:List Term) (i:Nat),s.drop i=r→i≤s.length→(idxf_term_L2 (idxf_term_s2 s o f i)).bind (thenX idxf_term_C2)=some (R_idxf_term (match r.findIdx? f with | some k=>((i+k:Nat):Int) | none=>-1)):=by
    intro r
    induction r with
    | nil =>
      intro i hr hi
      have : s.length≤i:=by rw[← List.drop_eq_nil_iff];exact hr
      have e:idxf_term_L2 (idxf_term_s2 s o f i)=some (.exit 0,idxf_term_s2 s o f i):=by rw[idxf_term_l2,cndO_eq,if_neg (by simp;omega)]
      rw[loop_end e,idxf_term_a2_x0];rfl
    | cons x r ih =>
      intro i hr hi
      obtain⟨a1,a2,a3,hm⟩:=drop_cons hr
      have hx:s.getD i zeroTerm=x:=a2 zeroTerm
      by_cases hf : f x=true
      · have e:idxf_term_L2 (idxf_term_s2 s o f i)=some (.ret,idxf_term_e2_ret s o f i i):=by
          rw[idxf_term_l2,cndO_eq,if_pos (by simp;omega),obO_pos (by omega),Int.toNat_natCast,hx,Term.ids_eq,obO_pos (ho x hm),cndO_eq,if_pos hf]
        rw[loop_end e,idxf_term_a2_ret]
        simp [List.findIdx?_cons,hf]
      · have e:idxf_term_L2 (idxf_term_s2 s o f i)=idxf_term_L2 (idxf_term_s2 s o f ((i+1:Nat):Int)):=by
          rw[idxf_term_l2,cndO_eq,if_pos (by simp;omega),obO_pos (by omega),Int.toNat_natCast,hx,Term.ids_eq,obO_pos (ho x hm),cndO_eq,if_neg hf,wrap_next a1 hs.len]
        rw[e,ih (i+1) a3 (by omega)]
        congr 2
        simp only[List.findIdx?_cons,hf]
        cases r.findIdx? f with
        | none=>rfl
        | some k=>simp;omega
  rw[idxf_term_in]
  have:=key s 0 rfl (Nat.zero_le _)
  refine Eq.trans this ?_
  unfold idxf_term
  cases s.findIdx? f<;>simp
def F_idxf_term : FnC Un:=fun args=>match args with
  | [x0,x1]=>(dL .term x0).bind fun s=>(dF x1).bind fun f=>some ([f=(fvo_S_term_to_b (po_S_term_to_b f) (pf_S_term_to_b f)),allO_term (po_S_term_to_b f) s],A_idxf_term (idxf_term s (po_S_term_to_b f) (pf_S_term_to_b f)),O_idxf_term (idxf_term s (po_S_term_to_b f) (pf_S_term_to_b f)))
  | _=>none
theorem ok_idxf_term : FnOK 142 F_idxf_term:=by
  intro args ob rs os h hob
  unfold F_idxf_term at h
  split at h
  · simp only[Option.bind_eq_some_iff,Option.some.injEq,Prod.mk.injEq] at h
    obtain⟨s,e0,f,e1,rfl,rfl,rfl⟩:=h
    obtain rfl:=dL_eq e0
    obtain rfl:=dF_eq e1
    have hfv0:=hob _ (List.mem_of_getElem? (i:=0) rfl)
    generalize pf_S_term_to_b f=pp0 at *
    generalize po_S_term_to_b f=qq0 at *
    subst hfv0
    exact⟨fn_contractF (M:=M_idxf_term) rfl (tbl_ok (l1:=[]) (l2:=[]) (l3:=[]) (l4:=[]) (l5:=[]) trivial trivial trivial trivial trivial) Tryz.func142 (by kernel_rfl) N_idxf_term 0 [.d] (fun hwf=>(idxf_term_spec s qq0 pp0 (wfArg hwf (a:=.d (.v (.dat (U:=Un) Ty.term s))) (List.mem_of_getElem? (i:=0) rfl)) (hob _ (List.mem_of_getElem? (i:=1) rfl)))),hasBody_of Tryz.func142 (by kernel_rfl) (by kernel_rfl)⟩
  · simp at h
def M_conf_term : Mc Un:=mach (tbl [(142,F_idxf_term)]) (tbl []) (tbl []) (tbl []) (tbl [])
def A_conf_term (r:Bool) : List (A Un):=[.c (.s (.bool r))]
def O_conf_term (_r:Bool) : List (Ob Un):=[]
def R_conf_term (r:Bool) : RF Un:=(A_conf_term r,O_conf_term r)
def N_conf_term : Nat→NS:=fun l=>(look l []).getD ⟨[],[],[],[],[],false⟩
def conf_term_fn (s:List Term) (f_o:Term→Prop) (f:Term→Bool) : Option (RF Un):=awf M_conf_term N_conf_term (bodyOf Tryz.f103) (entry Tryz.f103.ntmps 0 [.d (.v (.dat (U:=Un) Ty.term s)),.fn (fvo_S_term_to_b f_o f)]) (retF M_conf_term Tryz.f103.results.toList [.d])
theorem conf_term_in (s:List Term) (f_o:Term→Prop) (f:Term→Bool) : conf_term_fn s f_o f=obO (fvo_S_term_to_b f_o f=fvo_S_term_to_b (po_S_term_to_b (fvo_S_term_to_b f_o f)) (pf_S_term_to_b (fvo_S_term_to_b f_o f))) (obO (allO_term (po_S_term_to_b (fvo_S_term_to_b f_o f)) s) (some (R_conf_term (decide (idxf_term s (po_S_term_to_b (fvo_S_term_to_b f_o f)) (pf_S_term_to_b (fvo_S_term_to_b f_o f))≥0))))):=by kernel_rfl
def conf_term (s:List Term) (_o:Term→Prop) (f:Term→Bool) : Bool:=s.any f
theorem conf_term_spec (s:List Term) (o:Term→Prop) (f:Term→Bool) (_hs:WL .term s) (ho:allO_term o s) : conf_term_fn s o f=some (R_conf_term (conf_term s o f)):=by
  rw[conf_term_in]
  simp only[pofvo_S_term_to_b,pffvo_S_term_to_b]
  rw[obO_pos trivial,obO_pos ho]
  unfold conf_term
  congr 2
  have:=idxf_term_nonneg s o f
  cases h : s.any f with
  | true=>simp;exact this.2 h
  | false =>
    have : ¬ 0≤idxf_term s o f:=fun e=>by rw[this.1 e] at h;simp at h
    simpa using this
def F_conf_term : FnC Un:=fun args=>match args with
  | [x0,x1]=>(dL .term x0).bind fun s=>(dF x1).bind fun f=>some ([f=(fvo_S_term_to_b (po_S_term_to_b f) (pf_S_term_to_b f)),allO_term (po_S_term_to_b f) s],A_conf_term (conf_term s (po_S_term_to_b f) (pf_S_term_to_b f)),O_conf_term (conf_term s (po_S_term_to_b f) (pf_S_term_to_b f)))
  | _=>none
theorem ok_conf_term : FnOK 103 F_conf_term:=by
  intro args ob rs os h hob
  unfold F_conf_term at h
  split at h
  · simp only[Option.bind_eq_some_iff,Option.some.injEq,Prod.mk.injEq] at h
    obtain⟨s,e0,f,e1,rfl,rfl,rfl⟩:=h
    obtain rfl:=dL_eq e0
    obtain rfl:=dF_eq e1
    have hfv0:=hob _ (List.mem_of_getElem? (i:=0) rfl)
    generalize pf_S_term_to_b f=pp0 at *
    generalize po_S_term_to_b f=qq0 at *
    subst hfv0
    exact⟨fn_contractF (M:=M_conf_term) rfl (tbl_ok (l1:=[(142,F_idxf_term)]) (l2:=[]) (l3:=[]) (l4:=[]) (l5:=[]) ⟨ok_idxf_term,trivial⟩ trivial trivial trivial trivial) Tryz.func103 (by kernel_rfl) N_conf_term 0 [.d] (fun hwf=>(conf_term_spec s qq0 pp0 (wfArg hwf (a:=.d (.v (.dat (U:=Un) Ty.term s))) (List.mem_of_getElem? (i:=0) rfl)) (hob _ (List.mem_of_getElem? (i:=1) rfl)))),hasBody_of Tryz.func103 (by kernel_rfl) (by kernel_rfl)⟩
  · simp at h
end
end Go.Proofs.YtolbngdhgcbmgaaGreat.B
namespace Go.Proofs.YtolbngdhgcbmgaaGreat.B
open Go Go.RowKit
set_option maxRecDepth 100000
noncomputable section
attribute [local irreducible] awp ctxK itersK iterK retQ retGQ awf ctxF loopF
def M_ev1_term : Mc Un:=mach (tbl []) (tbl []) (tbl []) (tbl []) (tbl [])
def A_ev1_term (r:Bool) : List (A Un):=[.c (.s (.bool r))]
def O_ev1_term (_r:Bool) : List (Ob Un):=[]
def R_ev1_term (r:Bool) : RF Un:=(A_ev1_term r,O_ev1_term r)
def N_ev1_term : Nat→NS:=fun l=>(look l []).getD ⟨[],[],[],[],[],false⟩
def ev1_term_fn (x:Term) (so_o:Term→Prop) (so:Term→Bool) : Option (RF Un):=awf M_ev1_term N_ev1_term (bodyOf Tryz.f104) (entry Tryz.f104.ntmps 0 [.d (.agg (enc Ty.term x)),.box [.fn (fvo_S_term_to_b so_o so)]]) (retF M_ev1_term Tryz.f104.results.toList [.d])
theorem ev1_term_in (x:Term) (so_o:Term→Prop) (so:Term→Bool) : ev1_term_fn x so_o so=obO (so_o (Term.ids x)) (some (R_ev1_term (!so (Term.ids x)))):=by kernel_rfl
def ev1_term (x:Term) (_so_o:Term→Prop) (so:Term→Bool) : Bool:=!so x
theorem ev1_term_spec (x:Term) (so_o:Term→Prop) (so:Term→Bool) (_h:WS .term x) (h:so_o x) : ev1_term_fn x so_o so=some (R_ev1_term (ev1_term x so_o so)):=by
  rw[ev1_term_in,Term.ids_eq,obO_pos h]
  rfl
def L_ev1_term : List (List (DC Un))→Option (FV Un):=fun dl=>match dl with
  | [b0]=>(bF b0).bind fun so=>some (fvo_S_term_to_b (fun x=>(so=fvo_S_term_to_b (po_S_term_to_b so) (pf_S_term_to_b so))∧((po_S_term_to_b so) x)) (fun x=>ev1_term x (po_S_term_to_b so) (pf_S_term_to_b so)))
  | _=>none
theorem okL_ev1_term : ClOK 104 L_ev1_term:=by
  refine⟨hasBody_of Tryz.func104 (by kernel_rfl) (by kernel_rfl),fun dl φ args ob rs hF hφ hob=>?_⟩
  unfold L_ev1_term at hF
  split at hF
  · simp only[Option.bind_eq_some_iff,Option.some.injEq] at hF
    obtain⟨so,g0,hE⟩:=hF
    subst hE
    obtain rfl:=bF_eq g0
    unfold fvo_S_term_to_b at hφ
    split at hφ
    · simp only[Option.bind_eq_some_iff,Option.some.injEq,Prod.mk.injEq] at hφ
      obtain⟨x,e0,rfl,rfl⟩:=hφ
      simp only[List.map_cons,List.map_nil,List.cons_append,List.nil_append]
      rw[dS_eq e0]
      have hfv0:=(hob _ (List.mem_of_getElem? (i:=0) rfl)).1
      generalize pf_S_term_to_b so=pp0 at *
      generalize po_S_term_to_b so=qq0 at *
      subst hfv0
      exact Contract.data (fn_contractF (M:=M_ev1_term) rfl (tbl_ok (l1:=[]) (l2:=[]) (l3:=[]) (l4:=[]) (l5:=[]) trivial trivial trivial trivial trivial) Tryz.func104 (by kernel_rfl) N_ev1_term 0 [.d] (fun hwf=>(ev1_term_spec x qq0 pp0 (wfArg hwf (a:=.d (.agg (enc Ty.term x))) (List.mem_of_getElem? (i:=0) rfl)) ((hob _ (List.mem_of_getElem? (i:=0) rfl)).2))))
    · simp at hφ
  · simp at hF
def M_ev_term : Mc Un:=mach (tbl [(103,F_conf_term)]) (tbl []) (tbl [(104,L_ev1_term)]) (tbl []) (tbl [])
def A_ev_term (r:Bool) : List (A Un):=[.c (.s (.bool r))]
def O_ev_term (_r:Bool) : List (Ob Un):=[]
def R_ev_term (r:Bool) : RF Un:=(A_ev_term r,O_ev_term r)
def N_ev_term : Nat→NS:=fun l=>(look l []).getD ⟨[],[],[],[],[],false⟩
def ev_term_fn (l:List Term) (so_o:Term→Prop) (so:Term→Bool) : Option (RF Un):=awf M_ev_term N_ev_term (bodyOf Tryz.f55) (entry Tryz.f55.ntmps 0 [.d (.v (.dat (U:=Un) Ty.term l)),.fn (fvo_S_term_to_b so_o so)]) (retF M_ev_term Tryz.f55.results.toList [.d])
theorem ev_term_in (l:List Term) (so_o:Term→Prop) (so:Term→Bool) : ev_term_fn l so_o so=obO ((fvo_S_term_to_b (fun x=>fvo_S_term_to_b so_o so=fvo_S_term_to_b (po_S_term_to_b (fvo_S_term_to_b so_o so)) (pf_S_term_to_b (fvo_S_term_to_b so_o so))∧po_S_term_to_b (fvo_S_term_to_b so_o so) x) fun x=>ev1_term x (po_S_term_to_b (fvo_S_term_to_b so_o so)) (pf_S_term_to_b (fvo_S_term_to_b so_o so)))=fvo_S_term_to_b (po_S_term_to_b (fvo_S_term_to_b (fun x=>fvo_S_term_to_b so_o so=fvo_S_term_to_b (po_S_term_to_b (fvo_S_term_to_b so_o so)) (pf_S_term_to_b (fvo_S_term_to_b so_o so))∧po_S_term_to_b (fvo_S_term_to_b so_o so) x) fun x=>ev1_term x (po_S_term_to_b (fvo_S_term_to_b so_o so)) (pf_S_term_to_b (fvo_S_term_to_b so_o so)))) (pf_S_term_to_b (fvo_S_term_to_b (fun x=>fvo_S_term_to_b so_o so=fvo_S_term_to_b (po_S_term_to_b (fvo_S_term_to_b so_o so)) (pf_S_term_to_b (fvo_S_term_to_b so_o so))∧po_S_term_to_b (fvo_S_term_to_b so_o so) x) fun x=>ev1_term x (po_S_term_to_b (fvo_S_term_to_b so_o so)) (pf_S_term_to_b (fvo_S_term_to_b so_o so))))) (obO (allO_term (po_S_term_to_b (fvo_S_term_to_b (fun x=>fvo_S_term_to_b so_o so=fvo_S_term_to_b (po_S_term_to_b (fvo_S_term_to_b so_o so)) (pf_S_term_to_b (fvo_S_term_to_b so_o so))∧po_S_term_to_b (fvo_S_term_to_b so_o so) x) fun x=>ev1_term x (po_S_term_to_b (fvo_S_term_to_b so_o so)) (pf_S_term_to_b (fvo_S_term_to_b so_o so)))) l) (some (R_ev_term (!conf_term l (po_S_term_to_b (fvo_S_term_to_b (fun x=>fvo_S_term_to_b so_o so=fvo_S_term_to_b (po_S_term_to_b (fvo_S_term_to_b so_o so)) (pf_S_term_to_b (fvo_S_term_to_b so_o so))∧po_S_term_to_b (fvo_S_term_to_b so_o so) x) fun x=>ev1_term x (po_S_term_to_b (fvo_S_term_to_b so_o so)) (pf_S_term_to_b (fvo_S_term_to_b so_o so)))) (pf_S_term_to_b (fvo_S_term_to_b (fun x=>fvo_S_term_to_b so_o so=fvo_S_term_to_b (po_S_term_to_b (fvo_S_term_to_b so_o so)) (pf_S_term_to_b (fvo_S_term_to_b so_o so))∧po_S_term_to_b (fvo_S_term_to_b so_o so) x) fun x=>ev1_term x (po_S_term_to_b (fvo_S_term_to_b so_o so)) (pf_S_term_to_b (fvo_S_term_to_b so_o so)))))))):=by kernel_rfl
def ev_term (l:List Term) (_so_o:Term→Prop) (so:Term→Bool) : Bool:=l.all so
theorem ev_term_spec (l:List Term) (so_o:Term→Prop) (so:Term→Bool) (_hl:WL .term l) (h:allO_term so_o l) : ev_term_fn l so_o so=some (R_ev_term (ev_term l so_o so)):=by
  rw[ev_term_in]
  simp only[pofvo_S_term_to_b,pffvo_S_term_to_b]
  rw[obO_pos trivial,obO_pos (show allO_term _ l from fun x hx=>⟨trivial,h x hx⟩)]
  unfold ev_term conf_term ev1_term
  congr 2
  clear _hl h
  induction l with
  | nil=>rfl
  | cons x l ih =>
    rw[List.any_cons,List.all_cons,Bool.not_or,Bool.not_not,ih]
def F_ev_term : FnC Un:=fun args=>match args with
  | [x0,x1]=>(dL .term x0).bind fun l=>(dF x1).bind fun so=>some ([so=(fvo_S_term_to_b (po_S_term_to_b so) (pf_S_term_to_b so)),allO_term (po_S_term_to_b so) l],A_ev_term (ev_term l (po_S_term_to_b so) (pf_S_term_to_b so)),O_ev_term (ev_term l (po_S_term_to_b so) (pf_S_term_to_b so)))
  | _=>none
theorem ok_ev_term : FnOK 55 F_ev_term:=by
  intro args ob rs os h hob
  unfold F_ev_term at h
  split at h
  · simp only[Option.bind_eq_some_iff,Option.some.injEq,Prod.mk.injEq] at h
    obtain⟨l,e0,so,e1,rfl,rfl,rfl⟩:=h
    obtain rfl:=dL_eq e0
    obtain rfl:=dF_eq e1
    have hfv0:=hob _ (List.mem_of_getElem? (i:=0) rfl)
    generalize pf_S_term_to_b so=pp0 at *
    generalize po_S_term_to_b so=qq0 at *
    subst hfv0
    exact⟨fn_contractF (M:=M_ev_term) rfl (tbl_ok (l1:=[(103,F_conf_term)]) (l2:=[]) (l3:=[(104,L_ev1_term)]) (l4:=[]) (l5:=[]) ⟨ok_conf_term,trivial⟩ trivial ⟨okL_ev1_term,trivial⟩ trivial trivial) Tryz.func55 (by kernel_rfl) N_ev_term 0 [.d] (fun hwf=>(ev_term_spec l qq0 pp0 (wfArg hwf (a:=.d (.v (.dat (U:=Un) Ty.term l))) (List.mem_of_getElem? (i:=0) rfl)) (hob _ (List.mem_of_getElem? (i:=1) rfl)))),hasBody_of Tryz.func55 (by kernel_rfl) (by kernel_rfl)⟩
  · simp at h
end
end Go.Proofs.YtolbngdhgcbmgaaGreat.B
namespace Go.Proofs.YtolbngdhgcbmgaaGreat.B
open Go Go.RowKit
set_option maxRecDepth 100000
noncomputable section
attribute [local irreducible] awp ctxK itersK iterK retQ retGQ awf ctxF loopF
def M_push_filter : Mc Un:=mach (tbl [(129,F_conj_Join)]) (tbl []) (tbl []) (tbl []) (tbl [])
def A_push_filter (r:Rel) : List (A Un):=[.agg (encC Ty.rel r)]
def O_push_filter (_r:Rel) : List (Ob Un):=[]
def R_push_filter (r:Rel) : RF Un:=(A_push_filter r,O_push_filter r)
def N_push_filter : Nat→NS:=fun l=>(look l []).getD ⟨[],[],[],[],[],true⟩
def push_filter_fn (r:Rel) (parts:List Term) : Option (RF Un):=awf M_push_filter N_push_filter (bodyOf Tryz.f121) (entry Tryz.f121.ntmps 0 [.d (.agg (enc Ty.rel r)),.d (.v (.dat (U:=Un) Ty.term parts))]) (retF M_push_filter Tryz.f121.results.toList [.d])
theorem push_filter_in (r:Rel) (parts:List Term) : push_filter_fn r parts=cndO ((↑parts.length:Int) == (0:Int)) (some (R_push_filter (r))) (some (R_push_filter (Rel.mk (3:Int) (ByteArray.mk #[]) r.cols [(Rel.ids r)] [(Term.ids (conj_Join parts))] [] [] (0:Int) (0:Int) false []))):=by kernel_rfl
def push_filter (r:Rel) (parts:List Term) : Rel:=pushFilter r parts
theorem push_filter_spec (r:Rel) (parts:List Term) (_hr:WS .rel r) (_hp:WL .term parts) : push_filter_fn r parts=some (R_push_filter (push_filter r parts)):=by
  rw[push_filter_in]
  unfold push_filter pushFilter
  simp only[cndO_eq,beq_iff_eq,Rel.ids_eq,Term.ids_eq,conj_Join_eq]
  by_cases h : parts.length=0
  · rw[if_pos (by omega),if_pos h]
  · rw[if_neg (by omega),if_neg h]
def F_push_filter : FnC Un:=fun args=>match args with
  | [x0,x1]=>(dS .rel x0).bind fun r=>(dL .term x1).bind fun parts=>some ([],A_push_filter (push_filter r parts),O_push_filter (push_filter r parts))
  | _=>none
theorem ok_push_filter : FnOK 121 F_push_filter:=by
  intro args ob rs os h hob
  unfold F_push_filter at h
  split at h
  · simp only[Option.bind_eq_some_iff,Option.some.injEq,Prod.mk.injEq] at h
    obtain⟨r,e0,parts,e1,rfl,rfl,rfl⟩:=h
    obtain rfl:=dS_eq e0
    obtain rfl:=dL_eq e1
    exact⟨fn_contractF (M:=M_push_filter) rfl (tbl_ok (l1:=[(129,F_conj_Join)]) (l2:=[]) (l3:=[]) (l4:=[]) (l5:=[]) ⟨ok_conj_Join,trivial⟩ trivial trivial trivial trivial) Tryz.func121 (by kernel_rfl) N_push_filter 0 [.d] (fun hwf=>(push_filter_spec r parts (wfArg hwf (a:=.d (.agg (enc Ty.rel r))) (List.mem_of_getElem? (i:=0) rfl)) (wfArg hwf (a:=.d (.v (.dat (U:=Un) Ty.term parts))) (List.mem_of_getElem? (i:=1) rfl)))),hasBody_of Tryz.func121 (by kernel_rfl) (by kernel_rfl)⟩
  · simp at h
def M_push_parted : Mc Un:=mach (tbl []) (tbl []) (tbl []) (tbl []) (tbl [])
def A_push_parted (r:List Term×List Term) : List (A Un):=[.c (.ob 0 0),.c (.ob 1 0)]
def O_push_parted (r:List Term×List Term) : List (Ob Un):=[⟨0,Ty.term,r.1,some 0,true⟩,⟨0,Ty.term,r.2,some 0,true⟩]
def R_push_parted (r:List Term×List Term) : RF Un:=(A_push_parted r,O_push_parted r)
def N_push_parted : Nat→NS:=fun l=>(look l [(2,{ ts:=bl 28 1842,bs:=bl 28 0,nm:=[(.sl 4,112),(.sl 5,113)],cs:=true })]).getD ⟨[],[],[],[],[],true⟩
def push_parted_s2 (l:List Term) (so_o:Term→Prop) (so:Term→Bool) (v0:Int) (v1:List Term) (v2:List Term) : S Un:=(st 28 28 114 0 [(1,AV.one (A.c (C.fv (fvo_S_term_to_b so_o so)))),(4,ao 112),(5,ao 113),(8,al .term l),(9,ai (↑l.length:Int)),(10,ai v0)] [] [(112,some ⟨(0:Nat),Ty.term,v1,some (0:Nat),true⟩),(113,some ⟨(0:Nat),Ty.term,v2,some (0:Nat),true⟩)])
def push_parted_B2 : Code:=sub (bodyOf Tryz.f124) [1,0,1,2,2]
def push_parted_L2 : S Un→Option (EX Un):=loopF (N_push_parted 2) (fun s Q=>awf M_push_parted N_push_parted push_parted_B2 s Q)
def push_parted_C2 : Exit→S Un→Option (RF Un):=ctxF M_push_parted N_push_parted (bodyOf Tryz.f124) [1,0,1,2] (retF M_push_parted Tryz.f124.results.toList [.m,.m])
def push_parted_fn (l:List Term) (so_o:Term→Prop) (so:Term→Bool) : Option (RF Un):=awf M_push_parted N_push_parted (bodyOf Tryz.f124) (entry Tryz.f124.ntmps 2 [.d (.v (.dat (U:=Un) Ty.term l)),.fn (fvo_S_term_to_b so_o so)]) (retF M_push_parted Tryz.f124.results.toList [.m,.m])
theorem push_parted_in (l:List Term) (so_o:Term→Prop) (so:Term→Bool) : push_parted_fn l so_o so=(push_parted_L2 (push_parted_s2 l so_o so (0:Int) ([]) ([]))).bind (thenX push_parted_C2):=by kernel_rfl
theorem push_parted_l2 (l:List Term) (so_o:Term→Prop) (so:Term→Bool) (v0:Int) (v1:List Term) (v2:List Term) : push_parted_L2 (push_parted_s2 l so_o so v0 v1 v2)=cndO (decide (v0<(↑l.length:Int))) (obO (0≤v0∧v0<(↑l.length:Int)) (obO (so_o (Term.ids (l.getD v0.toNat zeroTerm))) (cndO (so (Term.ids (l.getD v0.toNat zeroTerm))) (obO ((v1.length+[(Term.ids (l.getD v0.toNat zeroTerm))].length)*(128:Nat)≤roomB) (push_parted_L2 (push_parted_s2 l so_o so (IntKind.i64.wrap (v0+1)) (v1++[(Term.ids (l.getD v0.toNat zeroTerm))]) v2))) (obO ((v2.length+[(Term.ids (l.getD v0.toNat zeroTerm))].length)*(128:Nat)≤roomB) (push_parted_L2 (push_parted_s2 l so_o so (IntKind.i64.wrap (v0+1)) v1 (v2++[(Term.ids (l.getD v0.toNat zeroTerm))]))))))) (some (.exit 0,(push_parted_s2 l so_o so v0 v1 v2))):=(loopF_eq (N_push_parted 2) push_parted_B2 _).trans (by kernel_rfl)
theorem push_parted_a2_x0 (l:List Term) (so_o:Term→Prop) (so:Term→Bool) (v0:Int) (v1:List Term) (v2:List Term) : push_parted_C2 (.exit 0) (push_parted_s2 l so_o so v0 v1 v2)=some (R_push_parted (v1,v2)):=by kernel_rfl
def allOT (o:Term→Prop) (l:List Term) : Prop:=(∀ x∈l,o x)∧l.length≤2000000
def push_parted (l:List Term) (_so_o:Term→Prop) (so:Term→Bool) : List Term×List Term:=(l.filter so,l.filter fun x=>!so x)
theorem parted_fold (so:Term→Bool) : ∀ (l:List Term) (a b:List Term),l.foldl (fun (s:List Term×List Term) x=>if so x=true then (s.1++[x],s.2) else (s.1,s.2++[x])) (a,b)=(a++l.filter so,b++l.filter fun x=>!so x)
  | [],a,b=>by simp
  | x::l,a,b=>by
    rw[List.foldl_cons]
    cases h : so x
    · rw[if_neg (by decide),parted_fold so l]
      rw[List.filter_cons_of_neg (by simp [h]),List.filter_cons_of_pos (by simp [h])];simp
    · rw[if_pos rfl,parted_fold so l]
      rw[List.filter_cons_of_pos (by simp [h]),List.filter_cons_of_neg (by simp [h])];simp
theorem push_parted_spec (l:List Term) (so_o:Term→Prop) (so:Term→Bool) (hl:WL .term l) (h:allOT so_o l) : push_parted_fn l so_o so=some (R_push_parted (push_parted l so_o so)):=by
  obtain⟨ho,hlen⟩:=h
  obtain⟨lp,_⟩:=loop_fold (e:=.exit 0) (L:=push_parted_L2) (st:=fun (s:List Term×List Term) i=>push_parted_s2 l so_o so i s.1 s.2) (l:=l) (d:=zeroTerm) (g:=fun s x=>if so x=true then (s.1++[x],s.2) else (s.1,s.2++[x])) (fun i s=>s.1.length+s.2.length=i) hl.len
    (fun s i x hi hx hI=>by
      have hI':s.1.length+s.2.length=i:=hI
      have hmem:x∈l:=by rw[← hx,List.getD_eq_getElem?_getD,List.getElem?_eq_getElem (by omega)];exact List.getElem_mem _
      refine⟨?_,?_⟩
      · show (if so x=true then (s.1++[x],s.2) else (s.1,s.2++[x])).1.length+(if so x=true then (s.1++[x],s.2) else (s.1,s.2++[x])).2.length=i+1
        split
        · simp only[List.length_append,List.length_singleton];omega
        · simp only[List.length_append,List.length_singleton];omega
      · rw[push_parted_l2]
        simp only[cndO_eq,hi,decide_true,if_true,and_true,Int.toNat_natCast,hx,Term.ids_eq]
        rw[obO_pos (by omega),obO_pos (ho x hmem),obO_pos (by unfold roomB;rw[List.length_singleton];omega),obO_pos (by unfold roomB;rw[List.length_singleton];omega)]
        split<;>rfl)
    (fun s _=>by rw[push_parted_l2];simp [cndO_eq]) ([],[]) rfl
  rw[parted_fold,List.nil_append,List.nil_append] at lp
  rw[push_parted_in]
  refine (loop_end lp).trans ?_
  rw[push_parted_a2_x0]
  rfl
def F_push_parted : FnC Un:=fun args=>match args with
  | [x0,x1]=>(dL .term x0).bind fun l=>(dF x1).bind fun so=>some ([so=(fvo_S_term_to_b (po_S_term_to_b so) (pf_S_term_to_b so)),allOT (po_S_term_to_b so) l],A_push_parted (push_parted l (po_S_term_to_b so) (pf_S_term_to_b so)),O_push_parted (push_parted l (po_S_term_to_b so) (pf_S_term_to_b so)))
  | _=>none
theorem ok_push_parted : FnOK 124 F_push_parted:=by
  intro args ob rs os h hob
  unfold F_push_parted at h
  split at h
  · simp only[Option.bind_eq_some_iff,Option.some.injEq,Prod.mk.injEq] at h
    obtain⟨l,e0,so,e1,rfl,rfl,rfl⟩:=h
    obtain rfl:=dL_eq e0
    obtain rfl:=dF_eq e1
    have hfv0:=hob _ (List.mem_of_getElem? (i:=0) rfl)
    generalize pf_S_term_to_b so=pp0 at *
    generalize po_S_term_to_b so=qq0 at *
    subst hfv0
    exact⟨fn_contractF (M:=M_push_parted) rfl (tbl_ok (l1:=[]) (l2:=[]) (l3:=[]) (l4:=[]) (l5:=[]) trivial trivial trivial trivial trivial) Tryz.func124 (by kernel_rfl) N_push_parted 2 [.m,.m] (fun hwf=>(push_parted_spec l qq0 pp0 (wfArg hwf (a:=.d (.v (.dat (U:=Un) Ty.term l))) (List.mem_of_getElem? (i:=0) rfl)) (hob _ (List.mem_of_getElem? (i:=1) rfl)))),hasBody_of Tryz.func124 (by kernel_rfl) (by kernel_rfl)⟩
  · simp at h
def M_push_with : Mc Un:=mach (tbl []) (tbl []) (tbl []) (tbl []) (tbl [])
def A_push_with (r:Rel) : List (A Un):=[.agg (encC Ty.rel r)]
def O_push_with (_r:Rel) : List (Ob Un):=[]
def R_push_with (r:Rel) : RF Un:=(A_push_with r,O_push_with r)
def N_push_with : Nat→NS:=fun l=>(look l []).getD ⟨[],[],[],[],[],true⟩
def push_with_fn (r:Rel) (kids:List Rel) : Option (RF Un):=awf M_push_with N_push_with (bodyOf Tryz.f131) (entry Tryz.f131.ntmps 0 [.d (.agg (enc Ty.rel r)),.d (.v (.dat (U:=Un) Ty.rel kids))]) (retF M_push_with Tryz.f131.results.toList [.d])
theorem push_with_in (r:Rel) (kids:List Rel) : push_with_fn r kids=some (R_push_with (Rel.mk r.op r.table r.cols kids r.terms r.aggs r.keys r.limit r.skip r.all r.rows)):=by kernel_rfl
def push_with (r:Rel) (kids:List Rel) : Rel:=pushWith r kids
theorem push_with_spec (r:Rel) (kids:List Rel) (_hr:WS .rel r) (_hk:WL .rel kids) : push_with_fn r kids=some (R_push_with (push_with r kids)):=by
  rw[push_with_in];rfl
def F_push_with : FnC Un:=fun args=>match args with
  | [x0,x1]=>(dS .rel x0).bind fun r=>(dL .rel x1).bind fun kids=>some ([],A_push_with (push_with r kids),O_push_with (push_with r kids))
  | _=>none
theorem ok_push_with : FnOK 131 F_push_with:=by
  intro args ob rs os h hob
  unfold F_push_with at h
  split at h
  · simp only[Option.bind_eq_some_iff,Option.some.injEq,Prod.mk.injEq] at h
    obtain⟨r,e0,kids,e1,rfl,rfl,rfl⟩:=h
    obtain rfl:=dS_eq e0
    obtain rfl:=dL_eq e1
    exact⟨fn_contractF (M:=M_push_with) rfl (tbl_ok (l1:=[]) (l2:=[]) (l3:=[]) (l4:=[]) (l5:=[]) trivial trivial trivial trivial trivial) Tryz.func131 (by kernel_rfl) N_push_with 0 [.d] (fun hwf=>(push_with_spec r kids (wfArg hwf (a:=.d (.agg (enc Ty.rel r))) (List.mem_of_getElem? (i:=0) rfl)) (wfArg hwf (a:=.d (.v (.dat (U:=Un) Ty.rel kids))) (List.mem_of_getElem? (i:=1) rfl)))),hasBody_of Tryz.func131 (by kernel_rfl) (by kernel_rfl)⟩
  · simp at h
def M_push_down : Mc Un:=mach (tbl [(160,F_conj_Move)]) (tbl []) (tbl []) (tbl []) (tbl [])
def A_push_down (r:Term) : List (A Un):=[.agg (encC Ty.term r)]
def O_push_down (_r:Term) : List (Ob Un):=[]
def R_push_down (r:Term) : RF Un:=(A_push_down r,O_push_down r)
def N_push_down : Nat→NS:=fun l=>(look l [(3,{ ts:=bl 26 12490,bs:=bl 26 72,nm:=[(.sl 7,104)],cs:=true })]).getD ⟨[],[],[],[],[],true⟩
def push_down_s3 (t:Term) (by_:Int) (width:Int) (v0:Int) (v1:List Int) : S Un:=(st 26 26 105 0 [(1,ai by_),(3,ax 3),(6,ax 6),(7,ao 104),(12,ai (↑(List.replicate width.toNat (0:Int)).length:Int)),(13,ai v0)] [(3,bg .term t),(6,some (false,[C.s (Value.int IntKind.i64 (0:Int)),C.s (Value.int IntKind.i64 (0:Int)),C.s (Value.int IntKind.i64 (0:Int)),C.s (Value.string (ByteArray.mk #[])),C.s (Value.int IntKind.i64 (0:Int)),C.s (Value.int IntKind.i64 (0:Int)),C.s (Value.string (ByteArray.mk #[])),C.sl Ty.term [] true,C.sl Ty.rel [] true,C.s (Value.int IntKind.i64 (0:Int))]))] [(104,some ⟨(0:Nat),Ty.int,v1,some (0:Nat),true⟩)])
def push_down_B3 : Code:=sub (bodyOf Tryz.f128) [1,1,0,1,2,2]
def push_down_L3 : S Un→Option (EX Un):=loopF (N_push_down 3) (fun s Q=>awf M_push_down N_push_down push_down_B3 s Q)
def push_down_C3 : Exit→S Un→Option (RF Un):=ctxF M_push_down N_push_down (bodyOf Tryz.f128) [1,1,0,1,2] (retF M_push_down Tryz.f128.results.toList [.d])
def push_down_fn (t:Term) (by_:Int) (width:Int) : Option (RF Un):=awf M_push_down N_push_down (bodyOf Tryz.f128) (entry Tryz.f128.ntmps 1 [.d (.agg (enc Ty.term t)),.d (.v (.s (.int .i64 by_))),.d (.v (.s (.int .i64 width)))]) (retF M_push_down Tryz.f128.results.toList [.d])
theorem push_down_in (t:Term) (by_:Int) (width:Int) : push_down_fn t by_ width=obO (0≤width∧width≤width∧width.toNat*(8:Nat)≤roomB) ((push_down_L3 (push_down_s3 t by_ width (0:Int) (List.replicate width.toNat (0:Int)))).bind (thenX push_down_C3)):=by kernel_rfl
theorem push_down_l3 (t:Term) (by_:Int) (width:Int) (v0:Int) (v1:List Int) : push_down_L3 (push_down_s3 t by_ width v0 v1)=cndO (decide (v0<(↑(List.replicate width.toNat (0:Int)).length:Int))) (obO (0≤v0∧v0<(↑v1.length:Int)) (obO ((0:Nat)≤v0.toNat) (push_down_L3 (push_down_s3 t by_ width (IntKind.i64.wrap (v0+1)) (v1.set v0.toNat (IntKind.i64.wrap (v0 - by_))))))) (some (.exit 0,(push_down_s3 t by_ width v0 v1))):=(loopF_eq (N_push_down 3) push_down_B3 _).trans (by kernel_rfl)
theorem push_down_a3_x0 (t:Term) (by_:Int) (width:Int) (v0:Int) (v1:List Int) : push_down_C3 (.exit 0) (push_down_s3 t by_ width v0 v1)=obO ((Term.ids t).sz≤(2000000:Nat)) (some (R_push_down (conj_Move (Term.ids t) (0:Int) v1))):=by kernel_rfl
def push_down (t:Term) (by_ width:Int) : Term:=pushDown t by_ width
theorem loop_tab {L:S Un→Option (EX Un)} {st:List Int→Int→S Un} {n:Nat} {e:Exit} (h:Nat→Int) (hn:n≤9223372036854775807)
    (step:∀ (s:List Int) (i:Nat),i<n→s.length=n→L (st s i)=L (st (s.set i (h i)) (IntKind.i64.wrap ((i:Int)+1))))
    (stop:∀ s : List Int,s.length=n→L (st s (n:Int))=some (e,st s (n:Int))) : ∀ (k i:Nat) (s:List Int),i+k=n→s.length=n→(∀ j,j<i→s.getD j 0=h j)→L (st s i)=some (e,st ((List.range n).map h) (n:Int))
  | 0,i,s,hik,hs,hj=>by
    obtain rfl : i=n:=by omega
    have : s=(List.range i).map h:=by
      apply List.ext_getElem (by simp [hs])
      intro j h1 h2
      have:=hj j (by omega)
      rw[List.getD_eq_getElem?_getD,List.getElem?_eq_getElem h1,Option.getD_some] at this
      simp [this]
    rw[stop s hs,← this]
  | k+1,i,s,hik,hs,hj=>by
    rw[step s i (by omega) hs,wrap_id (by omega)]
    refine loop_tab h hn step stop k (i+1) (s.set i (h i)) (by omega) (by simpa using hs) fun j hj2=>?_
    rw[List.getD_eq_getElem?_getD,List.getElem?_set]
    by_cases e : j=i
    · rw[if_pos e.symm,if_pos (by omega),e];rfl
    · rw[if_neg (fun q=>e q.symm),← List.getD_eq_getElem?_getD];exact hj j (by omega)
theorem push_down_spec (t:Term) (by_ width:Int) (_ht:WS .term t) (_hb:WI by_) (_hw:WI width) (h1:t.sz≤2000000) (h2:0≤width∧width≤2000000) : push_down_fn t by_ width=some (R_push_down (push_down t by_ width)):=by
  have lp:=loop_tab (L:=push_down_L3) (st:=fun s i=>push_down_s3 t by_ width i s) (n:=width.toNat) (e:=.exit 0) (fun i=>IntKind.i64.wrap ((i:Int) - by_)) (by omega)
    (fun s i hi hs=>by
      rw[push_down_l3,List.length_replicate,cndO_eq,if_pos (decide_eq_true (by omega)),obO_pos (by omega),obO_pos (by omega),Int.toNat_natCast])
    (fun s hs=>by rw[push_down_l3,List.length_replicate];simp [cndO_eq])
    width.toNat 0 (List.replicate width.toNat 0) (by omega) (by simp) (fun j hj=>by omega)
  rw[push_down_in,obO_pos (by unfold roomB;omega)]
  refine (loop_end lp).trans ?_
  rw[push_down_a3_x0,Term.ids_eq,obO_pos h1,conj_Move_eq]
  rfl
def F_push_down : FnC Un:=fun args=>match args with
  | [x0,x1,x2]=>(dS .term x0).bind fun t=>(dI .i64 x1).bind fun by_=>(dI .i64 x2).bind fun width=>some ([t.sz≤2000000,0≤width∧width≤2000000],A_push_down (push_down t by_ width),O_push_down (push_down t by_ width))
  | _=>none
theorem ok_push_down : FnOK 128 F_push_down:=by
  intro args ob rs os h hob
  unfold F_push_down at h
  split at h
  · simp only[Option.bind_eq_some_iff,Option.some.injEq,Prod.mk.injEq] at h
    obtain⟨t,e0,by_,e1,width,e2,rfl,rfl,rfl⟩:=h
    obtain rfl:=dS_eq e0
    obtain rfl:=dI_eq e1
    obtain rfl:=dI_eq e2
    exact⟨fn_contractF (M:=M_push_down) rfl (tbl_ok (l1:=[(160,F_conj_Move)]) (l2:=[]) (l3:=[]) (l4:=[]) (l5:=[]) ⟨ok_conj_Move,trivial⟩ trivial trivial trivial trivial) Tryz.func128 (by kernel_rfl) N_push_down 1 [.d] (fun hwf=>(push_down_spec t by_ width (wfArg hwf (a:=.d (.agg (enc Ty.term t))) (List.mem_of_getElem? (i:=0) rfl)) (wfArg hwf (a:=.d (.v (.s (.int .i64 by_)))) (List.mem_of_getElem? (i:=1) rfl)) (wfArg hwf (a:=.d (.v (.s (.int .i64 width)))) (List.mem_of_getElem? (i:=2) rfl)) (hob _ (List.mem_of_getElem? (i:=0) rfl)) (hob _ (List.mem_of_getElem? (i:=1) rfl)))),hasBody_of Tryz.func128 (by kernel_rfl) (by kernel_rfl)⟩
  · simp at h
mutual
def putT_ok (l:List Term) : Term→Prop
  | .mk op _ depth at_ _ kids _ _=>(op=2→depth=0→0≤at_∧at_<(l.length:Int))∧(op≠2→kids.length≤1000000000∧putTs_ok l kids)
def putTs_ok (l:List Term) : List Term→Prop
  | []=>True
  | t::r=>putT_ok l t∧putTs_ok l r
end
theorem putTs_ok_mem {l:List Term} : ∀ {r:List Term},putTs_ok l r→∀ t∈r,putT_ok l t
  | [],_,_,h=>by simp at h
  | x::r,h,t,ht=>by
    simp only[putTs_ok] at h
    rcases List.mem_cons.1 ht with rfl | ht
    · exact h.1
    · exact putTs_ok_mem h.2 t ht
theorem putTs_map (l:List Term) : ∀ r : List Term,putTs l r=r.map (putT l)
  | []=>rfl
  | t::r=>by simp only[putTs,List.map_cons,putTs_map l r]
def putOK (t:Term) (l:List Term) : Prop:=putT_ok l t
def push_put (t:Term) (l:List Term) : Term:=putT l t
def A_push_put (r:Term) : List (A Un):=[.agg (encC Ty.term r)]
def O_push_put (_r:Term) : List (Ob Un):=[]
def Fm_push_put (m:Nat) : FnC Un:=fun args=>match args with
  | [x0,x1]=>(dS .term x0).bind fun t=>(dL .term x1).bind fun l=>some ([t.ht<m,putOK t l],A_push_put (push_put t l),O_push_put (push_put t l))
  | _=>none
def M_push_put (m:Nat) : Mc Un:=mach (tbl [(98,F_clone_term),(133,Fm_push_put m)]) (tbl []) (tbl []) (tbl []) (tbl [])
def R_push_put (r:Term) : RF Un:=(A_push_put r,O_push_put r)
def N_push_put : Nat→NS:=fun l=>(look l [(7,{ ts:=bl 41 50331670,bs:=bl 41 20,nm:=[(.cell 2 7,164)],cs:=true })]).getD ⟨[],[],[],[],[],true⟩
def push_put_s7 (t:Term) (l:List Term) (v0:Int) (v1:List Term) : S Un:=(st 41 41 165 0 [(1,al .term l),(2,ax 2),(4,ax 4),(24,ai (↑t.kids.length:Int)),(25,ai v0)] [(2,some (false,[C.s (Value.int IntKind.i64 t.op),C.s (Value.int IntKind.i64 t.v.kind),C.s (Value.int IntKind.i64 t.v.n),C.s (Value.string t.v.s),C.s (Value.int IntKind.i64 t.depth),C.s (Value.int IntKind.i64 t.at_),C.s (Value.string t.name),C.ob (164:Nat) (0:Nat),C.sl Ty.rel t.sub false,C.s (Value.int IntKind.i64 t.type)])),(4,some (false,[C.s (Value.int IntKind.i64 (0:Int)),C.s (Value.int IntKind.i64 (0:Int)),C.s (Value.int IntKind.i64 (0:Int)),C.s (Value.string (ByteArray.mk #[])),C.s (Value.int IntKind.i64 (0:Int)),C.s (Value.int IntKind.i64 (0:Int)),C.s (Value.string (ByteArray.mk #[])),C.sl Ty.term [] true,C.sl Ty.rel [] true,C.s (Value.int IntKind.i64 (0:Int))]))] [(164,some ⟨(0:Nat),Ty.term,v1,some (0:Nat),true⟩)])
def push_put_B7 : Code:=sub (bodyOf Tryz.f133) [1,1,1,0,1,2,2]
def push_put_L7 (m:Nat) : S Un→Option (EX Un):=loopF (N_push_put 7) (fun s Q=>awf (M_push_put m) N_push_put push_put_B7 s Q)
def push_put_C7 (m:Nat) : Exit→S Un→Option (RF Un):=ctxF (M_push_put m) N_push_put (bodyOf Tryz.f133) [1,1,1,0,1,2] (retF (M_push_put m) Tryz.f133.results.toList [.d])
def push_put_fn (m:Nat) (t:Term) (l:List Term) : Option (RF Un):=awf (M_push_put m) N_push_put (bodyOf Tryz.f133) (entry Tryz.f133.ntmps 1 [.d (.agg (enc Ty.term t)),.d (.v (.dat (U:=Un) Ty.term l))]) (retF (M_push_put m) Tryz.f133.results.toList [.d])
theorem push_put_in (m:Nat) (t:Term) (l:List Term) : push_put_fn m t l=cndO (t.op == 2) (cndO (t.depth == 0) (obO (0≤t.at_∧t.at_<(↑l.length:Int)) (some (R_push_put (l.getD t.at_.toNat zeroTerm)))) (some (R_push_put (t)))) (obO (t.kids.length≤(1000000000:Nat)) ((push_put_L7 m (push_put_s7 t l (0:Int) t.kids)).bind (thenX (push_put_C7 m)))):=by kernel_rfl
theorem push_put_l7 (m:Nat) (t:Term) (l:List Term) (v0:Int) (v1:List Term) : push_put_L7 m (push_put_s7 t l v0 v1)=cndO (decide (v0<(↑t.kids.length:Int))) (obO (0≤v0∧v0<(↑v1.length:Int)) (obO ((Term.ids (v1.getD v0.toNat zeroTerm)).ht<m) (obO (putOK (Term.ids (v1.getD v0.toNat zeroTerm)) l) (obO (0≤v0∧v0<(↑v1.length:Int)) (obO ((0:Nat)≤v0.toNat) (push_put_L7 m (push_put_s7 t l (IntKind.i64.wrap (v0+1)) (v1.set v0.toNat (Term.ids (push_put (Term.ids (v1.getD v0.toNat zeroTerm)) l)))))))))) (some (.exit 0,(push_put_s7 t l v0 v1))):=(loopF_eq (N_push_put 7) push_put_B7 _).trans (by kernel_rfl)
theorem push_put_a7_x0 (m:Nat) (t:Term) (l:List Term) (v0:Int) (v1:List Term) : push_put_C7 m (.exit 0) (push_put_s7 t l v0 v1)=some (R_push_put (Term.mk t.op t.v t.depth t.at_ t.name v1 t.sub t.type)):=by kernel_rfl
theorem push_put_spec (m:Nat) (t:Term) (l:List Term) (ht:WS .term t) (_hl:WL .term l) (hm:t.ht<m+1) (h:putOK t l) : push_put_fn m t l=some (R_push_put (push_put t l)):=by
  have hk:WL .term t.kids:=ht.term_kids
  have hok:(t.op=2→t.depth=0→0≤t.at_∧t.at_<(l.length:Int))∧(t.op≠2→t.kids.length≤1000000000∧putTs_ok l t.kids):=by
    unfold putOK at h;cases t;simp only[putT_ok] at h;exact h
  have e:push_put t l=if t.op=2 then (if t.depth=0 then l.getD t.at_.toNat zeroTerm else t) else .mk t.op t.v t.depth t.at_ t.name (t.kids.map fun k=>push_put k l) t.sub t.type:=by
    show putT l t=_
    cases t with
    | mk op v depth at_ name kids sub type=>simp only[putT,putTs_map];rfl
  rw[push_put_in,e]
  simp only[cndO_eq,beq_iff_eq]
  by_cases h2 : t.op=2
  · rw[if_pos h2,if_pos h2]
    by_cases hd : t.depth=0
    · rw[if_pos hd,if_pos hd,obO_pos (hok.1 h2 hd)]
    · rw[if_neg hd,if_neg hd]
  · obtain⟨k1,k2⟩:=hok.2 h2
    rw[if_neg h2,if_neg h2,obO_pos k1]
    have lp:=loop_map (L:=push_put_L7 m) (st:=fun xs i=>push_put_s7 t l i xs) (l:=t.kids) (d:=zeroTerm) (e:=.exit 0) (fun k=>push_put k l) hk.len
      (fun xs i x hi hxl hx hmem=>by
        have hht:=Term.ht_kid hmem
        rw[push_put_l7]
        simp only[cndO_eq,hi,decide_true,if_true,Int.toNat_natCast,hx,Term.ids_eq]
        rw[obO_pos (by omega),obO_pos (by omega),obO_pos (show putOK x l from putTs_ok_mem k2 x hmem),obO_pos (by omega),obO_pos (by omega)])
      (fun xs hxl=>by rw[push_put_l7];simp [cndO_eq])
    refine (loop_end lp).trans ?_
    rw[push_put_a7_x0]
theorem okm_push_put (m:Nat) (h_push_put:FnOK 133 (Fm_push_put m)) : FnOK 133 (Fm_push_put (m+1)):=by
  intro args ob rs os h hob
  unfold Fm_push_put at h
  split at h
  · simp only[Option.bind_eq_some_iff,Option.some.injEq,Prod.mk.injEq] at h
    obtain⟨t,e0,l,e1,rfl,rfl,rfl⟩:=h
    obtain rfl:=dS_eq e0
    obtain rfl:=dL_eq e1
    exact⟨fn_contractF (M:=(M_push_put m)) rfl (tbl_ok (l1:=[(98,F_clone_term),(133,Fm_push_put m)]) (l2:=[]) (l3:=[]) (l4:=[]) (l5:=[]) ⟨ok_clone_term,h_push_put,trivial⟩ trivial trivial trivial trivial) Tryz.func133 (by kernel_rfl) N_push_put 1 [.d] (fun hwf=>(push_put_spec m t l (wfArg hwf (a:=.d (.agg (enc Ty.term t))) (List.mem_of_getElem? (i:=0) rfl)) (wfArg hwf (a:=.d (.v (.dat (U:=Un) Ty.term l))) (List.mem_of_getElem? (i:=1) rfl)) (hob _ (List.mem_of_getElem? (i:=0) rfl)) (hob _ (List.mem_of_getElem? (i:=1) rfl)))),hasBody_of Tryz.func133 (by kernel_rfl) (by kernel_rfl)⟩
  · simp at h
theorem okAll_putG : ∀ m,FnOK 133 (Fm_push_put m)
  | 0=>by
    skip
    intro args ob rs os h hob
    unfold Fm_push_put at h
    split at h
    · simp only[Option.bind_eq_some_iff,Option.some.injEq,Prod.mk.injEq] at h
      obtain⟨_,_,_,_,rfl,_,_⟩:=h
      exact absurd (hob _ (List.mem_of_getElem? (i:=0) rfl)) (Nat.not_lt_zero _)
    · simp at h
  | m+1=>by
    have ih:=okAll_putG m
    exact okm_push_put m ih
def F_push_put : FnC Un:=fun args=>match args with
  | [x0,x1]=>(dS .term x0).bind fun t=>(dL .term x1).bind fun l=>some ([putOK t l],A_push_put (push_put t l),O_push_put (push_put t l))
  | _=>none
theorem ok_push_put : FnOK 133 F_push_put:=by
  intro args ob rs os h hob
  unfold F_push_put at h
  split at h
  · simp only[Option.bind_eq_some_iff,Option.some.injEq,Prod.mk.injEq] at h
    obtain⟨t,e0,l,e1,rfl,rfl,rfl⟩:=h
    refine ((okAll_putG (t.ht+1))) _ [t.ht<t.ht+1,putOK t l] _ _ (?_ : Fm_push_put (t.ht+1) _=some _) ?_
    · unfold Fm_push_put
      simp only[e0,e1,Option.bind_some]
    · intro p hp
      simp only[List.mem_cons,List.not_mem_nil,or_false] at hp
      rcases hp with rfl | rfl
      · exact Nat.lt_succ_self _
      · exact hob _ (List.mem_of_getElem? (i:=0) rfl)
  · simp at h
end
end Go.Proofs.YtolbngdhgcbmgaaGreat.B
namespace Go.Proofs.YtolbngdhgcbmgaaGreat.B
open Go Go.RowKit
set_option maxRecDepth 100000
noncomputable section
attribute [local irreducible] awp ctxK itersK iterK retQ retGQ awf ctxF loopF
def algebra_Plain (t:Term) : Bool:=plainT t
def A_algebra_Plain (r:Bool) : List (A Un):=[.c (.s (.bool r))]
def O_algebra_Plain (_r:Bool) : List (Ob Un):=[]
def Fm_algebra_Plain (m:Nat) : FnC Un:=fun args=>match args with
  | [x0]=>(dS .term x0).bind fun t=>some ([t.ht<m],A_algebra_Plain (algebra_Plain t),O_algebra_Plain (algebra_Plain t))
  | _=>none
def Vm_algebra_Plain (m:Nat) : FV Un:=fvo_S_term_to_b (fun t=>(t.ht<m)) (fun t=>algebra_Plain t)
theorem okVm_algebra_Plain (m:Nat) (h_algebra_Plain:FnOK 162 (Fm_algebra_Plain m)) : FvOK 162 (Vm_algebra_Plain m):=by
  refine⟨hasBody_of Tryz.func162 (by kernel_rfl) (by kernel_rfl),fun args ob rs h hob=>?_⟩
  unfold Vm_algebra_Plain fvo_S_term_to_b at h
  split at h
  · simp only[Option.bind_eq_some_iff,Option.some.injEq,Prod.mk.injEq] at h
    obtain⟨t,e0,rfl,rfl⟩:=h
    simp only[List.map_cons,List.map_nil]
    rw[dS_eq e0]
    refine Contract.data (h_algebra_Plain _ [t.ht<m] _ _ (?_ : Fm_algebra_Plain m _=some _) (fun p hp=>by rw[List.mem_singleton.1 hp];simpa using hob _ List.mem_cons_self)).1
    unfold Fm_algebra_Plain
    simp only[dSk_mk]
    rfl
  · simp at h
theorem vmo_Plain (m:Nat) : po_S_term_to_b (Vm_algebra_Plain m)=fun k=>k.ht<m:=by unfold Vm_algebra_Plain;exact pofvo_S_term_to_b _ _
theorem vmf_Plain (m:Nat) : pf_S_term_to_b (Vm_algebra_Plain m)=algebra_Plain:=by unfold Vm_algebra_Plain;rw[pffvo_S_term_to_b]
theorem vmv_Plain (m:Nat) : Vm_algebra_Plain m=fvo_S_term_to_b (po_S_term_to_b (Vm_algebra_Plain m)) (pf_S_term_to_b (Vm_algebra_Plain m)):=by unfold Vm_algebra_Plain;rw[pofvo_S_term_to_b,pffvo_S_term_to_b]
theorem plainTs_all : ∀ l : List Term,(l.all algebra_Plain)=plainTs l
  | []=>rfl
  | t::r=>by simp only[List.all_cons,plainTs,plainTs_all r,algebra_Plain]
def M_algebra_Plain (m:Nat) : Mc Un:=mach (tbl [(55,F_ev_term)]) (tbl [(162,Vm_algebra_Plain m)]) (tbl []) (tbl []) (tbl [])
def R_algebra_Plain (r:Bool) : RF Un:=(A_algebra_Plain r,O_algebra_Plain r)
def N_algebra_Plain : Nat→NS:=fun l=>(look l []).getD ⟨[],[],[],[],[],true⟩
def algebra_Plain_fn (m:Nat) (t:Term) : Option (RF Un):=awf (M_algebra_Plain m) N_algebra_Plain (bodyOf Tryz.f162) (entry Tryz.f162.ntmps 0 [.d (.agg (enc Ty.term t))]) (retF (M_algebra_Plain m) Tryz.f162.results.toList [.d])
theorem algebra_Plain_in (m:Nat) (t:Term) : algebra_Plain_fn m t=cndO ((↑t.sub.length:Int) == (0:Int)) (obO (Vm_algebra_Plain m=fvo_S_term_to_b (po_S_term_to_b (Vm_algebra_Plain m)) (pf_S_term_to_b (Vm_algebra_Plain m))) (obO (allO_term (po_S_term_to_b (Vm_algebra_Plain m)) t.kids) (some (R_algebra_Plain (ev_term t.kids (po_S_term_to_b (Vm_algebra_Plain m)) (pf_S_term_to_b (Vm_algebra_Plain m))))))) (some (R_algebra_Plain (false))):=by kernel_rfl
theorem algebra_Plain_spec (m:Nat) (t:Term) (_ht:WS .term t) (h:t.ht<m+1) : algebra_Plain_fn m t=some (R_algebra_Plain (algebra_Plain t)):=by
  have o1:allO_term (po_S_term_to_b (Vm_algebra_Plain m)) t.kids:=by
    rw[vmo_Plain]
    intro k hk
    have:=Term.ht_kid hk
    show k.ht<m
    omega
  have e:algebra_Plain t=(decide (t.sub.length=0) && t.kids.all algebra_Plain):=by
    show plainT t=_
    rw[plainT_eq,plainTs_all]
    congr 1
    cases t.sub with
    | nil=>rfl
    | cons x l=>simp
  rw[algebra_Plain_in,e,cndO_eq]
  by_cases h0 : t.sub.length=0
  · rw[if_pos (by rw[beq_iff_eq];omega),decide_eq_true h0,Bool.true_and,obO_pos (vmv_Plain m),obO_pos o1]
    simp only[vmf_Plain,ev_term]
  · rw[if_neg (by rw[beq_iff_eq];omega),decide_eq_false h0,Bool.false_and]
theorem okm_algebra_Plain (m:Nat) (h_algebra_Plain:FnOK 162 (Fm_algebra_Plain m)) : FnOK 162 (Fm_algebra_Plain (m+1)):=by
  intro args ob rs os h hob
  unfold Fm_algebra_Plain at h
  split at h
  · simp only[Option.bind_eq_some_iff,Option.some.injEq,Prod.mk.injEq] at h
    obtain⟨t,e0,rfl,rfl,rfl⟩:=h
    obtain rfl:=dS_eq e0
    exact⟨fn_contractF (M:=(M_algebra_Plain m)) rfl (tbl_ok (l1:=[(55,F_ev_term)]) (l2:=[(162,Vm_algebra_Plain m)]) (l3:=[]) (l4:=[]) (l5:=[]) ⟨ok_ev_term,trivial⟩ ⟨(okVm_algebra_Plain m h_algebra_Plain),trivial⟩ trivial trivial trivial) Tryz.func162 (by kernel_rfl) N_algebra_Plain 0 [.d] (fun hwf=>(algebra_Plain_spec m t (wfArg hwf (a:=.d (.agg (enc Ty.term t))) (List.mem_of_getElem? (i:=0) rfl)) (hob _ (List.mem_of_getElem? (i:=0) rfl)))),hasBody_of Tryz.func162 (by kernel_rfl) (by kernel_rfl)⟩
  · simp at h
theorem okAll_plainG : ∀ m,FnOK 162 (Fm_algebra_Plain m)
  | 0=>by
    skip
    intro args ob rs os h hob
    unfold Fm_algebra_Plain at h
    split at h
    · simp only[Option.bind_eq_some_iff,Option.some.injEq,Prod.mk.injEq] at h
      obtain⟨_,_,rfl,_,_⟩:=h
      exact absurd (hob _ (List.mem_of_getElem? (i:=0) rfl)) (Nat.not_lt_zero _)
    · simp at h
  | m+1=>by
    have ih:=okAll_plainG m
    exact okm_algebra_Plain m ih
def F_algebra_Plain : FnC Un:=fun args=>match args with
  | [x0]=>(dS .term x0).bind fun t=>some ([],A_algebra_Plain (algebra_Plain t),O_algebra_Plain (algebra_Plain t))
  | _=>none
theorem ok_algebra_Plain : FnOK 162 F_algebra_Plain:=by
  intro args ob rs os h hob
  unfold F_algebra_Plain at h
  split at h
  · simp only[Option.bind_eq_some_iff,Option.some.injEq,Prod.mk.injEq] at h
    obtain⟨t,e0,rfl,rfl,rfl⟩:=h
    refine ((okAll_plainG (t.ht+1))) _ [t.ht<t.ht+1] _ _ (?_ : Fm_algebra_Plain (t.ht+1) _=some _) ?_
    · unfold Fm_algebra_Plain
      simp only[e0,Option.bind_some]
    · intro p hp
      simp only[List.mem_cons,List.not_mem_nil,or_false] at hp
      subst hp
      exact Nat.lt_succ_self _
  · simp at h
def M_pplain1 : Mc Un:=mach (tbl [(162,F_algebra_Plain)]) (tbl []) (tbl []) (tbl []) (tbl [])
def A_pplain1 (r:Bool) : List (A Un):=[.c (.s (.bool r))]
def O_pplain1 (_r:Bool) : List (Ob Un):=[]
def R_pplain1 (r:Bool) : RF Un:=(A_pplain1 r,O_pplain1 r)
def N_pplain1 : Nat→NS:=fun l=>(look l []).getD ⟨[],[],[],[],[],true⟩
def pplain1_fn (at_:Int) (c0:List Term) : Option (RF Un):=awf M_pplain1 N_pplain1 (bodyOf Tryz.f163) (entry Tryz.f163.ntmps 0 [.d (.v (.s (.int .i64 at_))),.box [.v (.dat (U:=Un) Ty.term c0)]]) (retF M_pplain1 Tryz.f163.results.toList [.d])
theorem pplain1_in (at_:Int) (c0:List Term) : pplain1_fn at_ c0=cndO (decide (at_<0)) (some (R_pplain1 (true))) (cndO (decide (at_≥(↑c0.length:Int))) (some (R_pplain1 (true))) (obO (0≤at_∧at_<(↑c0.length:Int)) (some (R_pplain1 (!algebra_Plain (Term.ids (c0.getD at_.toNat zeroTerm))))))):=by kernel_rfl
def pplain1 (at_:Int) (l:List Term) : Bool:=decide (at_<0∨at_≥(l.length:Int)) || !plainT (l.getD at_.toNat zeroTerm)
theorem pplain1_spec (at_:Int) (l:List Term) (_ha:WI at_) (_hl:WL .term l) : pplain1_fn at_ l=some (R_pplain1 (pplain1 at_ l)):=by
  rw[pplain1_in]
  unfold pplain1
  simp only[cndO_eq,decide_eq_true_eq,Term.ids_eq]
  by_cases h1 : at_<0
  · rw[if_pos h1,decide_eq_true (.inl h1)];rfl
  rw[if_neg h1]
  by_cases h2 : at_≥(l.length:Int)
  · rw[if_pos h2,decide_eq_true (.inr h2)];rfl
  rw[if_neg h2,obO_pos (by omega),decide_eq_false (fun e=>e.elim h1 h2),Bool.false_or]
  rfl
def L_pplain1 : List (List (DC Un))→Option (FV Un):=fun dl=>match dl with
  | [b0]=>(bL .term b0).bind fun c0=>some (fv_i_i64_to_b (fun at_=>pplain1 at_ c0))
  | _=>none
theorem okL_pplain1 : ClOK 163 L_pplain1:=by
  refine⟨hasBody_of Tryz.func163 (by kernel_rfl) (by kernel_rfl),fun dl φ args ob rs hF hφ hob=>?_⟩
  unfold L_pplain1 at hF
  split at hF
  · simp only[Option.bind_eq_some_iff,Option.some.injEq] at hF
    obtain⟨c0,g0,hE⟩:=hF
    subst hE
    obtain rfl:=bL_eq g0
    unfold fv_i_i64_to_b at hφ
    split at hφ
    · simp only[Option.bind_eq_some_iff,Option.some.injEq,Prod.mk.injEq] at hφ
      obtain⟨at_,e0,rfl,rfl⟩:=hφ
      simp only[List.map_cons,List.map_nil,List.cons_append,List.nil_append]
      rw[dI_eq e0]
      exact Contract.data (fn_contractF (M:=M_pplain1) rfl (tbl_ok (l1:=[(162,F_algebra_Plain)]) (l2:=[]) (l3:=[]) (l4:=[]) (l5:=[]) ⟨ok_algebra_Plain,trivial⟩ trivial trivial trivial trivial) Tryz.func163 (by kernel_rfl) N_pplain1 0 [.d] (fun hwf=>(pplain1_spec at_ c0 (wfArg hwf (a:=.d (.v (.s (.int .i64 at_)))) (List.mem_of_getElem? (i:=0) rfl)) (wfArg hwf (a:=.box [.v (.dat (U:=Un) Ty.term c0)]) (List.mem_of_getElem? (i:=1) rfl)))))
    · simp at hφ
  · simp at hF
def M_push_plain : Mc Un:=mach (tbl [(162,F_algebra_Plain),(158,F_conj_Uses),(157,F_conf_int)]) (tbl []) (tbl [(163,L_pplain1)]) (tbl []) (tbl [])
def A_push_plain (r:Bool) : List (A Un):=[.c (.s (.bool r))]
def O_push_plain (_r:Bool) : List (Ob Un):=[]
def R_push_plain (r:Bool) : RF Un:=(A_push_plain r,O_push_plain r)
def N_push_plain : Nat→NS:=fun l=>(look l []).getD ⟨[],[],[],[],[],true⟩
def push_plain_fn (t:Term) (l:List Term) : Option (RF Un):=awf M_push_plain N_push_plain (bodyOf Tryz.f132) (entry Tryz.f132.ntmps 0 [.d (.agg (enc Ty.term t)),.d (.v (.dat (U:=Un) Ty.term l))]) (retF M_push_plain Tryz.f132.results.toList [.d])
theorem push_plain_in (t:Term) (l:List Term) : push_plain_fn t l=cndO (!algebra_Plain (Term.ids t)) (some (R_push_plain (false))) (obO (useOK (Term.ids t) (0:Int)) (obO ((fv_i_i64_to_b fun at_=>pplain1 at_ l)=fv_i_i64_to_b (pf_i_i64_to_b (fv_i_i64_to_b fun at_=>pplain1 at_ l))) (some (R_push_plain (!conf_int (conj_Uses (Term.ids t) (0:Int)) (pf_i_i64_to_b (fv_i_i64_to_b fun at_=>pplain1 at_ l))))))):=by kernel_rfl
def push_plain (t:Term) (l:List Term) : Bool:=plainP t l
theorem push_plain_spec (t:Term) (l:List Term) (_ht:WS .term t) (_hl:WL .term l) (h:t.sz≤2000000) : push_plain_fn t l=some (R_push_plain (push_plain t l)):=by
  rw[push_plain_in]
  simp only[Term.ids_eq,conj_Uses_eq]
  unfold push_plain plainP
  have e:algebra_Plain t=plainT t:=rfl
  rw[e]
  cases plainT t
  · rfl
  rw[cndO_eq,if_neg (by decide),obO_pos (show useOK t 0 from ⟨by omega,h⟩),Bool.true_and]
  simp only[pfv_i_i64_to_b,conf_int_eq]
  try rw[obO_pos trivial]
  congr 2
  generalize usesA t 0=u
  induction u with
  | nil=>rfl
  | cons a u ih =>
    rw[List.any_cons,List.all_cons,Bool.not_or,ih]
    congr 1
    unfold pplain1
    by_cases h1 : 0≤a∧a<(l.length:Int)
    · rw[decide_eq_false (by omega),decide_eq_true h1,Bool.false_or,Bool.not_not,Bool.true_and]
    · rw[decide_eq_true (by omega),decide_eq_false h1];rfl
def F_push_plain : FnC Un:=fun args=>match args with
  | [x0,x1]=>(dS .term x0).bind fun t=>(dL .term x1).bind fun l=>some ([t.sz≤2000000],A_push_plain (push_plain t l),O_push_plain (push_plain t l))
  | _=>none
theorem ok_push_plain : FnOK 132 F_push_plain:=by
  intro args ob rs os h hob
  unfold F_push_plain at h
  split at h
  · simp only[Option.bind_eq_some_iff,Option.some.injEq,Prod.mk.injEq] at h
    obtain⟨t,e0,l,e1,rfl,rfl,rfl⟩:=h
    obtain rfl:=dS_eq e0
    obtain rfl:=dL_eq e1
    exact⟨fn_contractF (M:=M_push_plain) rfl (tbl_ok (l1:=[(162,F_algebra_Plain),(158,F_conj_Uses),(157,F_conf_int)]) (l2:=[]) (l3:=[(163,L_pplain1)]) (l4:=[]) (l5:=[]) ⟨ok_algebra_Plain,ok_conj_Uses,ok_conf_int,trivial⟩ trivial ⟨okL_pplain1,trivial⟩ trivial trivial) Tryz.func132 (by kernel_rfl) N_push_plain 0 [.d] (fun hwf=>(push_plain_spec t l (wfArg hwf (a:=.d (.agg (enc Ty.term t))) (List.mem_of_getElem? (i:=0) rfl)) (wfArg hwf (a:=.d (.v (.dat (U:=Un) Ty.term l))) (List.mem_of_getElem? (i:=1) rfl)) (hob _ (List.mem_of_getElem? (i:=0) rfl)))),hasBody_of Tryz.func132 (by kernel_rfl) (by kernel_rfl)⟩
  · simp at h
end
end Go.Proofs.YtolbngdhgcbmgaaGreat.B
