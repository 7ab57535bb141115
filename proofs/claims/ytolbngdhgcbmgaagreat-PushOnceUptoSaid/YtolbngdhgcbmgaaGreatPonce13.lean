/- Part 13 of the proof: Sconj2. -/
import Derived.Test.YtolbngdhgcbmgaaGreatPonce12
namespace Go.Proofs.YtolbngdhgcbmgaaGreat.B
open Go Go.RowKit
set_option maxRecDepth 100000
noncomputable section
attribute [local irreducible] awp ctxK itersK iterK retQ retGQ awf ctxF loopF
def mapOK (down:Int) (p_o:Term→Int→Prop) (p:Term→Int→Term) (n:Nat) : Prop:=((∀ c d,p_o c d)∧KeepsAt p)∧0≤down∧down+n≤2000000
def conj_mapped (t:Term) (down:Int) (_p_o:Term→Int→Prop) (p:Term→Int→Term) : Term:=mapT p down t
def conj_terms (l:List Term) (down:Int) (_p_o:Term→Int→Prop) (p:Term→Int→Term) : List Term:=mapTs p down l
def conj_relation (r:Rel) (down:Int) (_p_o:Term→Int→Prop) (p:Term→Int→Term) : Rel:=mapR p down r
theorem loop_map {α:Type} {L:S Un→Option (EX Un)} {st:List α→Int→S Un} {l:List α} {d:α} {e:Exit} (f:α→α) (hl:l.length≤9223372036854775807)
    (step:∀ (xs:List α) (i:Nat) (x:α),(i:Int)<(l.length:Int)→xs.length=l.length→xs.getD i d=x→x∈l→L (st xs i)=L (st (xs.set i (f x)) (IntKind.i64.wrap ((i:Int)+1))))
    (stop:∀ xs : List α,xs.length=l.length→L (st xs (l.length:Int))=some (e,st xs (l.length:Int))) : L (st l (0:Int))=some (e,st (l.map f) (l.length:Int)):=by
  have key:∀ (k i:Nat),i+k=l.length→L (st ((l.take i).map f++l.drop i) (i:Int))=some (e,st (l.map f) (l.length:Int)):=by
    intro k
    induction k with
    | zero =>
      intro i hi
      obtain rfl : i=l.length:=by omega
      rw[List.take_length,List.drop_length,List.append_nil]
      exact stop _ (by simp)
    | succ k ih =>
      intro i hi
      have hil:i<l.length:=by omega
      have hlen:((l.take i).map f++l.drop i).length=l.length:=by rw[List.length_append,List.length_map,List.length_take,List.length_drop];omega
      have htl:((l.take i).map f).length=i:=by rw[List.length_map,List.length_take];omega
      have hget:((l.take i).map f++l.drop i).getD i d=l[i]:=by
        rw[List.getD_eq_getElem?_getD,List.getElem?_append_right (by omega),htl,Nat.sub_self,List.getElem?_drop,Nat.add_zero,List.getElem?_eq_getElem hil];rfl
      rw[step _ i l[i] (by omega) hlen hget (List.getElem_mem hil),wrap_next hil hl]
      have hset:((l.take i).map f++l.drop i).set i (f l[i])=(l.take (i+1)).map f++l.drop (i+1):=by
        rw[List.set_append_right _ _ (by omega),htl,Nat.sub_self,List.drop_eq_getElem_cons hil,List.set_cons_zero,List.take_add_one,List.getElem?_eq_getElem hil]
        simp only[Option.toList_some,List.map_append,List.map_cons,List.map_nil,List.append_assoc,List.cons_append,List.nil_append]
      rw[hset]
      exact ih (i+1) (by omega)
  have:=key l.length 0 (by omega)
  simpa using this
def A_conj_mapped (r:Term) : List (A Un):=[.agg (encC Ty.term r)]
def O_conj_mapped (_r:Term) : List (Ob Un):=[]
def Fm_conj_mapped (m:Nat) : FnC Un:=fun args=>match args with
  | [x0,x1,x2]=>(dS .term x0).bind fun t=>(dI .i64 x1).bind fun down=>(dF x2).bind fun p=>some ([p=(fvo_S_term_i_i64_to_S_term (po_S_term_i_i64_to_S_term p) (pf_S_term_i_i64_to_S_term p)),2*t.ht+1<m,mapOK down (po_S_term_i_i64_to_S_term p) (pf_S_term_i_i64_to_S_term p) t.sz],A_conj_mapped (conj_mapped t down (po_S_term_i_i64_to_S_term p) (pf_S_term_i_i64_to_S_term p)),O_conj_mapped (conj_mapped t down (po_S_term_i_i64_to_S_term p) (pf_S_term_i_i64_to_S_term p)))
  | _=>none
def A_conj_terms (r:List Term) : List (A Un):=[.c (.sl (U:=Un) Ty.term r false)]
def O_conj_terms (_r:List Term) : List (Ob Un):=[]
def Fm_conj_terms (m:Nat) : FnC Un:=fun args=>match args with
  | [x0,x1,x2]=>(dL .term x0).bind fun l=>(dI .i64 x1).bind fun down=>(dF x2).bind fun p=>some ([p=(fvo_S_term_i_i64_to_S_term (po_S_term_i_i64_to_S_term p) (pf_S_term_i_i64_to_S_term p)),2*htTs l+2<m,mapOK down (po_S_term_i_i64_to_S_term p) (pf_S_term_i_i64_to_S_term p) (szTs l)],A_conj_terms (conj_terms l down (po_S_term_i_i64_to_S_term p) (pf_S_term_i_i64_to_S_term p)),O_conj_terms (conj_terms l down (po_S_term_i_i64_to_S_term p) (pf_S_term_i_i64_to_S_term p)))
  | _=>none
def A_conj_relation (r:Rel) : List (A Un):=[.agg (encC Ty.rel r)]
def O_conj_relation (_r:Rel) : List (Ob Un):=[]
def Fm_conj_relation (m:Nat) : FnC Un:=fun args=>match args with
  | [x0,x1,x2]=>(dS .rel x0).bind fun r=>(dI .i64 x1).bind fun down=>(dF x2).bind fun p=>some ([p=(fvo_S_term_i_i64_to_S_term (po_S_term_i_i64_to_S_term p) (pf_S_term_i_i64_to_S_term p)),2*r.ht+1<m,mapOK down (po_S_term_i_i64_to_S_term p) (pf_S_term_i_i64_to_S_term p) r.sz],A_conj_relation (conj_relation r down (po_S_term_i_i64_to_S_term p) (pf_S_term_i_i64_to_S_term p)),O_conj_relation (conj_relation r down (po_S_term_i_i64_to_S_term p) (pf_S_term_i_i64_to_S_term p)))
  | _=>none
def M_conj_mapped (m:Nat) : Mc Un:=mach (tbl [(180,Fm_conj_terms m),(97,F_clone_rel),(181,Fm_conj_relation m)]) (tbl []) (tbl []) (tbl []) (tbl [])
def R_conj_mapped (r:Term) : RF Un:=(A_conj_mapped r,O_conj_mapped r)
def N_conj_mapped : Nat→NS:=fun l=>(look l [(6,{ ts:=bl 46 402653262,bs:=bl 46 72,nm:=[(.cell 3 8,184)] })]).getD ⟨[],[],[],[],[],false⟩
def conj_mapped_c1 (down:Int) (p_o:Term→Int→Prop) (p:Term→Int→Term) (v10:List Rel) (v11:Int):=conj_relation (Rel.mk (Rel.op (v10.getD v11.toNat zeroRel)) (Rel.table (v10.getD v11.toNat zeroRel)) (Rel.cols (v10.getD v11.toNat zeroRel)) (Rel.kids (v10.getD v11.toNat zeroRel)) (Rel.terms (v10.getD v11.toNat zeroRel)) (Rel.aggs (v10.getD v11.toNat zeroRel)) (Rel.keys (v10.getD v11.toNat zeroRel)) (Rel.limit (v10.getD v11.toNat zeroRel)) (Rel.skip (v10.getD v11.toNat zeroRel)) (Rel.all (v10.getD v11.toNat zeroRel)) (Rel.rows (v10.getD v11.toNat zeroRel))) (IntKind.i64.wrap (down+1)) (po_S_term_i_i64_to_S_term (fvo_S_term_i_i64_to_S_term p_o p)) (pf_S_term_i_i64_to_S_term (fvo_S_term_i_i64_to_S_term p_o p))
def conj_mapped_s6 (down:Int) (p_o:Term→Int→Prop) (p:Term→Int→Term) (v0:Int) (v1:Int) (v2:Int) (v3:Int) (v4:ByteArray) (v5:Int) (v6:Int) (v7:ByteArray) (v8:List Term) (v9:Int) (v10:List Rel) (v11:Int) : S Un:=(st 46 46 185 0 [(1,ai down),(2,AV.one (A.c (C.fv (fvo_S_term_i_i64_to_S_term p_o p)))),(3,ax 3),(6,ax 6),(27,ai v0),(28,ai v11)] [(3,some (false,[C.s (Value.int IntKind.i64 v1),C.s (Value.int IntKind.i64 v2),C.s (Value.int IntKind.i64 v3),C.s (Value.string v4),C.s (Value.int IntKind.i64 v5),C.s (Value.int IntKind.i64 v6),C.s (Value.string v7),C.sl Ty.term v8 false,C.ob (184:Nat) (0:Nat),C.s (Value.int IntKind.i64 v9)])),(6,some (false,[C.s (Value.int IntKind.i64 (0:Int)),C.s (Value.int IntKind.i64 (0:Int)),C.s (Value.int IntKind.i64 (0:Int)),C.s (Value.string (ByteArray.mk #[])),C.s (Value.int IntKind.i64 (0:Int)),C.s (Value.int IntKind.i64 (0:Int)),C.s (Value.string (ByteArray.mk #[])),C.sl Ty.term [] true,C.sl Ty.rel [] true,C.s (Value.int IntKind.i64 (0:Int))]))] [(184,some ⟨(0:Nat),Ty.rel,v10,some (0:Nat),true⟩)])
def conj_mapped_B6 : Code:=sub (bodyOf Tryz.f173) [1,1,1,1,0,1,2,2]
def conj_mapped_L6 (m:Nat) : S Un→Option (EX Un):=loopF (N_conj_mapped 6) (fun s Q=>awf (M_conj_mapped m) N_conj_mapped conj_mapped_B6 s Q)
def conj_mapped_C6 (m:Nat) : Exit→S Un→Option (RF Un):=ctxF (M_conj_mapped m) N_conj_mapped (bodyOf Tryz.f173) [1,1,1,1,0,1,2] (retF (M_conj_mapped m) Tryz.f173.results.toList [.d])
def conj_mapped_fn (m:Nat) (t:Term) (down:Int) (p_o:Term→Int→Prop) (p:Term→Int→Term) : Option (RF Un):=awf (M_conj_mapped m) N_conj_mapped (bodyOf Tryz.f173) (entry Tryz.f173.ntmps 1 [.d (.agg (enc Ty.term t)),.d (.v (.s (.int .i64 down))),.fn (fvo_S_term_i_i64_to_S_term p_o p)]) (retF (M_conj_mapped m) Tryz.f173.results.toList [.d])
theorem conj_mapped_in (m:Nat) (t:Term) (down:Int) (p_o:Term→Int→Prop) (p:Term→Int→Term) : conj_mapped_fn m t down p_o p=cndO (t.op == 2) (obO (p_o (Term.ids t) down) (obO (fvo_S_term_i_i64_to_S_term p_o p=fvo_S_term_i_i64_to_S_term (po_S_term_i_i64_to_S_term (fvo_S_term_i_i64_to_S_term p_o p)) (pf_S_term_i_i64_to_S_term (fvo_S_term_i_i64_to_S_term p_o p))) (obO ((2:Nat)*htTs (p (Term.ids t) down).kids+(2:Nat)<m) (obO (mapOK down (po_S_term_i_i64_to_S_term (fvo_S_term_i_i64_to_S_term p_o p)) (pf_S_term_i_i64_to_S_term (fvo_S_term_i_i64_to_S_term p_o p)) (szTs (p (Term.ids t) down).kids)) (obO ((p (Term.ids t) down).sub.length≤(1000000000:Nat)) ((conj_mapped_L6 m (conj_mapped_s6 down p_o p (↑(p (Term.ids t) down).sub.length:Int) ((p (Term.ids t) down).op) ((p (Term.ids t) down).v.kind) ((p (Term.ids t) down).v.n) ((p (Term.ids t) down).v.s) ((p (Term.ids t) down).depth) ((p (Term.ids t) down).at_) ((p (Term.ids t) down).name) (conj_terms (p (Term.ids t) down).kids down (po_S_term_i_i64_to_S_term (fvo_S_term_i_i64_to_S_term p_o p)) (pf_S_term_i_i64_to_S_term (fvo_S_term_i_i64_to_S_term p_o p))) ((p (Term.ids t) down).type) ((p (Term.ids t) down).sub) (0:Int))).bind (thenX (conj_mapped_C6 m)))))))) (obO (fvo_S_term_i_i64_to_S_term p_o p=fvo_S_term_i_i64_to_S_term (po_S_term_i_i64_to_S_term (fvo_S_term_i_i64_to_S_term p_o p)) (pf_S_term_i_i64_to_S_term (fvo_S_term_i_i64_to_S_term p_o p))) (obO ((2:Nat)*htTs t.kids+(2:Nat)<m) (obO (mapOK down (po_S_term_i_i64_to_S_term (fvo_S_term_i_i64_to_S_term p_o p)) (pf_S_term_i_i64_to_S_term (fvo_S_term_i_i64_to_S_term p_o p)) (szTs t.kids)) (obO (t.sub.length≤(1000000000:Nat)) ((conj_mapped_L6 m (conj_mapped_s6 down p_o p (↑t.sub.length:Int) t.op t.v.kind t.v.n t.v.s t.depth t.at_ t.name (conj_terms t.kids down (po_S_term_i_i64_to_S_term (fvo_S_term_i_i64_to_S_term p_o p)) (pf_S_term_i_i64_to_S_term (fvo_S_term_i_i64_to_S_term p_o p))) t.type t.sub (0:Int))).bind (thenX (conj_mapped_C6 m))))))):=by kernel_rfl
theorem conj_mapped_l6 (m:Nat) (down:Int) (p_o:Term→Int→Prop) (p:Term→Int→Term) (v0:Int) (v1:Int) (v2:Int) (v3:Int) (v4:ByteArray) (v5:Int) (v6:Int) (v7:ByteArray) (v8:List Term) (v9:Int) (v10:List Rel) (v11:Int) : conj_mapped_L6 m (conj_mapped_s6 down p_o p v0 v1 v2 v3 v4 v5 v6 v7 v8 v9 v10 v11)=cndO (decide (v11<v0)) (obO (0≤v11∧v11<(↑v10.length:Int)) (obO (fvo_S_term_i_i64_to_S_term p_o p=fvo_S_term_i_i64_to_S_term (po_S_term_i_i64_to_S_term (fvo_S_term_i_i64_to_S_term p_o p)) (pf_S_term_i_i64_to_S_term (fvo_S_term_i_i64_to_S_term p_o p))) (obO ((2:Nat)*(Rel.ids (v10.getD v11.toNat zeroRel)).ht+(1:Nat)<m) (obO (mapOK (IntKind.i64.wrap (down+1)) (po_S_term_i_i64_to_S_term (fvo_S_term_i_i64_to_S_term p_o p)) (pf_S_term_i_i64_to_S_term (fvo_S_term_i_i64_to_S_term p_o p)) (Rel.ids (v10.getD v11.toNat zeroRel)).sz) (obO (0≤v11∧v11<(↑v10.length:Int)) (obO ((0:Nat)≤v11.toNat) (conj_mapped_L6 m (conj_mapped_s6 down p_o p v0 v1 v2 v3 v4 v5 v6 v7 v8 v9 (v10.set v11.toNat (Rel.mk (conj_mapped_c1 down p_o p v10 v11).op (conj_mapped_c1 down p_o p v10 v11).table (conj_mapped_c1 down p_o p v10 v11).cols (conj_mapped_c1 down p_o p v10 v11).kids (conj_mapped_c1 down p_o p v10 v11).terms (conj_mapped_c1 down p_o p v10 v11).aggs (conj_mapped_c1 down p_o p v10 v11).keys (conj_mapped_c1 down p_o p v10 v11).limit (conj_mapped_c1 down p_o p v10 v11).skip (conj_mapped_c1 down p_o p v10 v11).all (conj_mapped_c1 down p_o p v10 v11).rows)) (IntKind.i64.wrap (v11+1)))))))))) (some (.exit 0,(conj_mapped_s6 down p_o p v0 v1 v2 v3 v4 v5 v6 v7 v8 v9 v10 v11))):=(loopF_eq (N_conj_mapped 6) conj_mapped_B6 _).trans (by kernel_rfl)
theorem conj_mapped_a6_x0 (m:Nat) (down:Int) (p_o:Term→Int→Prop) (p:Term→Int→Term) (v0:Int) (v1:Int) (v2:Int) (v3:Int) (v4:ByteArray) (v5:Int) (v6:Int) (v7:ByteArray) (v8:List Term) (v9:Int) (v10:List Rel) (v11:Int) : conj_mapped_C6 m (.exit 0) (conj_mapped_s6 down p_o p v0 v1 v2 v3 v4 v5 v6 v7 v8 v9 v10 v11)=some (R_conj_mapped (Term.mk v1 { kind:=v2,n:=v3,s:=v4 } v5 v6 v7 v8 v10 v9)):=by kernel_rfl
theorem conj_mapped_loop (m:Nat) (down:Int) (p_o:Term→Int→Prop) (p:Term→Int→Term) (v1 v2 v3:Int) (v4:ByteArray) (v5 v6:Int) (v7:ByteArray) (v8:List Term) (v9:Int) (s:List Rel) (hl:s.length≤9223372036854775807) (hm:2*htRs s+1<m) (h:mapOK (down+1) p_o p (szRs s)) (h0:0≤down) :
    conj_mapped_L6 m (conj_mapped_s6 down p_o p (s.length:Int) v1 v2 v3 v4 v5 v6 v7 v8 v9 s (0:Int))=some (.exit 0,conj_mapped_s6 down p_o p (s.length:Int) v1 v2 v3 v4 v5 v6 v7 v8 v9 (mapRs p (down+1) s) (s.length:Int)):=by
  obtain⟨h1,h2,h3⟩:=h
  have hw:IntKind.i64.wrap (down+1)=down+1:=wrap_id (by omega)
  rw[mapRs_map]
  exact loop_map (L:=conj_mapped_L6 m) (st:=fun xs i=>conj_mapped_s6 down p_o p (s.length:Int) v1 v2 v3 v4 v5 v6 v7 v8 v9 xs i) (d:=zeroRel) (mapR p (down+1)) hl
    (fun xs i x hi hxl hx hmem=>by
      have hsz:=szRs_mem hmem
      have hht:=htRs_mem hmem
      rw[conj_mapped_l6]
      simp only[conj_mapped_c1,rel_eta,Rel.ids_eq,pofvo_S_term_i_i64_to_S_term,pffvo_S_term_i_i64_to_S_term,cndO_eq,hi,decide_true,if_true,and_true,Int.toNat_natCast,hx,hxl,hw]
      rw[obO_pos (by omega),obO_pos trivial,obO_pos (by omega),obO_pos (show mapOK _ _ _ _ from ⟨h1,by omega,by omega⟩),obO_pos (by omega),obO_pos (by omega)]
      simp only[conj_relation])
    (fun xs _=>by rw[conj_mapped_l6];simp [cndO_eq])
theorem conj_mapped_spec (m:Nat) (t:Term) (down:Int) (p_o:Term→Int→Prop) (p:Term→Int→Term) (ht:WS .term t) (_hd:WI down) (hm:2*t.ht+1<m+1) (h:mapOK down p_o p t.sz) : conj_mapped_fn m t down p_o p=some (R_conj_mapped (conj_mapped t down p_o p)):=by
  obtain⟨h1,h2,h3⟩:=h
  have hsz:=t.sz_eq
  have hk:htTs t.kids<t.ht∧htRs t.sub<t.ht:=by cases t;simp only[Term.ht,Term.kids_mk,Term.sub_mk];omega
  have hsl:=szRs_len t.sub
  have key:∀ a : Int,(conj_mapped_L6 m (conj_mapped_s6 down p_o p (t.sub.length:Int) t.op t.v.kind t.v.n t.v.s t.depth a t.name (mapTs p down t.kids) t.type t.sub (0:Int))).bind (thenX (conj_mapped_C6 m))=some (R_conj_mapped (.mk t.op t.v t.depth a t.name (mapTs p down t.kids) (mapRs p (down+1) t.sub) t.type)):=by
    intro a
    rw[loop_end (conj_mapped_loop m down p_o p _ _ _ _ _ _ _ _ _ t.sub (ht.term_sub).len (by omega) ⟨h1,by omega,by omega⟩ h2),conj_mapped_a6_x0]
  rw[conj_mapped_in]
  simp only[Term.ids_eq,pofvo_S_term_i_i64_to_S_term,pffvo_S_term_i_i64_to_S_term,cndO_eq,beq_iff_eq,conj_terms]
  unfold conj_mapped
  rw[mapT_eq]
  by_cases ho : t.op=2
  · have hp:=h1.2 t down
    generalize (p t down).at_=a at hp ⊢
    rw[if_pos ho,if_pos ho,obO_pos (h1.1 t down),hp]
    simp only[setAt,Term.op_mk,Term.v_mk,Term.depth_mk,Term.at__mk,Term.name_mk,Term.kids_mk,Term.sub_mk,Term.type_mk]
    rw[obO_pos trivial,obO_pos (by omega),obO_pos (show mapOK _ _ _ _ from ⟨h1,by omega,by omega⟩),obO_pos (by omega),key a]
  · rw[if_neg ho,if_neg ho,obO_pos trivial,obO_pos (by omega),obO_pos (show mapOK _ _ _ _ from ⟨h1,by omega,by omega⟩),obO_pos (by omega),key t.at_]
theorem okm_conj_mapped (m:Nat) (h_conj_mapped:FnOK 173 (Fm_conj_mapped m)) (h_conj_terms:FnOK 180 (Fm_conj_terms m)) (h_conj_relation:FnOK 181 (Fm_conj_relation m)) : FnOK 173 (Fm_conj_mapped (m+1)):=by
  intro args ob rs os h hob
  unfold Fm_conj_mapped at h
  split at h
  · simp only[Option.bind_eq_some_iff,Option.some.injEq,Prod.mk.injEq] at h
    obtain⟨t,e0,down,e1,p,e2,rfl,rfl,rfl⟩:=h
    obtain rfl:=dS_eq e0
    obtain rfl:=dI_eq e1
    obtain rfl:=dF_eq e2
    have hfv0:=hob _ (List.mem_of_getElem? (i:=0) rfl)
    generalize pf_S_term_i_i64_to_S_term p=pp0 at *
    generalize po_S_term_i_i64_to_S_term p=qq0 at *
    subst hfv0
    exact⟨fn_contractF (M:=(M_conj_mapped m)) rfl (tbl_ok (l1:=[(180,Fm_conj_terms m),(97,F_clone_rel),(181,Fm_conj_relation m)]) (l2:=[]) (l3:=[]) (l4:=[]) (l5:=[]) ⟨h_conj_terms,ok_clone_rel,h_conj_relation,trivial⟩ trivial trivial trivial trivial) Tryz.func173 (by kernel_rfl) N_conj_mapped 1 [.d] (fun hwf=>(conj_mapped_spec m t down qq0 pp0 (wfArg hwf (a:=.d (.agg (enc Ty.term t))) (List.mem_of_getElem? (i:=0) rfl)) (wfArg hwf (a:=.d (.v (.s (.int .i64 down)))) (List.mem_of_getElem? (i:=1) rfl)) (hob _ (List.mem_of_getElem? (i:=1) rfl)) (hob _ (List.mem_of_getElem? (i:=2) rfl)))),hasBody_of Tryz.func173 (by kernel_rfl) (by kernel_rfl)⟩
  · simp at h
def M_conj_terms (m:Nat) : Mc Un:=mach (tbl [(98,F_clone_term),(173,Fm_conj_mapped m)]) (tbl []) (tbl []) (tbl []) (tbl [])
def R_conj_terms (r:List Term) : RF Un:=(A_conj_terms r,O_conj_terms r)
def N_conj_terms : Nat→NS:=fun l=>(look l [(3,{ ts:=bl 27 6151,bs:=bl 27 0,nm:=[(.sl 0,108)] })]).getD ⟨[],[],[],[],[],false⟩
def conj_terms_s3 (l:List Term) (down:Int) (p_o:Term→Int→Prop) (p:Term→Int→Term) (v0:Int) (v1:List Term) : S Un:=(st 27 27 109 0 [(0,ao 108),(1,ai down),(2,AV.one (A.c (C.fv (fvo_S_term_i_i64_to_S_term p_o p)))),(11,ai (↑l.length:Int)),(12,ai v0)] [] [(108,some ⟨(0:Nat),Ty.term,v1,some (0:Nat),true⟩)])
def conj_terms_B3 : Code:=sub (bodyOf Tryz.f180) [1,1,0,1,2,2]
def conj_terms_L3 (m:Nat) : S Un→Option (EX Un):=loopF (N_conj_terms 3) (fun s Q=>awf (M_conj_terms m) N_conj_terms conj_terms_B3 s Q)
def conj_terms_C3 (m:Nat) : Exit→S Un→Option (RF Un):=ctxF (M_conj_terms m) N_conj_terms (bodyOf Tryz.f180) [1,1,0,1,2] (retF (M_conj_terms m) Tryz.f180.results.toList [.d])
def conj_terms_fn (m:Nat) (l:List Term) (down:Int) (p_o:Term→Int→Prop) (p:Term→Int→Term) : Option (RF Un):=awf (M_conj_terms m) N_conj_terms (bodyOf Tryz.f180) (entry Tryz.f180.ntmps 1 [.d (.v (.dat (U:=Un) Ty.term l)),.d (.v (.s (.int .i64 down))),.fn (fvo_S_term_i_i64_to_S_term p_o p)]) (retF (M_conj_terms m) Tryz.f180.results.toList [.d])
theorem conj_terms_in (m:Nat) (l:List Term) (down:Int) (p_o:Term→Int→Prop) (p:Term→Int→Term) : conj_terms_fn m l down p_o p=obO (l.length≤(1000000000:Nat)) ((conj_terms_L3 m (conj_terms_s3 l down p_o p (0:Int) l)).bind (thenX (conj_terms_C3 m))):=by kernel_rfl
theorem conj_terms_l3 (m:Nat) (l:List Term) (down:Int) (p_o:Term→Int→Prop) (p:Term→Int→Term) (v0:Int) (v1:List Term) : conj_terms_L3 m (conj_terms_s3 l down p_o p v0 v1)=cndO (decide (v0<(↑l.length:Int))) (obO (0≤v0∧v0<(↑v1.length:Int)) (obO (fvo_S_term_i_i64_to_S_term p_o p=fvo_S_term_i_i64_to_S_term (po_S_term_i_i64_to_S_term (fvo_S_term_i_i64_to_S_term p_o p)) (pf_S_term_i_i64_to_S_term (fvo_S_term_i_i64_to_S_term p_o p))) (obO ((2:Nat)*(Term.ids (v1.getD v0.toNat zeroTerm)).ht+(1:Nat)<m) (obO (mapOK down (po_S_term_i_i64_to_S_term (fvo_S_term_i_i64_to_S_term p_o p)) (pf_S_term_i_i64_to_S_term (fvo_S_term_i_i64_to_S_term p_o p)) (Term.ids (v1.getD v0.toNat zeroTerm)).sz) (obO (0≤v0∧v0<(↑v1.length:Int)) (obO ((0:Nat)≤v0.toNat) (conj_terms_L3 m (conj_terms_s3 l down p_o p (IntKind.i64.wrap (v0+1)) (v1.set v0.toNat (Term.mk (conj_mapped (Term.ids (v1.getD v0.toNat zeroTerm)) down (po_S_term_i_i64_to_S_term (fvo_S_term_i_i64_to_S_term p_o p)) (pf_S_term_i_i64_to_S_term (fvo_S_term_i_i64_to_S_term p_o p))).op (conj_mapped (Term.ids (v1.getD v0.toNat zeroTerm)) down (po_S_term_i_i64_to_S_term (fvo_S_term_i_i64_to_S_term p_o p)) (pf_S_term_i_i64_to_S_term (fvo_S_term_i_i64_to_S_term p_o p))).v (conj_mapped (Term.ids (v1.getD v0.toNat zeroTerm)) down (po_S_term_i_i64_to_S_term (fvo_S_term_i_i64_to_S_term p_o p)) (pf_S_term_i_i64_to_S_term (fvo_S_term_i_i64_to_S_term p_o p))).depth (conj_mapped (Term.ids (v1.getD v0.toNat zeroTerm)) down (po_S_term_i_i64_to_S_term (fvo_S_term_i_i64_to_S_term p_o p)) (pf_S_term_i_i64_to_S_term (fvo_S_term_i_i64_to_S_term p_o p))).at_ (conj_mapped (Term.ids (v1.getD v0.toNat zeroTerm)) down (po_S_term_i_i64_to_S_term (fvo_S_term_i_i64_to_S_term p_o p)) (pf_S_term_i_i64_to_S_term (fvo_S_term_i_i64_to_S_term p_o p))).name (conj_mapped (Term.ids (v1.getD v0.toNat zeroTerm)) down (po_S_term_i_i64_to_S_term (fvo_S_term_i_i64_to_S_term p_o p)) (pf_S_term_i_i64_to_S_term (fvo_S_term_i_i64_to_S_term p_o p))).kids (conj_mapped (Term.ids (v1.getD v0.toNat zeroTerm)) down (po_S_term_i_i64_to_S_term (fvo_S_term_i_i64_to_S_term p_o p)) (pf_S_term_i_i64_to_S_term (fvo_S_term_i_i64_to_S_term p_o p))).sub (conj_mapped (Term.ids (v1.getD v0.toNat zeroTerm)) down (po_S_term_i_i64_to_S_term (fvo_S_term_i_i64_to_S_term p_o p)) (pf_S_term_i_i64_to_S_term (fvo_S_term_i_i64_to_S_term p_o p))).type)))))))))) (some (.exit 0,(conj_terms_s3 l down p_o p v0 v1))):=(loopF_eq (N_conj_terms 3) conj_terms_B3 _).trans (by kernel_rfl)
theorem conj_terms_a3_x0 (m:Nat) (l:List Term) (down:Int) (p_o:Term→Int→Prop) (p:Term→Int→Term) (v0:Int) (v1:List Term) : conj_terms_C3 m (.exit 0) (conj_terms_s3 l down p_o p v0 v1)=some (R_conj_terms (v1)):=by kernel_rfl
theorem conj_terms_spec (m:Nat) (l:List Term) (down:Int) (p_o:Term→Int→Prop) (p:Term→Int→Term) (hl:WL .term l) (_hd:WI down) (hm:2*htTs l+2<m+1) (h:mapOK down p_o p (szTs l)) : conj_terms_fn m l down p_o p=some (R_conj_terms (conj_terms l down p_o p)):=by
  obtain⟨h1,h2,h3⟩:=h
  have hsl:=szTs_len l
  have lp:=loop_map (e:=.exit 0) (L:=conj_terms_L3 m) (st:=fun xs i=>conj_terms_s3 l down p_o p i xs) (l:=l) (d:=zeroTerm) (mapT p down) hl.len
    (fun xs i x hi hxl hx hmem=>by
      have hsz:=szTs_mem hmem
      have hht:=htTs_mem hmem
      rw[conj_terms_l3]
      simp only[Term.ids_eq,pofvo_S_term_i_i64_to_S_term,pffvo_S_term_i_i64_to_S_term,cndO_eq,hi,decide_true,if_true,and_true,Int.toNat_natCast,hx,hxl]
      rw[obO_pos (by omega),obO_pos trivial,obO_pos (by omega),obO_pos (show mapOK _ _ _ _ from ⟨h1,by omega,by omega⟩),obO_pos (by omega),obO_pos (by omega)]
      simp only[conj_mapped,term_eta])
    (fun xs _=>by rw[conj_terms_l3];simp [cndO_eq])
  rw[conj_terms_in,obO_pos (by omega),loop_end lp,conj_terms_a3_x0]
  unfold conj_terms
  rw[mapTs_map]
theorem okm_conj_terms (m:Nat) (h_conj_mapped:FnOK 173 (Fm_conj_mapped m)) (h_conj_terms:FnOK 180 (Fm_conj_terms m)) (h_conj_relation:FnOK 181 (Fm_conj_relation m)) : FnOK 180 (Fm_conj_terms (m+1)):=by
  intro args ob rs os h hob
  unfold Fm_conj_terms at h
  split at h
  · simp only[Option.bind_eq_some_iff,Option.some.injEq,Prod.mk.injEq] at h
    obtain⟨l,e0,down,e1,p,e2,rfl,rfl,rfl⟩:=h
    obtain rfl:=dL_eq e0
    obtain rfl:=dI_eq e1
    obtain rfl:=dF_eq e2
    have hfv0:=hob _ (List.mem_of_getElem? (i:=0) rfl)
    generalize pf_S_term_i_i64_to_S_term p=pp0 at *
    generalize po_S_term_i_i64_to_S_term p=qq0 at *
    subst hfv0
    exact⟨fn_contractF (M:=(M_conj_terms m)) rfl (tbl_ok (l1:=[(98,F_clone_term),(173,Fm_conj_mapped m)]) (l2:=[]) (l3:=[]) (l4:=[]) (l5:=[]) ⟨ok_clone_term,h_conj_mapped,trivial⟩ trivial trivial trivial trivial) Tryz.func180 (by kernel_rfl) N_conj_terms 1 [.d] (fun hwf=>(conj_terms_spec m l down qq0 pp0 (wfArg hwf (a:=.d (.v (.dat (U:=Un) Ty.term l))) (List.mem_of_getElem? (i:=0) rfl)) (wfArg hwf (a:=.d (.v (.s (.int .i64 down)))) (List.mem_of_getElem? (i:=1) rfl)) (hob _ (List.mem_of_getElem? (i:=1) rfl)) (hob _ (List.mem_of_getElem? (i:=2) rfl)))),hasBody_of Tryz.func180 (by kernel_rfl) (by kernel_rfl)⟩
  · simp at h
def M_conj_relation (m:Nat) : Mc Un:=mach (tbl [(180,Fm_conj_terms m),(47,F_clone_agg),(97,F_clone_rel),(181,Fm_conj_relation m)]) (tbl []) (tbl []) (tbl []) (tbl [])
def R_conj_relation (r:Rel) : RF Un:=(A_conj_relation r,O_conj_relation r)
def N_conj_relation : Nat→NS:=fun l=>(look l [(4,{ ts:=bl 64 6291534,bs:=bl 64 72,nm:=[(.cell 3 5,256)] }),(10,{ ts:=bl 64 211106232533070,bs:=bl 64 72,nm:=[(.cell 3 3,257),(.cell 3 5,258)] })]).getD ⟨[],[],[],[],[],false⟩
def conj_relation_c1 (r:Rel) (down:Int) (p_o:Term→Int→Prop) (p:Term→Int→Term):=conj_terms r.terms down (po_S_term_i_i64_to_S_term (fvo_S_term_i_i64_to_S_term p_o p)) (pf_S_term_i_i64_to_S_term (fvo_S_term_i_i64_to_S_term p_o p))
def conj_relation_c2 (down:Int) (p_o:Term→Int→Prop) (p:Term→Int→Term) (v2:Int) (v3:List Rel):=conj_relation (Rel.mk (Rel.op (v3.getD v2.toNat zeroRel)) (Rel.table (v3.getD v2.toNat zeroRel)) (Rel.cols (v3.getD v2.toNat zeroRel)) (Rel.kids (v3.getD v2.toNat zeroRel)) (Rel.terms (v3.getD v2.toNat zeroRel)) (Rel.aggs (v3.getD v2.toNat zeroRel)) (Rel.keys (v3.getD v2.toNat zeroRel)) (Rel.limit (v3.getD v2.toNat zeroRel)) (Rel.skip (v3.getD v2.toNat zeroRel)) (Rel.all (v3.getD v2.toNat zeroRel)) (Rel.rows (v3.getD v2.toNat zeroRel))) down (po_S_term_i_i64_to_S_term (fvo_S_term_i_i64_to_S_term p_o p)) (pf_S_term_i_i64_to_S_term (fvo_S_term_i_i64_to_S_term p_o p))
def conj_relation_s4 (r:Rel) (down:Int) (p_o:Term→Int→Prop) (p:Term→Int→Term) (v0:Int) (v1:List Agg) : S Un:=(st 64 64 259 0 [(1,ai down),(2,AV.one (A.c (C.fv (fvo_S_term_i_i64_to_S_term p_o p)))),(3,ax 3),(6,ax 6),(21,ai (↑r.aggs.length:Int)),(22,ai v0)] [(3,some (false,[C.s (Value.int IntKind.i64 r.op),C.s (Value.string r.table),C.sl Ty.col r.cols false,C.sl Ty.rel r.kids false,C.sl Ty.term (conj_relation_c1 r down p_o p) false,C.ob (256:Nat) (0:Nat),C.sl Ty.by_ r.keys false,C.s (Value.int IntKind.i64 r.limit),C.s (Value.int IntKind.i64 r.skip),C.s (Value.bool r.all),C.sl Ty.row r.rows false])),(6,some (false,[C.s (Value.int IntKind.i64 (0:Int)),C.s (Value.string (ByteArray.mk #[])),C.sl Ty.col [] true,C.sl Ty.rel [] true,C.sl Ty.term [] true,C.sl Ty.agg [] true,C.sl Ty.by_ [] true,C.s (Value.int IntKind.i64 (0:Int)),C.s (Value.int IntKind.i64 (0:Int)),C.s (Value.bool false),C.sl Ty.row [] true]))] [(256,some ⟨(0:Nat),Ty.agg,v1,some (0:Nat),true⟩)])
def conj_relation_s10 (r:Rel) (down:Int) (p_o:Term→Int→Prop) (p:Term→Int→Term) (v1:List Agg) (v2:Int) (v3:List Rel) : S Un:=(st 64 64 259 0 [(1,ai down),(2,AV.one (A.c (C.fv (fvo_S_term_i_i64_to_S_term p_o p)))),(3,ax 3),(6,ax 6),(46,ai (↑r.kids.length:Int)),(47,ai v2)] [(3,some (false,[C.s (Value.int IntKind.i64 r.op),C.s (Value.string r.table),C.sl Ty.col r.cols false,C.ob (257:Nat) (0:Nat),C.sl Ty.term (conj_relation_c1 r down p_o p) false,C.ob (258:Nat) (0:Nat),C.sl Ty.by_ r.keys false,C.s (Value.int IntKind.i64 r.limit),C.s (Value.int IntKind.i64 r.skip),C.s (Value.bool r.all),C.sl Ty.row r.rows false])),(6,some (false,[C.s (Value.int IntKind.i64 (0:Int)),C.s (Value.string (ByteArray.mk #[])),C.sl Ty.col [] true,C.sl Ty.rel [] true,C.sl Ty.term [] true,C.sl Ty.agg [] true,C.sl Ty.by_ [] true,C.s (Value.int IntKind.i64 (0:Int)),C.s (Value.int IntKind.i64 (0:Int)),C.s (Value.bool false),C.sl Ty.row [] true]))] [(257,some ⟨(0:Nat),Ty.rel,v3,some (0:Nat),true⟩),(258,some ⟨(0:Nat),Ty.agg,v1,some (0:Nat),true⟩)])
def conj_relation_B4 : Code:=sub (bodyOf Tryz.f181) [1,1,1,0,1,2,2]
def conj_relation_L4 (m:Nat) : S Un→Option (EX Un):=loopF (N_conj_relation 4) (fun s Q=>awf (M_conj_relation m) N_conj_relation conj_relation_B4 s Q)
def conj_relation_B10 : Code:=sub (bodyOf Tryz.f181) [1,1,1,1,1,0,1,2,2]
def conj_relation_L10 (m:Nat) : S Un→Option (EX Un):=loopF (N_conj_relation 10) (fun s Q=>awf (M_conj_relation m) N_conj_relation conj_relation_B10 s Q)
def conj_relation_C4 (m:Nat) : Exit→S Un→Option (RF Un):=ctxF (M_conj_relation m) N_conj_relation (bodyOf Tryz.f181) [1,1,1,0,1,2] (retF (M_conj_relation m) Tryz.f181.results.toList [.d])
def conj_relation_C10 (m:Nat) : Exit→S Un→Option (RF Un):=ctxF (M_conj_relation m) N_conj_relation (bodyOf Tryz.f181) [1,1,1,1,1,0,1,2] (retF (M_conj_relation m) Tryz.f181.results.toList [.d])
def conj_relation_fn (m:Nat) (r:Rel) (down:Int) (p_o:Term→Int→Prop) (p:Term→Int→Term) : Option (RF Un):=awf (M_conj_relation m) N_conj_relation (bodyOf Tryz.f181) (entry Tryz.f181.ntmps 3 [.d (.agg (enc Ty.rel r)),.d (.v (.s (.int .i64 down))),.fn (fvo_S_term_i_i64_to_S_term p_o p)]) (retF (M_conj_relation m) Tryz.f181.results.toList [.d])
theorem conj_relation_in (m:Nat) (r:Rel) (down:Int) (p_o:Term→Int→Prop) (p:Term→Int→Term) : conj_relation_fn m r down p_o p=obO (fvo_S_term_i_i64_to_S_term p_o p=fvo_S_term_i_i64_to_S_term (po_S_term_i_i64_to_S_term (fvo_S_term_i_i64_to_S_term p_o p)) (pf_S_term_i_i64_to_S_term (fvo_S_term_i_i64_to_S_term p_o p))) (obO ((2:Nat)*htTs r.terms+(2:Nat)<m) (obO (mapOK down (po_S_term_i_i64_to_S_term (fvo_S_term_i_i64_to_S_term p_o p)) (pf_S_term_i_i64_to_S_term (fvo_S_term_i_i64_to_S_term p_o p)) (szTs r.terms)) (obO (r.aggs.length≤(1000000000:Nat)) ((conj_relation_L4 m (conj_relation_s4 r down p_o p (0:Int) r.aggs)).bind (thenX (conj_relation_C4 m)))))):=by kernel_rfl
theorem conj_relation_l4 (m:Nat) (r:Rel) (down:Int) (p_o:Term→Int→Prop) (p:Term→Int→Term) (v0:Int) (v1:List Agg) : conj_relation_L4 m (conj_relation_s4 r down p_o p v0 v1)=cndO (decide (v0<(↑r.aggs.length:Int))) (obO (0≤v0∧v0<(↑v1.length:Int)) (obO (fvo_S_term_i_i64_to_S_term p_o p=fvo_S_term_i_i64_to_S_term (po_S_term_i_i64_to_S_term (fvo_S_term_i_i64_to_S_term p_o p)) (pf_S_term_i_i64_to_S_term (fvo_S_term_i_i64_to_S_term p_o p))) (obO ((2:Nat)*htTs (Agg.t (v1.getD v0.toNat zeroAgg))+(2:Nat)<m) (obO (mapOK down (po_S_term_i_i64_to_S_term (fvo_S_term_i_i64_to_S_term p_o p)) (pf_S_term_i_i64_to_S_term (fvo_S_term_i_i64_to_S_term p_o p)) (szTs (Agg.t (v1.getD v0.toNat zeroAgg)))) (obO (0≤v0∧v0<(↑v1.length:Int)) (obO ((0:Nat)≤v0.toNat) (conj_relation_L4 m (conj_relation_s4 r down p_o p (IntKind.i64.wrap (v0+1)) (v1.set v0.toNat (Agg.mk (Agg.name (v1.getD v0.toNat zeroAgg)) (Agg.distinct (v1.getD v0.toNat zeroAgg)) (conj_terms (Agg.t (v1.getD v0.toNat zeroAgg)) down (po_S_term_i_i64_to_S_term (fvo_S_term_i_i64_to_S_term p_o p)) (pf_S_term_i_i64_to_S_term (fvo_S_term_i_i64_to_S_term p_o p))))))))))))) (some (.exit 0,(conj_relation_s4 r down p_o p v0 v1))):=(loopF_eq (N_conj_relation 4) conj_relation_B4 _).trans (by kernel_rfl)
theorem conj_relation_a4_x0 (m:Nat) (r:Rel) (down:Int) (p_o:Term→Int→Prop) (p:Term→Int→Term) (v0:Int) (v1:List Agg) : conj_relation_C4 m (.exit 0) (conj_relation_s4 r down p_o p v0 v1)=obO (r.kids.length≤(1000000000:Nat)) ((conj_relation_L10 m (conj_relation_s10 r down p_o p v1 (0:Int) r.kids)).bind (thenX (conj_relation_C10 m))):=by kernel_rfl
theorem conj_relation_l10 (m:Nat) (r:Rel) (down:Int) (p_o:Term→Int→Prop) (p:Term→Int→Term) (v1:List Agg) (v2:Int) (v3:List Rel) : conj_relation_L10 m (conj_relation_s10 r down p_o p v1 v2 v3)=cndO (decide (v2<(↑r.kids.length:Int))) (obO (0≤v2∧v2<(↑v3.length:Int)) (obO (fvo_S_term_i_i64_to_S_term p_o p=fvo_S_term_i_i64_to_S_term (po_S_term_i_i64_to_S_term (fvo_S_term_i_i64_to_S_term p_o p)) (pf_S_term_i_i64_to_S_term (fvo_S_term_i_i64_to_S_term p_o p))) (obO ((2:Nat)*(Rel.ids (v3.getD v2.toNat zeroRel)).ht+(1:Nat)<m) (obO (mapOK down (po_S_term_i_i64_to_S_term (fvo_S_term_i_i64_to_S_term p_o p)) (pf_S_term_i_i64_to_S_term (fvo_S_term_i_i64_to_S_term p_o p)) (Rel.ids (v3.getD v2.toNat zeroRel)).sz) (obO (0≤v2∧v2<(↑v3.length:Int)) (obO ((0:Nat)≤v2.toNat) (conj_relation_L10 m (conj_relation_s10 r down p_o p v1 (IntKind.i64.wrap (v2+1)) (v3.set v2.toNat (Rel.mk (conj_relation_c2 down p_o p v2 v3).op (conj_relation_c2 down p_o p v2 v3).table (conj_relation_c2 down p_o p v2 v3).cols (conj_relation_c2 down p_o p v2 v3).kids (conj_relation_c2 down p_o p v2 v3).terms (conj_relation_c2 down p_o p v2 v3).aggs (conj_relation_c2 down p_o p v2 v3).keys (conj_relation_c2 down p_o p v2 v3).limit (conj_relation_c2 down p_o p v2 v3).skip (conj_relation_c2 down p_o p v2 v3).all (conj_relation_c2 down p_o p v2 v3).rows)))))))))) (some (.exit 2,(conj_relation_s10 r down p_o p v1 v2 v3))):=(loopF_eq (N_conj_relation 10) conj_relation_B10 _).trans (by kernel_rfl)
theorem conj_relation_a10_x2 (m:Nat) (r:Rel) (down:Int) (p_o:Term→Int→Prop) (p:Term→Int→Term) (v1:List Agg) (v2:Int) (v3:List Rel) : conj_relation_C10 m (.exit 2) (conj_relation_s10 r down p_o p v1 v2 v3)=some (R_conj_relation (Rel.mk r.op r.table r.cols v3 (conj_relation_c1 r down p_o p) v1 r.keys r.limit r.skip r.all r.rows)):=by kernel_rfl
theorem conj_relation_spec (m:Nat) (r:Rel) (down:Int) (p_o:Term→Int→Prop) (p:Term→Int→Term) (hr:WS .rel r) (_hd:WI down) (hm:2*r.ht+1<m+1) (h:mapOK down p_o p r.sz) : conj_relation_fn m r down p_o p=some (R_conj_relation (conj_relation r down p_o p)):=by
  obtain⟨h1,h2,h3⟩:=h
  have hsz:=r.sz_eq
  have hk:htTs r.terms<r.ht∧htAs r.aggs<r.ht∧htRs r.kids<r.ht:=by cases r;simp only[Rel.ht,Rel.kids_mk,Rel.terms_mk,Rel.aggs_mk];omega
  have hal:=szAs_len r.aggs
  have hkl:=szRs_len r.kids
  have l4:=loop_map (e:=.exit 0) (L:=conj_relation_L4 m) (st:=fun xs i=>conj_relation_s4 r down p_o p i xs) (l:=r.aggs) (d:=zeroAgg) (mapA p down) (hr.rel_aggs).len
    (fun xs i x hi hxl hx hmem=>by
      have hsz:=szAs_mem hmem
      have hxs:=x.sz_eq
      have hht:=htAs_mem hmem
      have hxh:htTs x.t<x.ht:=by cases x;simp only[Agg.ht,Agg.t_mk];omega
      rw[conj_relation_l4]
      simp only[pofvo_S_term_i_i64_to_S_term,pffvo_S_term_i_i64_to_S_term,cndO_eq,hi,decide_true,if_true,and_true,Int.toNat_natCast,hx,hxl]
      rw[obO_pos (by omega),obO_pos trivial,obO_pos (by omega),obO_pos (show mapOK _ _ _ _ from ⟨h1,by omega,by omega⟩),obO_pos (by omega),obO_pos (by omega)]
      simp only[conj_terms,mapA_eq])
    (fun xs _=>by rw[conj_relation_l4];simp [cndO_eq])
  have l10:=loop_map (e:=.exit 2) (L:=conj_relation_L10 m) (st:=fun xs i=>conj_relation_s10 r down p_o p (r.aggs.map (mapA p down)) i xs) (l:=r.kids) (d:=zeroRel) (mapR p down) (hr.rel_kids).len
    (fun xs i x hi hxl hx hmem=>by
      have hsz:=szRs_mem hmem
      have hht:=htRs_mem hmem
      rw[conj_relation_l10]
      simp only[conj_relation_c2,rel_eta,Rel.ids_eq,pofvo_S_term_i_i64_to_S_term,pffvo_S_term_i_i64_to_S_term,cndO_eq,hi,decide_true,if_true,and_true,Int.toNat_natCast,hx,hxl]
      rw[obO_pos (by omega),obO_pos trivial,obO_pos (by omega),obO_pos (show mapOK _ _ _ _ from ⟨h1,by omega,by omega⟩),obO_pos (by omega),obO_pos (by omega)]
      simp only[conj_relation])
    (fun xs _=>by rw[conj_relation_l10];simp [cndO_eq])
  rw[conj_relation_in]
  simp only[pofvo_S_term_i_i64_to_S_term,pffvo_S_term_i_i64_to_S_term]
  rw[obO_pos trivial,obO_pos (by omega),obO_pos (show mapOK _ _ _ _ from ⟨h1,by omega,by omega⟩),obO_pos (by omega),loop_end l4,conj_relation_a4_x0,obO_pos (by omega),loop_end l10,conj_relation_a10_x2]
  unfold conj_relation conj_relation_c1
  rw[mapR_eq,pofvo_S_term_i_i64_to_S_term,pffvo_S_term_i_i64_to_S_term,mapAs_map,mapRs_map]
  rfl
theorem okm_conj_relation (m:Nat) (h_conj_mapped:FnOK 173 (Fm_conj_mapped m)) (h_conj_terms:FnOK 180 (Fm_conj_terms m)) (h_conj_relation:FnOK 181 (Fm_conj_relation m)) : FnOK 181 (Fm_conj_relation (m+1)):=by
  intro args ob rs os h hob
  unfold Fm_conj_relation at h
  split at h
  · simp only[Option.bind_eq_some_iff,Option.some.injEq,Prod.mk.injEq] at h
    obtain⟨r,e0,down,e1,p,e2,rfl,rfl,rfl⟩:=h
    obtain rfl:=dS_eq e0
    obtain rfl:=dI_eq e1
    obtain rfl:=dF_eq e2
    have hfv0:=hob _ (List.mem_of_getElem? (i:=0) rfl)
    generalize pf_S_term_i_i64_to_S_term p=pp0 at *
    generalize po_S_term_i_i64_to_S_term p=qq0 at *
    subst hfv0
    exact⟨fn_contractF (M:=(M_conj_relation m)) rfl (tbl_ok (l1:=[(180,Fm_conj_terms m),(47,F_clone_agg),(97,F_clone_rel),(181,Fm_conj_relation m)]) (l2:=[]) (l3:=[]) (l4:=[]) (l5:=[]) ⟨h_conj_terms,ok_clone_agg,ok_clone_rel,h_conj_relation,trivial⟩ trivial trivial trivial trivial) Tryz.func181 (by kernel_rfl) N_conj_relation 3 [.d] (fun hwf=>(conj_relation_spec m r down qq0 pp0 (wfArg hwf (a:=.d (.agg (enc Ty.rel r))) (List.mem_of_getElem? (i:=0) rfl)) (wfArg hwf (a:=.d (.v (.s (.int .i64 down)))) (List.mem_of_getElem? (i:=1) rfl)) (hob _ (List.mem_of_getElem? (i:=1) rfl)) (hob _ (List.mem_of_getElem? (i:=2) rfl)))),hasBody_of Tryz.func181 (by kernel_rfl) (by kernel_rfl)⟩
  · simp at h
theorem okAll_mapG : ∀ m,FnOK 173 (Fm_conj_mapped m)∧FnOK 180 (Fm_conj_terms m)∧FnOK 181 (Fm_conj_relation m)
  | 0=>by
    refine⟨?_,?_,?_⟩
    · intro args ob rs os h hob
      unfold Fm_conj_mapped at h
      split at h
      · simp only[Option.bind_eq_some_iff,Option.some.injEq,Prod.mk.injEq] at h
        obtain⟨_,_,_,_,_,_,rfl,_,_⟩:=h
        exact absurd (hob _ (List.mem_of_getElem? (i:=1) rfl)) (Nat.not_lt_zero _)
      · simp at h
    · intro args ob rs os h hob
      unfold Fm_conj_terms at h
      split at h
      · simp only[Option.bind_eq_some_iff,Option.some.injEq,Prod.mk.injEq] at h
        obtain⟨_,_,_,_,_,_,rfl,_,_⟩:=h
        exact absurd (hob _ (List.mem_of_getElem? (i:=1) rfl)) (Nat.not_lt_zero _)
      · simp at h
    · intro args ob rs os h hob
      unfold Fm_conj_relation at h
      split at h
      · simp only[Option.bind_eq_some_iff,Option.some.injEq,Prod.mk.injEq] at h
        obtain⟨_,_,_,_,_,_,rfl,_,_⟩:=h
        exact absurd (hob _ (List.mem_of_getElem? (i:=1) rfl)) (Nat.not_lt_zero _)
      · simp at h
  | m+1=>by
    have ih:=okAll_mapG m
    exact⟨okm_conj_mapped m ih.1 ih.2.1 ih.2.2,okm_conj_terms m ih.1 ih.2.1 ih.2.2,okm_conj_relation m ih.1 ih.2.1 ih.2.2⟩
def F_conj_mapped : FnC Un:=fun args=>match args with
  | [x0,x1,x2]=>(dS .term x0).bind fun t=>(dI .i64 x1).bind fun down=>(dF x2).bind fun p=>some ([p=(fvo_S_term_i_i64_to_S_term (po_S_term_i_i64_to_S_term p) (pf_S_term_i_i64_to_S_term p)),mapOK down (po_S_term_i_i64_to_S_term p) (pf_S_term_i_i64_to_S_term p) t.sz],A_conj_mapped (conj_mapped t down (po_S_term_i_i64_to_S_term p) (pf_S_term_i_i64_to_S_term p)),O_conj_mapped (conj_mapped t down (po_S_term_i_i64_to_S_term p) (pf_S_term_i_i64_to_S_term p)))
  | _=>none
theorem ok_conj_mapped : FnOK 173 F_conj_mapped:=by
  intro args ob rs os h hob
  unfold F_conj_mapped at h
  split at h
  · simp only[Option.bind_eq_some_iff,Option.some.injEq,Prod.mk.injEq] at h
    obtain⟨t,e0,down,e1,p,e2,rfl,rfl,rfl⟩:=h
    refine ((okAll_mapG (2*t.ht+1+1)).1) _ [p=(fvo_S_term_i_i64_to_S_term (po_S_term_i_i64_to_S_term p) (pf_S_term_i_i64_to_S_term p)),2*t.ht+1<2*t.ht+1+1,mapOK down (po_S_term_i_i64_to_S_term p) (pf_S_term_i_i64_to_S_term p) t.sz] _ _ (?_ : Fm_conj_mapped (2*t.ht+1+1) _=some _) ?_
    · unfold Fm_conj_mapped
      simp only[e0,e1,e2,Option.bind_some]
    · intro p hp
      simp only[List.mem_cons,List.not_mem_nil,or_false] at hp
      rcases hp with rfl | rfl | rfl
      · exact hob _ (List.mem_of_getElem? (i:=0) rfl)
      · exact Nat.lt_succ_self _
      · exact hob _ (List.mem_of_getElem? (i:=1) rfl)
  · simp at h
def M_moved1 : Mc Un:=mach (tbl []) (tbl []) (tbl []) (tbl []) (tbl [])
def A_moved1 (r:Term) : List (A Un):=[.agg (encC Ty.term r)]
def O_moved1 (_r:Term) : List (Ob Un):=[]
def R_moved1 (r:Term) : RF Un:=(A_moved1 r,O_moved1 r)
def N_moved1 : Nat→NS:=fun l=>(look l []).getD ⟨[],[],[],[],[],false⟩
def moved1_fn (c:Term) (down:Int) (depth:Int) (to:Int→Int) : Option (RF Un):=awf M_moved1 N_moved1 (bodyOf Tryz.f184) (entry Tryz.f184.ntmps 0 [.d (.agg (enc Ty.term c)),.d (.v (.s (.int .i64 down))),.box [.v (.s (.int .i64 depth))],.box [.fn (fv_i_i64_to_i_i64 to)]]) (retF M_moved1 Tryz.f184.results.toList [.d])
theorem moved1_in (c:Term) (down:Int) (depth:Int) (to:Int→Int) : moved1_fn c down depth to=cndO (IntKind.i64.wrap (c.depth - down) == depth) (some (R_moved1 (Term.mk c.op c.v c.depth (to c.at_) c.name c.kids c.sub c.type))) (some (R_moved1 (c))):=by kernel_rfl
def moved1 (c:Term) (down depth:Int) (to:Int→Int) : Term:=if IntKind.i64.wrap (c.depth - down)=depth then setAt c (to c.at_) else c
theorem moved1_spec (c:Term) (down depth:Int) (to:Int→Int) (_hc:WS .term c) (_hd:WI down) (_he:WI depth) : moved1_fn c down depth to=some (R_moved1 (moved1 c down depth to)):=by
  rw[moved1_in]
  unfold moved1 setAt
  simp only[cndO_eq,beq_iff_eq]
  split<;>rfl
theorem moved1_keeps (depth:Int) (to:Int→Int) : KeepsAt (fun c d=>moved1 c d depth to):=by
  intro c d
  show moved1 c d depth to=setAt c (moved1 c d depth to).at_
  unfold moved1
  split
  · simp only[setAt,Term.at__mk]
  · unfold setAt;rw[term_eta]
def L_moved1 : List (List (DC Un))→Option (FV Un):=fun dl=>match dl with
  | [b0,b1]=>(bI .i64 b0).bind fun depth=>(bF b1).bind fun to=>some (fvo_S_term_i_i64_to_S_term (fun c down=>to=fv_i_i64_to_i_i64 (pf_i_i64_to_i_i64 to)) (fun c down=>moved1 c down depth (pf_i_i64_to_i_i64 to)))
  | _=>none
theorem okL_moved1 : ClOK 184 L_moved1:=by
  refine⟨hasBody_of Tryz.func184 (by kernel_rfl) (by kernel_rfl),fun dl φ args ob rs hF hφ hob=>?_⟩
  unfold L_moved1 at hF
  split at hF
  · simp only[Option.bind_eq_some_iff,Option.some.injEq] at hF
    obtain⟨depth,g0,to,g1,hE⟩:=hF
    subst hE
    obtain rfl:=bI_eq g0
    obtain rfl:=bF_eq g1
    unfold fvo_S_term_i_i64_to_S_term at hφ
    split at hφ
    · simp only[Option.bind_eq_some_iff,Option.some.injEq,Prod.mk.injEq] at hφ
      obtain⟨c,e0,down,e1,rfl,rfl⟩:=hφ
      simp only[List.map_cons,List.map_nil,List.cons_append,List.nil_append]
      rw[dS_eq e0]
      rw[dI_eq e1]
      have hfv0:=(hob _ (List.mem_of_getElem? (i:=0) rfl))
      generalize pf_i_i64_to_i_i64 to=pp0 at *
      subst hfv0
      exact Contract.data (fn_contractF (M:=M_moved1) rfl (tbl_ok (l1:=[]) (l2:=[]) (l3:=[]) (l4:=[]) (l5:=[]) trivial trivial trivial trivial trivial) Tryz.func184 (by kernel_rfl) N_moved1 0 [.d] (fun hwf=>(moved1_spec c down depth pp0 (wfArg hwf (a:=.d (.agg (enc Ty.term c))) (List.mem_of_getElem? (i:=0) rfl)) (wfArg hwf (a:=.d (.v (.s (.int .i64 down)))) (List.mem_of_getElem? (i:=1) rfl)) (wfArg hwf (a:=.box [.v (.s (.int .i64 depth))]) (List.mem_of_getElem? (i:=2) rfl)))))
    · simp at hφ
  · simp at hF
def M_move1 : Mc Un:=mach (tbl []) (tbl []) (tbl []) (tbl []) (tbl [])
def A_move1 (r:Int) : List (A Un):=[.c (.s (.int .i64 r))]
def O_move1 (_r:Int) : List (Ob Un):=[]
def R_move1 (r:Int) : RF Un:=(A_move1 r,O_move1 r)
def N_move1 : Nat→NS:=fun l=>(look l []).getD ⟨[],[],[],[],[],false⟩
def move1_fn (i:Int) (at_:List Int) : Option (RF Un):=awf M_move1 N_move1 (bodyOf Tryz.f178) (entry Tryz.f178.ntmps 0 [.d (.v (.s (.int .i64 i))),.box [.v (.dat (U:=Un) Ty.int at_)]]) (retF M_move1 Tryz.f178.results.toList [.d])
theorem move1_in (i:Int) (at_:List Int) : move1_fn i at_=cndO (decide (i≥0)) (cndO (decide (i<(↑at_.length:Int))) (obO (0≤i∧i<(↑at_.length:Int)) (some (R_move1 (at_.getD i.toNat (0:Int))))) (some (R_move1 (i)))) (some (R_move1 (i))):=by kernel_rfl
def move1 (i:Int) (at_:List Int) : Int:=if 0≤i∧i<(at_.length:Int) then at_.getD i.toNat 0 else i
theorem move1_spec (i:Int) (at_:List Int) (_hi:WI i) (_ha:WL .int at_) : move1_fn i at_=some (R_move1 (move1 i at_)):=by
  rw[move1_in]
  unfold move1
  simp only[cndO_eq,decide_eq_true_eq]
  by_cases h1 : i≥0
  · by_cases h2 : i<(at_.length:Int)
    · rw[if_pos h1,if_pos h2,obO_pos ⟨h1,h2⟩,if_pos ⟨h1,h2⟩]
    · rw[if_pos h1,if_neg h2,if_neg (fun h=>h2 h.2)]
  · rw[if_neg h1,if_neg (fun h=>h1 h.1)]
def L_move1 : List (List (DC Un))→Option (FV Un):=fun dl=>match dl with
  | [b0]=>(bL .int b0).bind fun at_=>some (fv_i_i64_to_i_i64 (fun i=>move1 i at_))
  | _=>none
theorem okL_move1 : ClOK 178 L_move1:=by
  refine⟨hasBody_of Tryz.func178 (by kernel_rfl) (by kernel_rfl),fun dl φ args ob rs hF hφ hob=>?_⟩
  unfold L_move1 at hF
  split at hF
  · simp only[Option.bind_eq_some_iff,Option.some.injEq] at hF
    obtain⟨at_,g0,hE⟩:=hF
    subst hE
    obtain rfl:=bL_eq g0
    unfold fv_i_i64_to_i_i64 at hφ
    split at hφ
    · simp only[Option.bind_eq_some_iff,Option.some.injEq,Prod.mk.injEq] at hφ
      obtain⟨i,e0,rfl,rfl⟩:=hφ
      simp only[List.map_cons,List.map_nil,List.cons_append,List.nil_append]
      rw[dI_eq e0]
      exact Contract.data (fn_contractF (M:=M_move1) rfl (tbl_ok (l1:=[]) (l2:=[]) (l3:=[]) (l4:=[]) (l5:=[]) trivial trivial trivial trivial trivial) Tryz.func178 (by kernel_rfl) N_move1 0 [.d] (fun hwf=>(move1_spec i at_ (wfArg hwf (a:=.d (.v (.s (.int .i64 i)))) (List.mem_of_getElem? (i:=0) rfl)) (wfArg hwf (a:=.box [.v (.dat (U:=Un) Ty.int at_)]) (List.mem_of_getElem? (i:=1) rfl)))))
    · simp at hφ
  · simp at hF
def M_conj_Moved : Mc Un:=mach (tbl [(173,F_conj_mapped)]) (tbl []) (tbl [(184,L_moved1)]) (tbl []) (tbl [])
def A_conj_Moved (r:Term) : List (A Un):=[.agg (encC Ty.term r)]
def O_conj_Moved (_r:Term) : List (Ob Un):=[]
def R_conj_Moved (r:Term) : RF Un:=(A_conj_Moved r,O_conj_Moved r)
def N_conj_Moved : Nat→NS:=fun l=>(look l []).getD ⟨[],[],[],[],[],false⟩
def conj_Moved_fn (t:Term) (depth:Int) (to:Int→Int) : Option (RF Un):=awf M_conj_Moved N_conj_Moved (bodyOf Tryz.f177) (entry Tryz.f177.ntmps 0 [.d (.agg (enc Ty.term t)),.d (.v (.s (.int .i64 depth))),.fn (fv_i_i64_to_i_i64 to)]) (retF M_conj_Moved Tryz.f177.results.toList [.d])
theorem conj_Moved_in (t:Term) (depth:Int) (to:Int→Int) : conj_Moved_fn t depth to=obO ((fvo_S_term_i_i64_to_S_term (fun c down=>fv_i_i64_to_i_i64 to=fv_i_i64_to_i_i64 (pf_i_i64_to_i_i64 (fv_i_i64_to_i_i64 to))) fun c down=>moved1 c down depth (pf_i_i64_to_i_i64 (fv_i_i64_to_i_i64 to)))=fvo_S_term_i_i64_to_S_term (po_S_term_i_i64_to_S_term (fvo_S_term_i_i64_to_S_term (fun c down=>fv_i_i64_to_i_i64 to=fv_i_i64_to_i_i64 (pf_i_i64_to_i_i64 (fv_i_i64_to_i_i64 to))) fun c down=>moved1 c down depth (pf_i_i64_to_i_i64 (fv_i_i64_to_i_i64 to)))) (pf_S_term_i_i64_to_S_term (fvo_S_term_i_i64_to_S_term (fun c down=>fv_i_i64_to_i_i64 to=fv_i_i64_to_i_i64 (pf_i_i64_to_i_i64 (fv_i_i64_to_i_i64 to))) fun c down=>moved1 c down depth (pf_i_i64_to_i_i64 (fv_i_i64_to_i_i64 to))))) (obO (mapOK (0:Int) (po_S_term_i_i64_to_S_term (fvo_S_term_i_i64_to_S_term (fun c down=>fv_i_i64_to_i_i64 to=fv_i_i64_to_i_i64 (pf_i_i64_to_i_i64 (fv_i_i64_to_i_i64 to))) fun c down=>moved1 c down depth (pf_i_i64_to_i_i64 (fv_i_i64_to_i_i64 to)))) (pf_S_term_i_i64_to_S_term (fvo_S_term_i_i64_to_S_term (fun c down=>fv_i_i64_to_i_i64 to=fv_i_i64_to_i_i64 (pf_i_i64_to_i_i64 (fv_i_i64_to_i_i64 to))) fun c down=>moved1 c down depth (pf_i_i64_to_i_i64 (fv_i_i64_to_i_i64 to)))) (Term.ids t).sz) (some (R_conj_Moved (conj_mapped (Term.ids t) (0:Int) (po_S_term_i_i64_to_S_term (fvo_S_term_i_i64_to_S_term (fun c down=>fv_i_i64_to_i_i64 to=fv_i_i64_to_i_i64 (pf_i_i64_to_i_i64 (fv_i_i64_to_i_i64 to))) fun c down=>moved1 c down depth (pf_i_i64_to_i_i64 (fv_i_i64_to_i_i64 to)))) (pf_S_term_i_i64_to_S_term (fvo_S_term_i_i64_to_S_term (fun c down=>fv_i_i64_to_i_i64 to=fv_i_i64_to_i_i64 (pf_i_i64_to_i_i64 (fv_i_i64_to_i_i64 to))) fun c down=>moved1 c down depth (pf_i_i64_to_i_i64 (fv_i_i64_to_i_i64 to)))))))):=by kernel_rfl
def conj_Moved (t:Term) (depth:Int) (to:Int→Int) : Term:=mapT (fun c d=>moved1 c d depth to) 0 t
@[simp] theorem conj_Moved_eq (t:Term) (depth:Int) (to:Int→Int) : conj_Moved t depth to=mapT (fun c d=>moved1 c d depth to) 0 t:=by unfold conj_Moved;rfl
theorem conj_Moved_spec (t:Term) (depth:Int) (to:Int→Int) (_ht:WS .term t) (_hd:WI depth) (h:t.sz≤2000000) : conj_Moved_fn t depth to=some (R_conj_Moved (conj_Moved t depth to)):=by
  rw[conj_Moved_in]
  simp only[Term.ids_eq,pofvo_S_term_i_i64_to_S_term,pffvo_S_term_i_i64_to_S_term,pfv_i_i64_to_i_i64]
  rw[obO_pos trivial,obO_pos (show mapOK _ _ _ _ from ⟨⟨fun _ _=>trivial,moved1_keeps depth to⟩,by omega,by omega⟩)]
  unfold conj_Moved conj_mapped
  rfl
def F_conj_Moved : FnC Un:=fun args=>match args with
  | [x0,x1,x2]=>(dS .term x0).bind fun t=>(dI .i64 x1).bind fun depth=>(dF x2).bind fun to=>some ([to=(fv_i_i64_to_i_i64 (pf_i_i64_to_i_i64 to)),t.sz≤2000000],A_conj_Moved (conj_Moved t depth (pf_i_i64_to_i_i64 to)),O_conj_Moved (conj_Moved t depth (pf_i_i64_to_i_i64 to)))
  | _=>none
theorem ok_conj_Moved : FnOK 177 F_conj_Moved:=by
  intro args ob rs os h hob
  unfold F_conj_Moved at h
  split at h
  · simp only[Option.bind_eq_some_iff,Option.some.injEq,Prod.mk.injEq] at h
    obtain⟨t,e0,depth,e1,to,e2,rfl,rfl,rfl⟩:=h
    obtain rfl:=dS_eq e0
    obtain rfl:=dI_eq e1
    obtain rfl:=dF_eq e2
    have hfv0:=hob _ (List.mem_of_getElem? (i:=0) rfl)
    generalize pf_i_i64_to_i_i64 to=pp0 at *
    subst hfv0
    exact⟨fn_contractF (M:=M_conj_Moved) rfl (tbl_ok (l1:=[(173,F_conj_mapped)]) (l2:=[]) (l3:=[(184,L_moved1)]) (l4:=[]) (l5:=[]) ⟨ok_conj_mapped,trivial⟩ trivial ⟨okL_moved1,trivial⟩ trivial trivial) Tryz.func177 (by kernel_rfl) N_conj_Moved 0 [.d] (fun hwf=>(conj_Moved_spec t depth pp0 (wfArg hwf (a:=.d (.agg (enc Ty.term t))) (List.mem_of_getElem? (i:=0) rfl)) (wfArg hwf (a:=.d (.v (.s (.int .i64 depth)))) (List.mem_of_getElem? (i:=1) rfl)) (hob _ (List.mem_of_getElem? (i:=1) rfl)))),hasBody_of Tryz.func177 (by kernel_rfl) (by kernel_rfl)⟩
  · simp at h
def M_conj_Move : Mc Un:=mach (tbl [(177,F_conj_Moved)]) (tbl []) (tbl [(178,L_move1)]) (tbl []) (tbl [])
def A_conj_Move (r:Term) : List (A Un):=[.agg (encC Ty.term r)]
def O_conj_Move (_r:Term) : List (Ob Un):=[]
def R_conj_Move (r:Term) : RF Un:=(A_conj_Move r,O_conj_Move r)
def N_conj_Move : Nat→NS:=fun l=>(look l []).getD ⟨[],[],[],[],[],false⟩
def conj_Move_fn (t:Term) (depth:Int) (at_:List Int) : Option (RF Un):=awf M_conj_Move N_conj_Move (bodyOf Tryz.f160) (entry Tryz.f160.ntmps 0 [.d (.agg (enc Ty.term t)),.d (.v (.s (.int .i64 depth))),.d (.v (.dat (U:=Un) Ty.int at_))]) (retF M_conj_Move Tryz.f160.results.toList [.d])
theorem conj_Move_in (t:Term) (depth:Int) (at_:List Int) : conj_Move_fn t depth at_=obO ((fv_i_i64_to_i_i64 fun i=>move1 i at_)=fv_i_i64_to_i_i64 (pf_i_i64_to_i_i64 (fv_i_i64_to_i_i64 fun i=>move1 i at_))) (obO ((Term.ids t).sz≤(2000000:Nat)) (some (R_conj_Move (conj_Moved (Term.ids t) depth (pf_i_i64_to_i_i64 (fv_i_i64_to_i_i64 fun i=>move1 i at_)))))):=by kernel_rfl
def moveA (t:Term) (depth:Int) (at_:List Int) : Term:=mapT (fun c d=>moved1 c d depth (fun i=>move1 i at_)) 0 t
def conj_Move (t:Term) (depth:Int) (at_:List Int) : Term:=moveA t depth at_
@[simp] theorem conj_Move_eq (t:Term) (depth:Int) (at_:List Int) : conj_Move t depth at_=moveA t depth at_:=by unfold conj_Move;rfl
theorem conj_Move_spec (t:Term) (depth:Int) (at_:List Int) (_ht:WS .term t) (_hd:WI depth) (_ha:WL .int at_) (h:t.sz≤2000000) : conj_Move_fn t depth at_=some (R_conj_Move (conj_Move t depth at_)):=by
  rw[conj_Move_in]
  simp only[Term.ids_eq,pfv_i_i64_to_i_i64,conj_Moved_eq]
  rw[obO_pos trivial,obO_pos h]
  rfl
def F_conj_Move : FnC Un:=fun args=>match args with
  | [x0,x1,x2]=>(dS .term x0).bind fun t=>(dI .i64 x1).bind fun depth=>(dL .int x2).bind fun at_=>some ([t.sz≤2000000],A_conj_Move (conj_Move t depth at_),O_conj_Move (conj_Move t depth at_))
  | _=>none
theorem ok_conj_Move : FnOK 160 F_conj_Move:=by
  intro args ob rs os h hob
  unfold F_conj_Move at h
  split at h
  · simp only[Option.bind_eq_some_iff,Option.some.injEq,Prod.mk.injEq] at h
    obtain⟨t,e0,depth,e1,at_,e2,rfl,rfl,rfl⟩:=h
    obtain rfl:=dS_eq e0
    obtain rfl:=dI_eq e1
    obtain rfl:=dL_eq e2
    exact⟨fn_contractF (M:=M_conj_Move) rfl (tbl_ok (l1:=[(177,F_conj_Moved)]) (l2:=[]) (l3:=[(178,L_move1)]) (l4:=[]) (l5:=[]) ⟨ok_conj_Moved,trivial⟩ trivial ⟨okL_move1,trivial⟩ trivial trivial) Tryz.func160 (by kernel_rfl) N_conj_Move 0 [.d] (fun hwf=>(conj_Move_spec t depth at_ (wfArg hwf (a:=.d (.agg (enc Ty.term t))) (List.mem_of_getElem? (i:=0) rfl)) (wfArg hwf (a:=.d (.v (.s (.int .i64 depth)))) (List.mem_of_getElem? (i:=1) rfl)) (wfArg hwf (a:=.d (.v (.dat (U:=Un) Ty.int at_))) (List.mem_of_getElem? (i:=2) rfl)) (hob _ (List.mem_of_getElem? (i:=0) rfl)))),hasBody_of Tryz.func160 (by kernel_rfl) (by kernel_rfl)⟩
  · simp at h
end
end Go.Proofs.YtolbngdhgcbmgaaGreat.B
