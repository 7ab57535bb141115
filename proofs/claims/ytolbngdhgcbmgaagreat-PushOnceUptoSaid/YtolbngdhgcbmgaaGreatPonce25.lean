/- Part 25 of the proof: Spush3d Lgrow Spush3e Lscalar Lrules Spush4. -/
import Derived.Shelf.Spec.SlicesGrow
import Derived.Test.YtolbngdhgcbmgaaGreatPonce24
namespace Go.Proofs.YtolbngdhgcbmgaaGreat.B
open Go Go.RowKit
set_option maxRecDepth 100000
noncomputable section
attribute [local irreducible] awp ctxK itersK iterK retQ retGQ awf ctxF loopF
def M_group1 : Mc Un:=mach (tbl [(126,F_conj_Within),(132,F_push_plain)]) (tbl []) (tbl []) (tbl []) (tbl [])
def A_group1 (r:Bool) : List (A Un):=[.c (.s (.bool r))]
def O_group1 (_r:Bool) : List (Ob Un):=[]
def R_group1 (r:Bool) : RF Un:=(A_group1 r,O_group1 r)
def N_group1 : Nat→NS:=fun l=>(look l []).getD ⟨[],[],[],[],[],true⟩
def group1_fn (p:Term) (c0:Int) (c1:Rel) : Option (RF Un):=awf M_group1 N_group1 (bodyOf Tryz.f134) (entry Tryz.f134.ntmps 0 [.d (.agg (enc Ty.term p)),.box [.v (.s (.int .i64 c0))],.box ((enc Ty.rel c1).map .v)]) (retF M_group1 Tryz.f134.results.toList [.d])
theorem group1_in (p:Term) (c0:Int) (c1:Rel) : group1_fn p c0 c1=obO ((Term.ids p).sz≤(2000000:Nat)) (cndO (conj_Within (Term.ids p) (0:Int) c0) (obO ((Term.ids p).sz≤(2000000:Nat)) (some (R_group1 (push_plain (Term.ids p) c1.terms)))) (some (R_group1 (false)))):=by kernel_rfl
def group1 (p:Term) (n:Int) (q:Rel) : Bool:=withinA p 0 n && plainP p q.terms
theorem group1_spec (p:Term) (n:Int) (q:Rel) (_hp:WS .term p) (_hn:WI n) (_hq:WS .rel q) (h:p.sz≤2000000) : group1_fn p n q=some (R_group1 (group1 p n q)):=by
  rw[group1_in,Term.ids_eq,obO_pos h,conj_Within_eq,obO_pos h,cndO_eq]
  unfold group1
  cases withinA p 0 n
  · rw[if_neg (by decide)];rfl
  · rw[if_pos rfl];rfl
def L_group1 : List (List (DC Un))→Option (FV Un):=fun dl=>match dl with
  | [b0,b1]=>(bI .i64 b0).bind fun c0=>(bS .rel b1).bind fun c1=>some (fvo_S_term_to_b (fun p=>p.sz≤2000000) (fun p=>group1 p c0 c1))
  | _=>none
theorem okL_group1 : ClOK 134 L_group1:=by
  refine⟨hasBody_of Tryz.func134 (by kernel_rfl) (by kernel_rfl),fun dl φ args ob rs hF hφ hob=>?_⟩
  unfold L_group1 at hF
  split at hF
  · simp only[Option.bind_eq_some_iff,Option.some.injEq] at hF
    obtain⟨c0,g0,c1,g1,hE⟩:=hF
    subst hE
    obtain rfl:=bI_eq g0
    obtain rfl:=bS_eq g1
    unfold fvo_S_term_to_b at hφ
    split at hφ
    · simp only[Option.bind_eq_some_iff,Option.some.injEq,Prod.mk.injEq] at hφ
      obtain⟨p,e0,rfl,rfl⟩:=hφ
      simp only[List.map_cons,List.map_nil,List.cons_append,List.nil_append]
      rw[dS_eq e0]
      exact Contract.data (fn_contractF (M:=M_group1) rfl (tbl_ok (l1:=[(126,F_conj_Within),(132,F_push_plain)]) (l2:=[]) (l3:=[]) (l4:=[]) (l5:=[]) ⟨ok_conj_Within,ok_push_plain,trivial⟩ trivial trivial trivial trivial) Tryz.func134 (by kernel_rfl) N_group1 0 [.d] (fun hwf=>(group1_spec p c0 c1 (wfArg hwf (a:=.d (.agg (enc Ty.term p))) (List.mem_of_getElem? (i:=0) rfl)) (wfArg hwf (a:=.box [.v (.s (.int .i64 c0))]) (List.mem_of_getElem? (i:=1) rfl)) (wfArg hwf (a:=.box ((enc Ty.rel c1).map .v)) (List.mem_of_getElem? (i:=2) rfl)) (hob _ (List.mem_of_getElem? (i:=0) rfl)))))
    · simp at hφ
  · simp at hF
def M_push_group : Mc Un:=mach (tbl [(123,F_conj_Split),(124,F_push_parted),(133,F_push_put),(121,F_push_filter),(131,F_push_with)]) (tbl []) (tbl [(134,L_group1)]) (tbl []) (tbl [])
def A_push_group (r:Rel×Bool) : List (A Un):=[.agg (encC Ty.rel r.1),.c (.s (.bool r.2))]
def O_push_group (_r:Rel×Bool) : List (Ob Un):=[]
def R_push_group (r:Rel×Bool) : RF Un:=(A_push_group r,O_push_group r)
def N_push_group : Nat→NS:=fun l=>(look l [(6,{ ts:=bl 55 1610613144,bs:=bl 55 24,nm:=[(.sl 7,220),(.sl 8,221)],cs:=true })]).getD ⟨[],[],[],[],[],true⟩
def push_group_c1 (t:Term):=conj_Split (Term.mk t.op t.v t.depth t.at_ t.name t.kids t.sub t.type)
def push_group_c2 (q:Rel) (v0:Int) (v1:List Term):=push_put (Term.mk (Term.op (v1.getD v0.toNat zeroTerm)) (Term.v (v1.getD v0.toNat zeroTerm)) (Term.depth (v1.getD v0.toNat zeroTerm)) (Term.at_ (v1.getD v0.toNat zeroTerm)) (Term.name (v1.getD v0.toNat zeroTerm)) (Term.kids (v1.getD v0.toNat zeroTerm)) (Term.sub (v1.getD v0.toNat zeroTerm)) (Term.type (v1.getD v0.toNat zeroTerm))) q.terms
def push_group_c3 (q:Rel) (v1:List Term):=push_filter (Rel.mk (Rel.op (q.kids.getD 0 zeroRel)) (Rel.table (q.kids.getD 0 zeroRel)) (Rel.cols (q.kids.getD 0 zeroRel)) (Rel.kids (q.kids.getD 0 zeroRel)) (Rel.terms (q.kids.getD 0 zeroRel)) (Rel.aggs (q.kids.getD 0 zeroRel)) (Rel.keys (q.kids.getD 0 zeroRel)) (Rel.limit (q.kids.getD 0 zeroRel)) (Rel.skip (q.kids.getD 0 zeroRel)) (Rel.all (q.kids.getD 0 zeroRel)) (Rel.rows (q.kids.getD 0 zeroRel))) v1
def push_group_c4 (t:Term) (q:Rel):=push_parted (push_group_c1 t) (po_S_term_to_b (fvo_S_term_to_b (fun p=>p.sz≤(2000000:Nat)) fun p=>group1 p (↑q.terms.length:Int) (Rel.mk q.op q.table q.cols q.kids q.terms q.aggs q.keys q.limit q.skip q.all q.rows))) (pf_S_term_to_b (fvo_S_term_to_b (fun p=>p.sz≤(2000000:Nat)) fun p=>group1 p (↑q.terms.length:Int) (Rel.mk q.op q.table q.cols q.kids q.terms q.aggs q.keys q.limit q.skip q.all q.rows)))
def push_group_c5 (q:Rel) (v1:List Term):=push_with (Rel.mk q.op q.table q.cols q.kids q.terms q.aggs q.keys q.limit q.skip q.all q.rows) [Rel.mk (push_group_c3 q v1).op (push_group_c3 q v1).table (push_group_c3 q v1).cols (push_group_c3 q v1).kids (push_group_c3 q v1).terms (push_group_c3 q v1).aggs (push_group_c3 q v1).keys (push_group_c3 q v1).limit (push_group_c3 q v1).skip (push_group_c3 q v1).all (push_group_c3 q v1).rows]
def push_group_s6 (t:Term) (q:Rel) (v0:Int) (v1:List Term) : S Un:=(st 55 55 222 0 [(3,ax 3),(4,ax 4),(7,ao 220),(8,ao 221),(29,ai (↑(push_group_c4 t q).fst.length:Int)),(30,ai v0)] [(3,some (true,encC Ty.rel (q))),(4,some (false,[C.s (Value.int IntKind.i64 (0:Int)),C.s (Value.string (ByteArray.mk #[])),C.sl Ty.col [] true,C.sl Ty.rel [] true,C.sl Ty.term [] true,C.sl Ty.agg [] true,C.sl Ty.by_ [] true,C.s (Value.int IntKind.i64 (0:Int)),C.s (Value.int IntKind.i64 (0:Int)),C.s (Value.bool false),C.sl Ty.row [] true]))] [(220,some ⟨(0:Nat),Ty.term,v1,some (0:Nat),true⟩),(221,some ⟨(0:Nat),Ty.term,(push_group_c4 t q).snd,some (0:Nat),true⟩)])
def push_group_B6 : Code:=sub (bodyOf Tryz.f88) [1,1,1,1,0,1,2,2]
def push_group_L6 : S Un→Option (EX Un):=loopF (N_push_group 6) (fun s Q=>awf M_push_group N_push_group push_group_B6 s Q)
def push_group_C6 : Exit→S Un→Option (RF Un):=ctxF M_push_group N_push_group (bodyOf Tryz.f88) [1,1,1,1,0,1,2] (retF M_push_group Tryz.f88.results.toList [.d,.d])
def push_group_fn (t:Term) (q:Rel) : Option (RF Un):=awf M_push_group N_push_group (bodyOf Tryz.f88) (entry Tryz.f88.ntmps 2 [.d (.agg (enc Ty.term t)),.d (.agg (enc Ty.rel q))]) (retF M_push_group Tryz.f88.results.toList [.d,.d])
theorem push_group_in (t:Term) (q:Rel) : push_group_fn t q=obO ((Term.ids t).sz≤(2000000:Nat)) (obO ((fvo_S_term_to_b (fun p=>p.sz≤(2000000:Nat)) fun p=>group1 p (↑q.terms.length:Int) (Rel.ids q))=fvo_S_term_to_b (po_S_term_to_b (fvo_S_term_to_b (fun p=>p.sz≤(2000000:Nat)) fun p=>group1 p (↑q.terms.length:Int) (Rel.ids q))) (pf_S_term_to_b (fvo_S_term_to_b (fun p=>p.sz≤(2000000:Nat)) fun p=>group1 p (↑q.terms.length:Int) (Rel.ids q)))) (obO (allOT (po_S_term_to_b (fvo_S_term_to_b (fun p=>p.sz≤(2000000:Nat)) fun p=>group1 p (↑q.terms.length:Int) (Rel.ids q))) (push_group_c1 t)) (cndO ((↑q.terms.length:Int) == (0:Int)) (some (R_push_group (zeroRel,false))) (cndO ((↑(push_group_c4 t q).fst.length:Int) == (0:Int)) (some (R_push_group (zeroRel,false))) ((push_group_L6 (push_group_s6 t q (0:Int) ((push_group_c4 t q).fst))).bind (thenX push_group_C6)))))):=by kernel_rfl
theorem push_group_l6 (t:Term) (q:Rel) (v0:Int) (v1:List Term) : push_group_L6 (push_group_s6 t q v0 v1)=cndO (decide (v0<(↑(push_group_c4 t q).fst.length:Int))) (obO (0≤v0∧v0<(↑v1.length:Int)) (obO (putOK (Term.ids (v1.getD v0.toNat zeroTerm)) q.terms) (obO (0≤v0∧v0<(↑v1.length:Int)) (obO ((0:Nat)≤v0.toNat) (push_group_L6 (push_group_s6 t q (IntKind.i64.wrap (v0+1)) (v1.set v0.toNat (Term.ids (push_group_c2 q v0 v1))))))))) (some (.exit 0,(push_group_s6 t q v0 v1))):=(loopF_eq (N_push_group 6) push_group_B6 _).trans (by kernel_rfl)
theorem push_group_a6_x0 (t:Term) (q:Rel) (v0:Int) (v1:List Term) : push_group_C6 (.exit 0) (push_group_s6 t q v0 v1)=obO ((0:Int)≤(0:Int)∧(0:Int)<(↑q.kids.length:Int)) (some (R_push_group (push_filter (Rel.ids (push_group_c5 q v1)) (push_group_c4 t q).snd,true))):=by kernel_rfl
def grpSo (q:Rel) (p:Term) : Bool:=withinA p 0 (q.terms.length:Int) && plainP p q.terms
def push_group (t:Term) (q:Rel) : Rel×Bool :=
  if q.terms.length=0∨((splitT t).filter (grpSo q)).length=0 then (zeroRel,false)
  else (pushFilter (pushWith q [pushFilter (q.kids.getD 0 zeroRel) (((splitT t).filter (grpSo q)).map (putT q.terms))]) ((splitT t).filter fun p=>!grpSo q p),true)
theorem push_group_spec (t:Term) (q:Rel) (_ht:WS .term t) (_hq:WS .rel q) (h1:t.sz≤2000000) (h2:q.kids.length=1) : push_group_fn t q=some (R_push_group (push_group t q)):=by
  have e1:push_group_c1 t=splitT t:=by unfold push_group_c1;rw[term_eta,conj_Split_eq]
  have e4:push_group_c4 t q=((splitT t).filter (grpSo q),(splitT t).filter fun p=>!grpSo q p):=by
    unfold push_group_c4 push_parted
    rw[e1]
    simp only[pffvo_S_term_to_b,rel_eta]
    rfl
  have hall:=split_szs h1
  obtain⟨ll,hll⟩ : ∃ ll,ll=(splitT t).filter (grpSo q):=⟨_,rfl⟩
  rw[← hll] at e4
  have hlen:ll.length≤2000000:=by rw[hll];exact Nat.le_trans (List.length_filter_le _ _) hall.2
  have hmem:∀ p∈ll,p.sz≤2000000∧plainP p q.terms=true:=fun p hp=>by
    rw[hll] at hp
    obtain⟨m1,m2⟩:=List.mem_filter.1 hp
    unfold grpSo at m2
    rw[Bool.and_eq_true] at m2
    exact⟨hall.1 p m1,m2.2⟩
  have lp:=loop_map (L:=push_group_L6) (st:=fun xs i=>push_group_s6 t q i xs) (l:=ll) (d:=zeroTerm) (e:=.exit 0) (putT q.terms) (by omega)
    (fun xs i x hi hxl hx hm=>by
      have e2:push_group_c2 q (i:Int) xs=putT q.terms x:=by unfold push_group_c2;rw[Int.toNat_natCast,hx,term_eta];rfl
      rw[push_group_l6]
      simp only[e4,cndO_eq,hi,decide_true,if_true,e2,Int.toNat_natCast,hx,Term.ids_eq]
      rw[obO_pos (by omega),obO_pos (plain_put (hmem x hm).2 (hmem x hm).1),obO_pos (by omega),obO_pos (by omega)])
    (fun xs hxl=>by rw[push_group_l6];simp only[e4,cndO_eq];simp)
  rw[push_group_in]
  simp only[Term.ids_eq,pofvo_S_term_to_b,pffvo_S_term_to_b,e1]
  rw[obO_pos h1,obO_pos trivial,obO_pos hall,e4]
  unfold push_group
  rw[← hll]
  simp only[cndO_eq,beq_iff_eq]
  by_cases h0 : q.terms.length=0
  · rw[if_pos (by omega),if_pos (.inl h0)]
  rw[if_neg (by omega)]
  by_cases h3 : ll.length=0
  · rw[if_pos (by omega),if_pos (.inr h3)]
  rw[if_neg (by omega),if_neg (fun e=>e.elim h0 h3)]
  refine (loop_end lp).trans ?_
  have e3:∀ v,push_group_c3 q v=pushFilter (q.kids.getD 0 zeroRel) v:=fun v=>by unfold push_group_c3;rw[rel_eta];rfl
  have e5:∀ v,push_group_c5 q v=pushWith q [pushFilter (q.kids.getD 0 zeroRel) v]:=fun v=>by unfold push_group_c5;rw[rel_eta,rel_eta,e3];rfl
  rw[push_group_a6_x0,obO_pos (by omega),Rel.ids_eq,e5,e4]
  rfl
def F_push_group : FnC Un:=fun args=>match args with
  | [x0,x1]=>(dS .term x0).bind fun t=>(dS .rel x1).bind fun q=>some ([t.sz≤2000000,q.kids.length=1],A_push_group (push_group t q),O_push_group (push_group t q))
  | _=>none
theorem ok_push_group : FnOK 88 F_push_group:=by
  intro args ob rs os h hob
  unfold F_push_group at h
  split at h
  · simp only[Option.bind_eq_some_iff,Option.some.injEq,Prod.mk.injEq] at h
    obtain⟨t,e0,q,e1,rfl,rfl,rfl⟩:=h
    obtain rfl:=dS_eq e0
    obtain rfl:=dS_eq e1
    exact⟨fn_contractF (M:=M_push_group) rfl (tbl_ok (l1:=[(123,F_conj_Split),(124,F_push_parted),(133,F_push_put),(121,F_push_filter),(131,F_push_with)]) (l2:=[]) (l3:=[(134,L_group1)]) (l4:=[]) (l5:=[]) ⟨ok_conj_Split,ok_push_parted,ok_push_put,ok_push_filter,ok_push_with,trivial⟩ trivial ⟨okL_group1,trivial⟩ trivial trivial) Tryz.func88 (by kernel_rfl) N_push_group 2 [.d,.d] (fun hwf=>(push_group_spec t q (wfArg hwf (a:=.d (.agg (enc Ty.term t))) (List.mem_of_getElem? (i:=0) rfl)) (wfArg hwf (a:=.d (.agg (enc Ty.rel q))) (List.mem_of_getElem? (i:=1) rfl)) (hob _ (List.mem_of_getElem? (i:=0) rfl)) (hob _ (List.mem_of_getElem? (i:=1) rfl)))),hasBody_of Tryz.func88 (by kernel_rfl) (by kernel_rfl)⟩
  · simp at h
end
end Go.Proofs.YtolbngdhgcbmgaaGreat.B
namespace Go.Proofs.YtolbngdhgcbmgaaGreat.B
open Go Go.RowKit Go.Shelf
set_option maxRecDepth 1000000
set_option linter.unusedVariables false
theorem retG_of_ret {g:G} {w w':World} {v:Value} {rs:List (A Un)} {os:List (Ob Un)} (h:Ret Tryz.prog En g.St w w' v rs os) (hlb:∀ k,¬ g.lb k) : RetG Tryz.prog En g w w' v rs [] os:=by
  obtain⟨hx,g',hl,ho,hw,hr,hobs⟩:=h
  refine⟨g',⟨hx.os,hx.tape,hx.output,hx.le,fun k hk _=>hx.block hk,fun b o hb _=>hx.cell (p:=⟨b,o,none⟩) hb,fun b o hb _=>hx.stuck (p:=⟨b,o,none⟩) hb⟩,⟨fun k fz cells hk=>by simp at hk,fun k hk=>absurd hk (hl k),fun k o hk=>hobs k o hk,hw⟩,fun k hk=>absurd hk (hlb k),fun b o x hb hx=>.inr (ho b o x hb hx),hr⟩
theorem ret_empty {St:Nat→Nat→Prop} {w:World} {τ:Ty} (a:Option Addr) (hbd:∀ b o,St b o→b<w.heap.size) : Ret Tryz.prog En St w w (.slice a 0 0) [.c (.ob 0 0)] [⟨0,τ,[],some 0,true⟩]:=by
  classical
  refine⟨Ext.refl _,⟨fun _=>0,fun _=>False,fun b o=>if St b o then some .st else none,fun _=>(a,0)⟩,fun _ h=>h,?_,?_,?_,?_⟩
  · intro b o x _ hx
    have hx':(if St b o then some Own.st else none)=some x:=hx
    split at hx'
    · rename_i hs;simp at hx';exact⟨hx'.symm,hs⟩
    · simp at hx'
  · intro b o x hx
    have hx':(if St b o then some Own.st else none)=some x:=hx
    split at hx'
    · rename_i hs;exact hbd b o hs
    · simp at hx'
  · exact⟨rfl,_,rfl,Nat.le_refl _,fun _=>rfl⟩
  · intro k o ho
    cases k with
    | zero=>simp at ho;subst ho;exact⟨⟨⟨⟨Nat.le_refl _,by simp⟩,fun f hf=>by simp at hf;subst hf;exact Nat.le_refl _⟩,fun h=>absurd h (Nat.lt_irrefl 0)⟩,rfl⟩
    | succ k=>simp at ho
def G_grow (τ:Ty) : List Bool×FnG Un:=([true,false],fun args bxs os=>match args,bxs,os with
  | [.c (.sl τ' [] true),.c (.s (.int .i64 n))],[],[]=>match Un.deq τ' τ with
    | .isTrue _=>some ([0≤n∧n≤1000000000],[.c (.ob 0 0)],[],[⟨0,τ,[],some 0,true⟩])
    | .isFalse _=>none
  | _,_,_=>none)
theorem okG_grow {ρ:Ren} (L:Lays8.n4 Tryz.prog ρ) {τ:Ty} (hti:isSlOf (ρ.t 22) (ρ.t 25) τ=true) (hB:HasBody Tryz.prog (ρ.f 4)) : GnOK (ρ.f 4) (G_grow τ):=by
  obtain⟨bytes,i0,z,hb,h1',h1,h0,h2,h3,h4,h5,h6⟩:=slOf hti
  intro args bxs obs ob rs bxs' obs' h hob
  unfold G_grow at h
  dsimp only at h
  split at h
  · rename_i τ' n
    split at h
    · rename_i he _
      subst he
      simp only[Option.some.injEq,Prod.mk.injEq] at h
      obtain⟨rfl,rfl,rfl,rfl⟩:=h
      have hn:=hob _ (List.mem_singleton.2 rfl)
      refine⟨?_,hB⟩
      intro w g vals hp hvals
      match vals,hvals with
      | [v0,v1],⟨a0,a1,_⟩ =>
        obtain⟨hV,hfull⟩:=a0
        obtain⟨a,k,rfl⟩:=hfull rfl
        obtain⟨hv1,_⟩:=a1
        subst hv1
        have hk:k=0:=by
          rcases hV.inv with ⟨_,a',c',e⟩ | ⟨b,o,cap,cv,e,_⟩
          · simp only[Value.slice.injEq] at e;exact e.2.1
          · simp only[Value.slice.injEq] at e;exact e.2.1
        subst hk
        have hlb:∀ k,¬ g.lb k:=fun k hk=>by have:=hp.lbs k hk;simp at this
        have hbd:∀ b o,g.St b o→b<w.heap.size:=fun b o hs=>hp.own b o _ hs
        obtain⟨m,rfl⟩ : ∃ m : Nat,n=(m:Int):=⟨n.toNat,by omega⟩
        by_cases hz : m=0
        · subst hz
          refine (Any8.slices_Grow_room L a 0 0 0 w (Nat.le_refl _) (by omega) (by omega) (Nat.le_refl _)).mono ?_
          rintro e w' ⟨rfl,rfl⟩
          exact⟨_,rfl,retG_of_ret (ret_empty a hbd) hlb⟩
        · refine (Any8.slices_Grow_grow L i0 z h2 h5 (by omega) a 0 0 m [] w (Nat.le_refl _) (by omega) (by
            have : (0+m)*i0.bytes≤1000000000*100000:=Nat.mul_le_mul (by omega) (by omega)
            omega) (by omega) (by simp) (fun _=>rfl) (fun _ _ j v hj=>by simp at hj)).mono ?_
          rintro e w' ⟨rfl,rfl⟩
          obtain⟨cur,hcur⟩ : ∃ cur : Array Value,cur=([] : List Value).toArray++Builtin.zeroCells z.cells (0+m - 0)++Builtin.zeroCells z.cells (grownCap w (0+m) 0 (ρ.t 25) - (0+m)):=⟨_,rfl⟩
          rw[← hcur]
          have hext:Ext w (w.drew.alloc (.cells cur (ρ.t 25))):=(Ext.refl w).drew.alloc _
          have hge:=grownCap_ge w (0+m) 0 (ρ.t 25)
          have hsz:cur.size=grownCap w (0+m) 0 (ρ.t 25)*sz τ':=by
            rw[hcur]
            simp only[Array.size_append,List.size_toArray,List.length_nil,size_zeroCells,h6]
            rw[Nat.zero_add,← Nat.add_mul]
            congr 1
            omega
          have hhp:(w.drew.alloc (.cells cur (ρ.t 25))).heap[w.heap.size]? = some (.cells cur (ρ.t 25) (0,0)):=by
            have : ∀ (h:Array Obj) (o:Obj),(h.push o)[h.size]? = some o:=fun h o=>by simp
            exact this w.heap _
          exact⟨_,rfl,retG_of_ret (ret_own (e:=ρ.t 25) (news:=[]) hext hbd (by simp) ⟨by simp,.inr ⟨w.heap.size,grownCap w (0+m) 0 (ρ.t 25),cur,rfl,Nat.le_refl _,hhp,Nat.zero_le _,grownCap_le_maxLen w (0+m) 0 _ (by unfold maxLen;omega),hsz,by simp⟩⟩ (fun i hi=>absurd hi (Nat.not_lt_zero _))) hlb⟩
    · simp at h
  · simp at h
def ren_grow_term : Ren:=⟨fun | 4=>156 | n=>n,fun | 0=>0 | 3=>3 | 4=>4 | 9=>9 | 20=>20 | 22=>24 | 25=>46 | n=>n,fun | n=>n⟩
theorem lays_grow_term : Lays8.n4 Tryz.prog ren_grow_term:={
  mixed:=by kernel_rfl
  f4:=⟨Tryz.f156.name,by kernel_rfl,Tryz.func156.trans (congrArg some (by kernel_rfl))⟩
  t0:=Tryz.underlying0
  a0:=Tryz.isAgg0
  z0:=Tryz.sizeOf0
  v0:=Tryz.zeroValue0
  t3:=Tryz.underlying3
  a3:=Tryz.isAgg3
  z3:=Tryz.sizeOf3
  v3:=Tryz.zeroValue3
  t4:=Tryz.underlying4
  a4:=Tryz.isAgg4
  z4:=Tryz.sizeOf4
  v4:=Tryz.zeroValue4
  t9:=Tryz.underlying9
  a9:=Tryz.isAgg9
  z9:=Tryz.sizeOf9
  v9:=Tryz.zeroValue9
  t20:=Tryz.underlying20
  a20:=Tryz.isAgg20
  z20:=Tryz.sizeOf20
  v20:=Tryz.zeroValue20
  t22:=Tryz.underlying24
  a22:=Tryz.isAgg24
  z22:=Tryz.sizeOf24
  v22:=Tryz.zeroValue24 }
def G_grow_term : List Bool×FnG Un:=G_grow .term
theorem okG_grow_term : GnOK 156 G_grow_term:=okG_grow lays_grow_term (by kernel_rfl) (hasBody_of Tryz.func156 (by kernel_rfl) (by kernel_rfl))
end Go.Proofs.YtolbngdhgcbmgaaGreat.B
namespace Go.Proofs.YtolbngdhgcbmgaaGreat.B
open Go Go.RowKit
set_option maxRecDepth 100000
noncomputable section
attribute [local irreducible] awp ctxK itersK iterK retQ retGQ awf ctxF loopF
def M_concat_term : Mc Un:=mach (tbl []) (tbl []) (tbl []) (tbl [(156,G_grow_term)]) (tbl [])
def A_concat_term (r:List Term) : List (A Un):=[.c (.ob 0 0)]
def O_concat_term (r:List Term) : List (Ob Un):=[⟨0,Ty.term,r,none,true⟩]
def R_concat_term (r:List Term) : RF Un:=(A_concat_term r,O_concat_term r)
def N_concat_term : Nat→NS:=fun l=>(look l [(3,{ ts:=bl 36 3593,bs:=bl 36 0,nm:=[],cs:=true }),(11,{ ts:=bl 36 234881088,bs:=bl 36 0,nm:=[(.sl 6,144)],cs:=true })]).getD ⟨[],[],[],[],[],true⟩
def concat_term_s3 (ls:List (List Term)) (v0:Int) (v1:Int) : S Un:=(st 36 36 145 0 [(0,al .trms ls),(3,ai v0),(9,al .trms ls),(10,ai (↑ls.length:Int)),(11,ai v1)] [] [])
def concat_term_s11 (ls:List (List Term)) (v2:Int) (v3:List Term) : S Un:=(st 36 36 145 0 [(6,ao 144),(25,al .trms ls),(26,ai (↑ls.length:Int)),(27,ai v2)] [] [(144,some ⟨(0:Nat),Ty.term,v3,some (0:Nat),true⟩)])
def concat_term_B3 : Code:=sub (bodyOf Tryz.f122) [1,1,0,1,2,2]
def concat_term_L3 : S Un→Option (EX Un):=loopF (N_concat_term 3) (fun s Q=>awf M_concat_term N_concat_term concat_term_B3 s Q)
def concat_term_B11 : Code:=sub (bodyOf Tryz.f122) [1,1,1,1,0,1,2,2]
def concat_term_L11 : S Un→Option (EX Un):=loopF (N_concat_term 11) (fun s Q=>awf M_concat_term N_concat_term concat_term_B11 s Q)
def concat_term_C3 : Exit→S Un→Option (RF Un):=ctxF M_concat_term N_concat_term (bodyOf Tryz.f122) [1,1,0,1,2] (retF M_concat_term Tryz.f122.results.toList [.o])
def concat_term_C11 : Exit→S Un→Option (RF Un):=ctxF M_concat_term N_concat_term (bodyOf Tryz.f122) [1,1,1,1,0,1,2] (retF M_concat_term Tryz.f122.results.toList [.o])
def concat_term_fn (ls:List (List Term)) : Option (RF Un):=awf M_concat_term N_concat_term (bodyOf Tryz.f122) (entry Tryz.f122.ntmps 1 [.d (.v (.dat (U:=Un) Ty.trms ls))]) (retF M_concat_term Tryz.f122.results.toList [.o])
theorem concat_term_in (ls:List (List Term)) : concat_term_fn ls=(concat_term_L3 (concat_term_s3 ls (0:Int) (0:Int))).bind (thenX concat_term_C3):=by kernel_rfl
theorem concat_term_l3 (ls:List (List Term)) (v0:Int) (v1:Int) : concat_term_L3 (concat_term_s3 ls v0 v1)=cndO (decide (v1<(↑ls.length:Int))) (obO (0≤v1∧v1<(↑ls.length:Int)) (cndO (decide (IntKind.i64.wrap (v0+(↑(List.length (ls.getD v1.toNat [])):Int))<0)) (none) (concat_term_L3 (concat_term_s3 ls (IntKind.i64.wrap (v0+(↑(List.length (ls.getD v1.toNat [])):Int))) (IntKind.i64.wrap (v1+1)))))) (some (.exit 0,(concat_term_s3 ls v0 v1))):=(loopF_eq (N_concat_term 3) concat_term_B3 _).trans (by kernel_rfl)
theorem concat_term_a3_x0 (ls:List (List Term)) (v0:Int) (v1:Int) : concat_term_C3 (.exit 0) (concat_term_s3 ls v0 v1)=obO (0≤v0∧v0≤1000000000) ((concat_term_L11 (concat_term_s11 ls (0:Int) ([]))).bind (thenX concat_term_C11)):=by kernel_rfl
theorem concat_term_l11 (ls:List (List Term)) (v2:Int) (v3:List Term) : concat_term_L11 (concat_term_s11 ls v2 v3)=cndO (decide (v2<(↑ls.length:Int))) (obO (0≤v2∧v2<(↑ls.length:Int)) (obO ((v3.length+List.length (ls.getD v2.toNat []))*(128:Nat)≤roomB) (concat_term_L11 (concat_term_s11 ls (IntKind.i64.wrap (v2+1)) (v3++ls.getD v2.toNat []))))) (some (.exit 2,(concat_term_s11 ls v2 v3))):=(loopF_eq (N_concat_term 11) concat_term_B11 _).trans (by kernel_rfl)
theorem concat_term_a11_x2 (ls:List (List Term)) (v2:Int) (v3:List Term) : concat_term_C11 (.exit 2) (concat_term_s11 ls v2 v3)=some (R_concat_term (v3)):=by kernel_rfl
def concat_term (ls:List (List Term)) : List Term:=ls.flatten
theorem foldl_flat {α:Type} : ∀ (ls:List (List α)) (s:List α),ls.foldl (fun s x=>s++x) s=s++ls.flatten
  | [],s=>by simp
  | x::ls,s=>by rw[List.foldl_cons,foldl_flat ls,List.flatten_cons,List.append_assoc]
theorem concat_term_spec (ls:List (List Term)) (hl:WL .trms ls) (h:ls.flatten.length≤1000000000) : concat_term_fn ls=some (R_concat_term (concat_term ls)):=by
  obtain⟨n,hn⟩ : ∃ n,n=ls.flatten.length:=⟨_,rfl⟩
  rw[← hn] at h
  obtain⟨lp,h0⟩:=loop_fold (e:=.exit 0) (L:=concat_term_L3) (st:=fun (s:Int) i=>concat_term_s3 ls s i) (l:=ls) (d:=[]) (g:=fun s x=>s+(x.length:Int)) (fun i s=>0≤s∧s+((ls.drop i).flatten.length:Int)=(n:Int)) hl.len
    (fun s i x hi hx hI=>by
      have hd:=drop_getD (d:=[]) (l:=ls) (i:=i) (by omega)
      rw[hx] at hd
      obtain⟨i1,i2⟩ : 0≤s∧s+((ls.drop i).flatten.length:Int)=(n:Int):=hI
      rw[hd,List.flatten_cons,List.length_append] at i2
      refine⟨⟨by show 0≤s+(x.length:Int);omega,by show s+(x.length:Int)+((ls.drop (i+1)).flatten.length:Int)=(n:Int);omega⟩,?_⟩
      rw[concat_term_l3]
      simp only[cndO_eq,hi,decide_true,if_true,and_true,Int.toNat_natCast,hx]
      rw[wrap_id (by omega:(-9223372036854775808:Int)≤s+(x.length:Int)∧s+(x.length:Int)≤9223372036854775807),obO_pos (by omega),if_neg (by simp;omega)])
    (fun s _=>by rw[concat_term_l3];simp [cndO_eq]) 0 ⟨Int.le_refl _,by simp [hn]⟩
  obtain⟨z,hz⟩ : ∃ z,z=ls.foldl (fun (s:Int) x=>s+(x.length:Int)) 0:=⟨_,rfl⟩
  rw[← hz] at lp h0
  have h0':0≤z∧z+((ls.drop ls.length).flatten.length:Int)=(n:Int):=h0
  rw[List.drop_length,List.flatten_nil,List.length_nil] at h0'
  obtain⟨lq,_⟩:=loop_fold (e:=.exit 2) (L:=concat_term_L11) (st:=fun (s:List Term) i=>concat_term_s11 ls i s) (l:=ls) (d:=[]) (g:=fun s x=>s++x) (fun i s=>s.length+(ls.drop i).flatten.length=n) hl.len
    (fun s i x hi hx hI=>by
      have hd:=drop_getD (d:=[]) (l:=ls) (i:=i) (by omega)
      rw[hx] at hd
      have i2:s.length+(ls.drop i).flatten.length=n:=hI
      rw[hd,List.flatten_cons,List.length_append] at i2
      refine⟨by show (s++x).length+(ls.drop (i+1)).flatten.length=n;rw[List.length_append];omega,?_⟩
      rw[concat_term_l11]
      simp only[cndO_eq,hi,decide_true,if_true,and_true,Int.toNat_natCast,hx]
      rw[obO_pos (by omega),obO_pos (by unfold roomB;omega)])
    (fun s _=>by rw[concat_term_l11];simp [cndO_eq]) [] (by simp [hn])
  rw[foldl_flat,List.nil_append] at lq
  rw[concat_term_in]
  refine (loop_end lp).trans ?_
  rw[concat_term_a3_x0,obO_pos (by omega)]
  refine (loop_end lq).trans ?_
  rw[concat_term_a11_x2]
  rfl
def F_concat_term : FnC Un:=fun args=>match args with
  | [x0]=>(dL .trms x0).bind fun ls=>some ([ls.flatten.length≤1000000000],A_concat_term (concat_term ls),O_concat_term (concat_term ls))
  | _=>none
theorem ok_concat_term : FnOK 122 F_concat_term:=by
  intro args ob rs os h hob
  unfold F_concat_term at h
  split at h
  · simp only[Option.bind_eq_some_iff,Option.some.injEq,Prod.mk.injEq] at h
    obtain⟨ls,e0,rfl,rfl,rfl⟩:=h
    obtain rfl:=dL_eq e0
    exact⟨fn_contractF (M:=M_concat_term) rfl (tbl_ok (l1:=[]) (l2:=[]) (l3:=[]) (l4:=[(156,G_grow_term)]) (l5:=[]) trivial trivial trivial ⟨okG_grow_term,trivial⟩ trivial) Tryz.func122 (by kernel_rfl) N_concat_term 1 [.o] (fun hwf=>(concat_term_spec ls (wfArg hwf (a:=.d (.v (.dat (U:=Un) Ty.trms ls))) (List.mem_of_getElem? (i:=0) rfl)) (hob _ (List.mem_of_getElem? (i:=0) rfl)))),hasBody_of Tryz.func122 (by kernel_rfl) (by kernel_rfl)⟩
  · simp at h
def M_push_merge : Mc Un:=mach (tbl [(123,F_conj_Split),(122,F_concat_term),(121,F_push_filter)]) (tbl []) (tbl []) (tbl []) (tbl [])
def A_push_merge (r:Rel×Bool) : List (A Un):=[.agg (encC Ty.rel r.1),.c (.s (.bool r.2))]
def O_push_merge (_r:Rel×Bool) : List (Ob Un):=[]
def R_push_merge (r:Rel×Bool) : RF Un:=(A_push_merge r,O_push_merge r)
def N_push_merge : Nat→NS:=fun l=>(look l []).getD ⟨[],[],[],[],[],true⟩
def push_merge_fn (t:Term) (q:Rel) : Option (RF Un):=awf M_push_merge N_push_merge (bodyOf Tryz.f83) (entry Tryz.f83.ntmps 0 [.d (.agg (enc Ty.term t)),.d (.agg (enc Ty.rel q))]) (retF M_push_merge Tryz.f83.results.toList [.d,.d])
theorem push_merge_in (t:Term) (q:Rel) : push_merge_fn t q=obO ((0:Int)≤(0:Int)∧(0:Int)<(↑q.kids.length:Int)) (obO ((0:Int)≤(0:Int)∧(0:Int)<(↑q.terms.length:Int)) (obO ((Term.ids (q.terms.getD 0 zeroTerm)).sz≤(2000000:Nat)) (obO ((Term.ids t).sz≤(2000000:Nat)) (obO ([conj_Split (Term.ids (q.terms.getD 0 zeroTerm)),conj_Split (Term.ids t)].flatten.length≤(1000000000:Nat)) (some (R_push_merge (push_filter (Rel.ids (q.kids.getD 0 zeroRel)) (concat_term [conj_Split (Term.ids (q.terms.getD 0 zeroTerm)),conj_Split (Term.ids t)]),true))))))):=by kernel_rfl
def push_merge (t:Term) (q:Rel) : Rel×Bool:=(pushFilter (q.kids.getD 0 zeroRel) (splitT (q.terms.getD 0 zeroTerm)++splitT t),true)
theorem push_merge_spec (t:Term) (q:Rel) (_ht:WS .term t) (_hq:WS .rel q) (h1:t.sz≤2000000) (h2:q.kids.length=1) (h3:q.terms.length=1) (h4:(q.terms.getD 0 zeroTerm).sz≤2000000) : push_merge_fn t q=some (R_push_merge (push_merge t q)):=by
  have l1:=splitT_len t
  have l2:=splitT_len (q.terms.getD 0 zeroTerm)
  rw[push_merge_in]
  simp only[Term.ids_eq,Rel.ids_eq,conj_Split_eq]
  repeat (first | rw[obO_pos (by omega)] | rw[obO_pos (by simp only[List.flatten_cons,List.flatten_nil,List.append_nil,List.length_append];omega)])
  unfold push_merge concat_term
  simp only[List.flatten_cons,List.flatten_nil,List.append_nil]
  rfl
def F_push_merge : FnC Un:=fun args=>match args with
  | [x0,x1]=>(dS .term x0).bind fun t=>(dS .rel x1).bind fun q=>some ([t.sz≤2000000,q.kids.length=1,q.terms.length=1,(q.terms.getD 0 zeroTerm).sz≤2000000],A_push_merge (push_merge t q),O_push_merge (push_merge t q))
  | _=>none
theorem ok_push_merge : FnOK 83 F_push_merge:=by
  intro args ob rs os h hob
  unfold F_push_merge at h
  split at h
  · simp only[Option.bind_eq_some_iff,Option.some.injEq,Prod.mk.injEq] at h
    obtain⟨t,e0,q,e1,rfl,rfl,rfl⟩:=h
    obtain rfl:=dS_eq e0
    obtain rfl:=dS_eq e1
    exact⟨fn_contractF (M:=M_push_merge) rfl (tbl_ok (l1:=[(123,F_conj_Split),(122,F_concat_term),(121,F_push_filter)]) (l2:=[]) (l3:=[]) (l4:=[]) (l5:=[]) ⟨ok_conj_Split,ok_concat_term,ok_push_filter,trivial⟩ trivial trivial trivial trivial) Tryz.func83 (by kernel_rfl) N_push_merge 0 [.d,.d] (fun hwf=>(push_merge_spec t q (wfArg hwf (a:=.d (.agg (enc Ty.term t))) (List.mem_of_getElem? (i:=0) rfl)) (wfArg hwf (a:=.d (.agg (enc Ty.rel q))) (List.mem_of_getElem? (i:=1) rfl)) (hob _ (List.mem_of_getElem? (i:=0) rfl)) (hob _ (List.mem_of_getElem? (i:=1) rfl)) (hob _ (List.mem_of_getElem? (i:=2) rfl)) (hob _ (List.mem_of_getElem? (i:=3) rfl)))),hasBody_of Tryz.func83 (by kernel_rfl) (by kernel_rfl)⟩
  · simp at h
end
end Go.Proofs.YtolbngdhgcbmgaaGreat.B
namespace Go.Proofs.YtolbngdhgcbmgaaGreat.B
open Go Go.RowKit
set_option maxRecDepth 1000000
theorem drel_int {St:Nat→Nat→Prop} {w:World} {v:Value} {k:IntKind} {n:Int} (h:DRel Tryz.prog En St w v (.d (.v (.s (.int k n))))) : v=.int k n∧k.min≤n∧n≤k.max:=by
  have h':VRel En St w v (.s (.int k n)):=h
  cases h' with | s _ h=>exact⟨rfl,of_decide_eq_true h⟩
end Go.Proofs.YtolbngdhgcbmgaaGreat.B
namespace Go.Proofs.YtolbngdhgcbmgaaGreat.B
open Go Go.RowKit
set_option maxRecDepth 1000000
set_option linter.unusedVariables false
noncomputable section
def ruled (op:Int) : Prop:=op=3∨op=5∨op=6∨op=4∨op=8∨op=12∨op=9∨op=7
instance (op:Int) : Decidable (ruled op):=by unfold ruled;infer_instance
structure ruleOK (op:Int) (t:Term) (q:Rel) : Prop where
  size : t.sz≤2000000
  merge : op=3→q.kids.length=1∧q.terms.length=1∧(q.terms.getD 0 zeroTerm).sz≤2000000
  join : op=5→joinOK t q
  left : op=6→q.kids.length=2
  one : op=4∨op=7→q.kids.length=1
  all : q.kids.length≤2000000
def ruleV (op:Int) (t:Term) (q:Rel) : Rel×Bool :=
  if op=3 then push_merge t q else if op=5 then push_join t q else if op=6 then push_left t q else if op=4 then push_project t q else if op=7 then push_group t q else push_through t q
def ruleF (op:Int) : FV Un:=fun args=>match args with
  | [x0,x1]=>(dS .term (.d x0)).bind fun t=>(dS .rel (.d x1)).bind fun q=>some ([ruleOK op t q],[.agg (enc Ty.rel (ruleV op t q).1),.v (.s (.bool (ruleV op t q).2))])
  | _=>none
def F_rulesA : FnC Un:=fun args=>match args with
  | [x0]=>(dI .i64 x0).bind fun op=>some ([ruled op],[.c (.fv (ruleF op))],[])
  | _=>none
def F_rulesB : FnC Un:=fun args=>match args with
  | [x0]=>(dI .i64 x0).bind fun op=>some ([¬ ruled op],[.c (.s .nilFunc)],[])
  | _=>none
theorem obsN : ∀ p∈([] : List Prop),p:=fun _ h=>absurd h List.not_mem_nil
theorem obsC {a:Prop} {l:List Prop} (h1:a) (h:∀ p∈l,p) : ∀ p∈a::l,p:=fun p hp=>(List.mem_cons.1 hp).elim (fun e=>e ▸ h1) (h p)
theorem fun_relR {f:FuncId} {φ:FV Un} (h:FvOK f φ) {St:Nat→Nat→Prop} {w:World} : FunRel Tryz.prog En St w (.func (.func f) #[] #[]) φ:=by
  refine⟨f,#[],rfl,h.1,fun St' w' hk hb args ob rs hφ hob vs hvs=>?_⟩
  have hc:=h.2 args ob rs hφ hob w' St' vs hb (All2.map_right D.d (fun _ _ h=>h) hvs)
  rw[Array.append_empty];exact hc
theorem fvok_rule {f:FuncId} {F:FnC Un} (op:Int) (g:Term→Rel→Rel×Bool) (hg:∀ t q,ruleV op t q=g t q) (hb:HasBody Tryz.prog f) (hok:FnOK f F)
    (hF:∀ t q,ruleOK op t q→∃ ob,F [.d (.agg (enc Ty.term t)),.d (.agg (enc Ty.rel q))]=some (ob,[.agg (encC Ty.rel (g t q).1),.c (.s (.bool (g t q).2))],[])∧∀ p∈ob,p) : FvOK f (ruleF op):=by
  refine⟨hb,fun args ob rs h hob=>?_⟩
  unfold ruleF at h
  split at h
  · simp only[Option.bind_eq_some_iff,Option.some.injEq,Prod.mk.injEq] at h
    obtain⟨t,e0,q,e1,rfl,rfl⟩:=h
    obtain⟨ob2,e2,h2⟩:=hF t q (hob _ (List.mem_singleton.2 rfl))
    simp only[List.map_cons,List.map_nil]
    rw[dS_eq e0,dS_eq e1,hg]
    exact Contract.data (hok _ ob2 _ _ e2 h2).1
  · simp at h
theorem rules_walk (op:Int) (f:FuncId) (h:(op=3∧f=83)∨(op=5∧f=84)∨(op=6∧f=85)∨(op=4∧f=86)∨((op=8∨op=12∨op=9)∧f=87)∨(op=7∧f=88)) (w:World) :
    Calls Tryz.prog 26 #[.int .i64 op] w fun e w'=>e=.returned (.func (.func f) #[] #[])∧Ext w w':=by
  have mixed:Tryz.prog.follows .mixedOrders=true:=by kernel_rfl
  rcases h with ⟨rfl,rfl⟩ | ⟨rfl,rfl⟩ | ⟨rfl,rfl⟩ | ⟨rfl,rfl⟩ | ⟨rfl | rfl | rfl,rfl⟩ | ⟨rfl,rfl⟩
  all_goals
    go_enter Tryz.func26,Tryz.ntmps26
    go_wp2
    go_ret
    exact⟨rfl,Ext.refl w⟩
theorem rules_nil (op:Int) (h:¬ ruled op) (w:World) : Calls Tryz.prog 26 #[.int .i64 op] w fun e w'=>e=.returned .nilFunc∧Ext w w':=by
  have mixed:Tryz.prog.follows .mixedOrders=true:=by kernel_rfl
  unfold ruled at h
  have h3:¬ op=3:=by omega
  have h4:¬ op=4:=by omega
  have h5:¬ op=5:=by omega
  have h6:¬ op=6:=by omega
  have h7:¬ op=7:=by omega
  have h8:¬ op=8:=by omega
  have h9:¬ op=9:=by omega
  have h12:¬ op=12:=by omega
  go_enter Tryz.func26,Tryz.ntmps26
  go_wp2
  go_ret
  exact⟨rfl,Ext.refl w⟩
theorem ok_rulesA : FnOK 26 F_rulesA:=by
  have b {f:FuncId} {op:Int} (h:FvOK f (ruleF op)):=h
  have k3:FvOK 83 (ruleF 3):=fvok_rule 3 push_merge (fun _ _=>rfl) (hasBody_of Tryz.func83 (by kernel_rfl) (by kernel_rfl)) ok_push_merge (fun t q h=>⟨_,by unfold F_push_merge;simp only[dSk_mk,Option.bind_some];rfl,obsC h.size (obsC (h.merge rfl).1 (obsC (h.merge rfl).2.1 (obsC (h.merge rfl).2.2 obsN)))⟩)
  have k5:FvOK 84 (ruleF 5):=fvok_rule 5 push_join (fun _ _=>rfl) (hasBody_of Tryz.func84 (by kernel_rfl) (by kernel_rfl)) ok_push_join (fun t q h=>⟨_,by unfold F_push_join;simp only[dSk_mk,Option.bind_some];rfl,obsC (h.join rfl) obsN⟩)
  have k6:FvOK 85 (ruleF 6):=fvok_rule 6 push_left (fun _ _=>rfl) (hasBody_of Tryz.func85 (by kernel_rfl) (by kernel_rfl)) ok_push_left (fun t q h=>⟨_,by unfold F_push_left;simp only[dSk_mk,Option.bind_some];rfl,obsC h.size (obsC (h.left rfl) obsN)⟩)
  have k4:FvOK 86 (ruleF 4):=fvok_rule 4 push_project (fun _ _=>rfl) (hasBody_of Tryz.func86 (by kernel_rfl) (by kernel_rfl)) ok_push_project (fun t q h=>⟨_,by unfold F_push_project;simp only[dSk_mk,Option.bind_some];rfl,obsC h.size (obsC (h.one (.inl rfl)) obsN)⟩)
  have k7:FvOK 88 (ruleF 7):=fvok_rule 7 push_group (fun _ _=>rfl) (hasBody_of Tryz.func88 (by kernel_rfl) (by kernel_rfl)) ok_push_group (fun t q h=>⟨_,by unfold F_push_group;simp only[dSk_mk,Option.bind_some];rfl,obsC h.size (obsC (h.one (.inr rfl)) obsN)⟩)
  have kt:∀ op,op=8∨op=12∨op=9→FvOK 87 (ruleF op):=fun op ho=>fvok_rule op push_through (fun _ _=>by unfold ruleV;rw[if_neg (by omega),if_neg (by omega),if_neg (by omega),if_neg (by omega),if_neg (by omega)]) (hasBody_of Tryz.func87 (by kernel_rfl) (by kernel_rfl)) ok_push_through (fun t q h=>⟨_,by unfold F_push_through;simp only[dSk_mk,Option.bind_some];rfl,obsC h.all obsN⟩)
  intro args ob rs os h hob
  unfold F_rulesA at h
  split at h
  · rename_i x0
    simp only[Option.bind_eq_some_iff,Option.some.injEq,Prod.mk.injEq] at h
    obtain⟨op,e0,rfl,rfl,rfl⟩:=h
    obtain rfl:=dI_eq e0
    refine⟨?_,hasBody_of Tryz.func26 (by kernel_rfl) (by kernel_rfl)⟩
    have hr:=hob _ (List.mem_singleton.2 rfl)
    have fin:∀ (f:FuncId),FvOK f (ruleF op)→(∀ w,Calls Tryz.prog 26 #[.int .i64 op] w fun e w'=>e=.returned (.func (.func f) #[] #[])∧Ext w w')→Contract Tryz.prog En 26 [.d (.v (.s (.int .i64 op)))] [.c (.fv (ruleF op))] []:=by
      intro f hk hn w St vs hbd hvs
      match vs,hvs with
      | [v0],⟨h0,_⟩ =>
        obtain⟨rfl,-⟩:=drel_int h0
        refine (hn w).mono ?_
        rintro e w' ⟨rfl,hx⟩
        let gg : G:={ β:=fun _=>0,lb:=fun _=>False,ω:=fun _ _=>none,tk:=fun _=>(none,0) }
        exact⟨_,rfl,hx,gg,fun _ h=>h,fun b o x _ h=>by simp [gg] at h,fun b o x h=>by simp [gg] at h,fun_relR hk,fun k o h=>by simp at h⟩
    unfold ruled at hr
    rcases hr with rfl | rfl | rfl | rfl | h8 | h12 | h9 | rfl
    · exact fin _ k3 (rules_walk 3 _ (by simp))
    · exact fin _ k5 (rules_walk 5 _ (by simp))
    · exact fin _ k6 (rules_walk 6 _ (by simp))
    · exact fin _ k4 (rules_walk 4 _ (by simp))
    · exact fin _ (kt op (by omega)) (rules_walk op _ (.inr (.inr (.inr (.inr (.inl ⟨by omega,rfl⟩))))))
    · exact fin _ (kt op (by omega)) (rules_walk op _ (.inr (.inr (.inr (.inr (.inl ⟨by omega,rfl⟩))))))
    · exact fin _ (kt op (by omega)) (rules_walk op _ (.inr (.inr (.inr (.inr (.inl ⟨by omega,rfl⟩))))))
    · exact fin _ k7 (rules_walk 7 _ (by simp))
  · simp at h
theorem ok_rulesB : FnOK 26 F_rulesB:=by
  intro args ob rs os h hob
  unfold F_rulesB at h
  split at h
  · rename_i x0
    simp only[Option.bind_eq_some_iff,Option.some.injEq,Prod.mk.injEq] at h
    obtain⟨op,e0,rfl,rfl,rfl⟩:=h
    obtain rfl:=dI_eq e0
    refine⟨?_,hasBody_of Tryz.func26 (by kernel_rfl) (by kernel_rfl)⟩
    have hr:=hob _ (List.mem_singleton.2 rfl)
    intro w St vs hbd hvs
    match vs,hvs with
    | [v0],⟨h0,_⟩ =>
      obtain⟨rfl,-⟩:=drel_int h0
      refine (rules_nil op hr w).mono ?_
      rintro e w' ⟨rfl,hx⟩
      let gg : G:={ β:=fun _=>0,lb:=fun _=>False,ω:=fun _ _=>none,tk:=fun _=>(none,0) }
      exact⟨_,rfl,hx,gg,fun _ h=>h,fun b o x _ h=>by simp [gg] at h,fun b o x h=>by simp [gg] at h,⟨rfl,rfl⟩,fun k o h=>by simp at h⟩
  · simp at h
end
end Go.Proofs.YtolbngdhgcbmgaaGreat.B
namespace Go.Proofs.YtolbngdhgcbmgaaGreat.B
open Go Go.RowKit
set_option maxRecDepth 100000
noncomputable section
attribute [local irreducible] awp ctxK itersK iterK retQ retGQ awf ctxF loopF
def M_onceA : Mc Un:=mach (tbl [(26,F_rulesA),(27,F_push_formed)]) (tbl []) (tbl []) (tbl []) (tbl [])
def A_onceA (r:Rel×Bool) : List (A Un):=[.agg (encC Ty.rel r.1),.c (.s (.bool r.2))]
def O_onceA (_r:Rel×Bool) : List (Ob Un):=[]
def R_onceA (r:Rel×Bool) : RF Un:=(A_onceA r,O_onceA r)
def N_onceA : Nat→NS:=fun l=>(look l []).getD ⟨[],[],[],[],[],true⟩
def onceA_fn (r:Rel) : Option (RF Un):=awf M_onceA N_onceA (bodyOf Tryz.f8) (entry Tryz.f8.ntmps 0 [.d (.agg (enc Ty.rel r))]) (retF M_onceA Tryz.f8.results.toList [.d,.d])
theorem onceA_in (r:Rel) : onceA_fn r=cndO (r.op != 3) (some (R_onceA (r,false))) (cndO ((↑r.kids.length:Int) != (1:Int)) (some (R_onceA (r,false))) (cndO ((↑r.terms.length:Int) != (1:Int)) (some (R_onceA (r,false))) (obO ((0:Int)≤(0:Int)∧(0:Int)<(↑r.kids.length:Int)) (obO (ruled (Rel.op (r.kids.getD 0 zeroRel))) (obO ((0:Int)≤(0:Int)∧(0:Int)<(↑r.kids.length:Int)) (cndO (!push_formed (Rel.ids (r.kids.getD 0 zeroRel))) (some (R_onceA (r,false))) (obO ((0:Int)≤(0:Int)∧(0:Int)<(↑r.terms.length:Int)) (obO ((0:Int)≤(0:Int)∧(0:Int)<(↑r.kids.length:Int)) (obO (ruleOK (Rel.op (r.kids.getD 0 zeroRel)) (Term.ids (r.terms.getD 0 zeroTerm)) (Rel.ids (r.kids.getD 0 zeroRel))) (cndO ((ruleV (Rel.op (r.kids.getD 0 zeroRel)) (Term.ids (r.terms.getD 0 zeroTerm)) (Rel.ids (r.kids.getD 0 zeroRel))).snd) (some (R_onceA ((ruleV (Rel.op (r.kids.getD 0 zeroRel)) (Term.ids (r.terms.getD 0 zeroTerm)) (Rel.ids (r.kids.getD 0 zeroRel))).fst,true))) (some (R_onceA (r,false))))))))))))):=by kernel_rfl
def onceOK (r:Rel) : Prop:=r.op=3→r.kids.length=1→r.terms.length=1→push_formed (r.kids.getD 0 zeroRel)=true→ruleOK (r.kids.getD 0 zeroRel).op (r.terms.getD 0 zeroTerm) (r.kids.getD 0 zeroRel)
theorem ruleV_eq {q:Rel} (t:Term) (h:ruled q.op) : (ruleV q.op t q).2=(ruleT t q).isSome∧∀ s,ruleT t q=some s→(ruleV q.op t q).1=s:=by
  unfold ruled at h
  unfold ruleV ruleT
  by_cases h3 : q.op=3
  · simp only[if_pos h3]
    exact⟨rfl,fun s e=>by rw[← Option.some.inj e];rfl⟩
  simp only[if_neg h3]
  by_cases h5 : q.op=5
  · simp only[if_pos h5]
    exact⟨rfl,fun s e=>by rw[← Option.some.inj e];rfl⟩
  simp only[if_neg h5]
  by_cases h6 : q.op=6
  · simp only[if_pos h6]
    unfold push_left
    by_cases hc : ((splitT t).filter fun p=>withinA p 0 (widthR (q.kids.getD 0 zeroRel))).length=0
    · rw[if_pos hc,if_pos hc]
      exact⟨rfl,fun s e=>by simp at e⟩
    · rw[if_neg hc,if_neg hc]
      exact⟨rfl,fun s e=>by rw[← Option.some.inj e]⟩
  simp only[if_neg h6]
  by_cases h4 : q.op=4
  · simp only[if_pos h4]
    unfold push_project
    by_cases hc : plainP t q.terms=true
    · rw[if_pos hc,if_pos hc]
      exact⟨rfl,fun s e=>by rw[← Option.some.inj e]⟩
    · rw[if_neg hc,if_neg hc]
      exact⟨rfl,fun s e=>by simp at e⟩
  simp only[if_neg h4]
  by_cases h7 : q.op=7
  · have h8:¬ (q.op=8∨q.op=12∨q.op=9):=by omega
    simp only[if_pos h7,if_neg h8]
    unfold push_group
    have e:((splitT t).filter fun p=>withinA p 0 (q.terms.length:Int) && plainP p q.terms)=(splitT t).filter (grpSo q):=rfl
    have e':((splitT t).filter fun p=>!(withinA p 0 (q.terms.length:Int) && plainP p q.terms))=(splitT t).filter (fun p=>!grpSo q p):=rfl
    simp only[e,e']
    by_cases hc : q.terms.length=0∨((splitT t).filter (grpSo q)).length=0
    · rw[if_pos hc,if_pos hc]
      exact⟨rfl,fun s e=>by simp at e⟩
    · rw[if_neg hc,if_neg hc]
      exact⟨rfl,fun s e=>by rw[← Option.some.inj e]⟩
  · have h8:q.op=8∨q.op=12∨q.op=9:=by omega
    simp only[if_neg h7,if_pos h8]
    exact⟨rfl,fun s e=>by rw[← Option.some.inj e];rfl⟩
theorem ruleT_nil {q:Rel} (t:Term) (h:¬ ruled q.op) : ruleT t q=none:=by
  unfold ruled at h
  unfold ruleT
  simp only[if_neg (by omega:¬ q.op=3),if_neg (by omega:¬ q.op=5),if_neg (by omega:¬ q.op=6),if_neg (by omega:¬ q.op=4),if_neg (by omega:¬ (q.op=8∨q.op=12∨q.op=9)),if_neg (by omega:¬ q.op=7)]
def push_Once (r:Rel) : Rel×Bool:=pushOnce r
def onceA (r:Rel) : Rel×Bool:=pushOnce r
def onceB (r:Rel) : Rel×Bool:=pushOnce r
theorem onceA_spec (r:Rel) (_hr:WS .rel r) (h:ruled (r.kids.getD 0 zeroRel).op) (h2:onceOK r) : onceA_fn r=some (R_onceA (onceA r)):=by
  rw[onceA_in]
  simp only[Term.ids_eq,Rel.ids_eq]
  unfold onceA pushOnce
  by_cases h3 : r.op=3
  · by_cases hk : r.kids.length=1
    · by_cases ht : r.terms.length=1
      · rw[cndO_eq,if_neg (by simp [h3]),cndO_eq,if_neg (by simp [hk]),cndO_eq,if_neg (by simp [ht]),obO_pos (by omega),obO_pos h,obO_pos (by omega),cndO_eq]
        by_cases hf : push_formed (r.kids.getD 0 zeroRel)=true
        · have hf':formedR (r.kids.getD 0 zeroRel)=true:=hf
          obtain⟨v1,v2⟩:=ruleV_eq (r.terms.getD 0 zeroTerm) h
          rw[hf,if_neg (by decide),obO_pos (by omega),obO_pos (by omega),obO_pos (h2 h3 hk ht hf),if_pos ⟨h3,hk,ht,hf'⟩,cndO_eq,v1]
          cases hs : ruleT (r.terms.getD 0 zeroTerm) (r.kids.getD 0 zeroRel) with
          | none=>rw[if_neg (by decide)]
          | some s=>rw[if_pos (by rfl),v2 s hs]
        · rw[Bool.eq_false_iff.2 hf,if_pos (by decide),if_neg (fun e=>hf e.2.2.2)]
      · rw[cndO_eq,if_neg (by simp [h3]),cndO_eq,if_neg (by simp [hk]),cndO_eq,if_pos (by simp;omega),if_neg (fun e=>ht e.2.2.1)]
    · rw[cndO_eq,if_neg (by simp [h3]),cndO_eq,if_pos (by simp;omega),if_neg (fun e=>hk e.2.1)]
  · rw[cndO_eq,if_pos (by simpa using h3),if_neg (fun e=>h3 e.1)]
def F_onceA : FnC Un:=fun args=>match args with
  | [x0]=>(dS .rel x0).bind fun r=>some ([ruled (r.kids.getD 0 zeroRel).op,onceOK r],A_onceA (onceA r),O_onceA (onceA r))
  | _=>none
theorem ok_onceA : FnOK 8 F_onceA:=by
  intro args ob rs os h hob
  unfold F_onceA at h
  split at h
  · simp only[Option.bind_eq_some_iff,Option.some.injEq,Prod.mk.injEq] at h
    obtain⟨r,e0,rfl,rfl,rfl⟩:=h
    obtain rfl:=dS_eq e0
    exact⟨fn_contractF (M:=M_onceA) rfl (tbl_ok (l1:=[(26,F_rulesA),(27,F_push_formed)]) (l2:=[]) (l3:=[]) (l4:=[]) (l5:=[]) ⟨ok_rulesA,ok_push_formed,trivial⟩ trivial trivial trivial trivial) Tryz.func8 (by kernel_rfl) N_onceA 0 [.d,.d] (fun hwf=>(onceA_spec r (wfArg hwf (a:=.d (.agg (enc Ty.rel r))) (List.mem_of_getElem? (i:=0) rfl)) (hob _ (List.mem_of_getElem? (i:=0) rfl)) (hob _ (List.mem_of_getElem? (i:=1) rfl)))),hasBody_of Tryz.func8 (by kernel_rfl) (by kernel_rfl)⟩
  · simp at h
def M_onceB : Mc Un:=mach (tbl [(26,F_rulesB),(27,F_push_formed)]) (tbl []) (tbl []) (tbl []) (tbl [])
def A_onceB (r:Rel×Bool) : List (A Un):=[.agg (encC Ty.rel r.1),.c (.s (.bool r.2))]
def O_onceB (_r:Rel×Bool) : List (Ob Un):=[]
def R_onceB (r:Rel×Bool) : RF Un:=(A_onceB r,O_onceB r)
def N_onceB : Nat→NS:=fun l=>(look l []).getD ⟨[],[],[],[],[],true⟩
def onceB_fn (r:Rel) : Option (RF Un):=awf M_onceB N_onceB (bodyOf Tryz.f8) (entry Tryz.f8.ntmps 0 [.d (.agg (enc Ty.rel r))]) (retF M_onceB Tryz.f8.results.toList [.d,.d])
theorem onceB_in (r:Rel) : onceB_fn r=cndO (r.op != 3) (some (R_onceB (r,false))) (cndO ((↑r.kids.length:Int) != (1:Int)) (some (R_onceB (r,false))) (cndO ((↑r.terms.length:Int) != (1:Int)) (some (R_onceB (r,false))) (obO ((0:Int)≤(0:Int)∧(0:Int)<(↑r.kids.length:Int)) (obO (¬ruled (Rel.op (r.kids.getD 0 zeroRel))) (some (R_onceB (r,false))))))):=by kernel_rfl
theorem onceB_spec (r:Rel) (_hr:WS .rel r) (h:¬ ruled (r.kids.getD 0 zeroRel).op) : onceB_fn r=some (R_onceB (onceB r)):=by
  rw[onceB_in]
  have hn:=ruleT_nil (r.terms.getD 0 zeroTerm) h
  have e:onceB r=(r,false):=by
    unfold onceB pushOnce
    rw[hn]
    split<;>rfl
  rw[e]
  by_cases h3 : r.op=3
  · by_cases hk : r.kids.length=1
    · by_cases ht : r.terms.length=1
      · rw[cndO_eq,if_neg (by simp [h3]),cndO_eq,if_neg (by simp [hk]),cndO_eq,if_neg (by simp [ht]),obO_pos (by omega),obO_pos h]
      · rw[cndO_eq,if_neg (by simp [h3]),cndO_eq,if_neg (by simp [hk]),cndO_eq,if_pos (by simp;omega)]
    · rw[cndO_eq,if_neg (by simp [h3]),cndO_eq,if_pos (by simp;omega)]
  · rw[cndO_eq,if_pos (by simpa using h3)]
def F_onceB : FnC Un:=fun args=>match args with
  | [x0]=>(dS .rel x0).bind fun r=>some ([¬ ruled (r.kids.getD 0 zeroRel).op],A_onceB (onceB r),O_onceB (onceB r))
  | _=>none
theorem ok_onceB : FnOK 8 F_onceB:=by
  intro args ob rs os h hob
  unfold F_onceB at h
  split at h
  · simp only[Option.bind_eq_some_iff,Option.some.injEq,Prod.mk.injEq] at h
    obtain⟨r,e0,rfl,rfl,rfl⟩:=h
    obtain rfl:=dS_eq e0
    exact⟨fn_contractF (M:=M_onceB) rfl (tbl_ok (l1:=[(26,F_rulesB),(27,F_push_formed)]) (l2:=[]) (l3:=[]) (l4:=[]) (l5:=[]) ⟨ok_rulesB,ok_push_formed,trivial⟩ trivial trivial trivial trivial) Tryz.func8 (by kernel_rfl) N_onceB 0 [.d,.d] (fun hwf=>(onceB_spec r (wfArg hwf (a:=.d (.agg (enc Ty.rel r))) (List.mem_of_getElem? (i:=0) rfl)) (hob _ (List.mem_of_getElem? (i:=0) rfl)))),hasBody_of Tryz.func8 (by kernel_rfl) (by kernel_rfl)⟩
  · simp at h
def A_push_Once (r:Rel×Bool) : List (A Un):=[.agg (encC Ty.rel r.1),.c (.s (.bool r.2))]
def O_push_Once (_r:Rel×Bool) : List (Ob Un):=[]
def F_push_Once : FnC Un:=fun args=>match args with
  | [x0]=>(dS .rel x0).bind fun r=>some ([onceOK r],A_push_Once (push_Once r),O_push_Once (push_Once r))
  | _=>none
theorem ok_push_Once : FnOK 8 F_push_Once:=by
  intro args ob rs os h hob
  unfold F_push_Once at h
  split at h
  · rename_i x0
    simp only[Option.bind_eq_some_iff,Option.some.injEq,Prod.mk.injEq] at h
    obtain⟨r,e0,rfl,rfl,rfl⟩:=h
    have hO:=hob _ (List.mem_singleton.2 rfl)
    by_cases hr : ruled (r.kids.getD 0 zeroRel).op
    · exact ok_onceA [x0] [ruled (r.kids.getD 0 zeroRel).op,onceOK r] _ _ (by unfold F_onceA;simp only[e0,Option.bind_some];rfl) (obsC hr (obsC hO obsN))
    · exact ok_onceB [x0] [¬ ruled (r.kids.getD 0 zeroRel).op] _ _ (by unfold F_onceB;simp only[e0,Option.bind_some];rfl) (obsC hr obsN)
  · simp at h
end
end Go.Proofs.YtolbngdhgcbmgaaGreat.B
