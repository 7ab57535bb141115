/- Part 12 of the proof: SconjU. -/
import Derived.Test.YtolbngdhgcbmgaaGreatPonce11
namespace Go.Proofs.YtolbngdhgcbmgaaGreat.B
open Go Go.RowKit
set_option maxRecDepth 100000
noncomputable section
attribute [local irreducible] awp ctxK itersK iterK retQ retGQ awf ctxF loopF
def M_uC : Mc Un:=mach (tbl []) (tbl []) (tbl []) (tbl []) (tbl [])
def A_uC (r:Term×Int×List Int) : List (A Un):=[.agg (encC Ty.term r.1)]
def B_uC (r:Term×Int×List Int) : List (Bool×List (C Un)):=[(false,[(.s (.int .i64 r.2.1))]),(false,[(.ob 0 0)])]
def O_uC (r:Term×Int×List Int) : List (Ob Un):=[⟨0,Ty.int,r.2.2,some 0,true⟩]
def R_uC (r:Term×Int×List Int) : RGF Un:=(A_uC r,B_uC r,O_uC r)
def N_uC : Nat→NS:=fun l=>(look l []).getD ⟨[],[],[],[],[],false⟩
def uC_fn (c:Term) (down:Int) (depth:Int) (out:List Int) : Option (RGF Un):=awf M_uC N_uC (bodyOf Tryz.f174) (entryG Tryz.f174.ntmps 0 [.agg (encC Ty.term c),.c (.s (.int .i64 down)),.c (.bx 0 0),.c (.bx 1 0)] [(false,[(.s (.int .i64 depth))]),(false,[.ob 0 0])] [⟨0,Ty.int,out,(some 0),true⟩]) (retGF M_uC 2 Tryz.f174.results.toList [.d,.m,.d])
theorem uC_in (c:Term) (down:Int) (depth:Int) (out:List Int) : uC_fn c down depth out=cndO (IntKind.i64.wrap (c.depth - down) == depth) (obO ((out.length+[c.at_].length)*(8:Nat)≤roomB) (some (R_uC (c,depth,out++[c.at_])))) (some (R_uC (c,depth,out))):=by kernel_rfl
def uCOK (depth down:Int) (out:List Int) : Prop:=(-2000000≤depth∧depth≤2000000)∧(0≤down∧down≤2000000)∧out.length≤2000000
def uC (c:Term) (down depth:Int) (out:List Int) : Term×Int×List Int:=(c,depth,if c.depth=depth+down then out++[c.at_] else out)
theorem uC_spec (c:Term) (down depth:Int) (out:List Int) (hc:WS .term c) (_hd:WI down) (_ho:WL .int out) (h:uCOK depth down out) : uC_fn c down depth out=some (R_uC (uC c down depth out)):=by
  obtain⟨h1,h2,h3⟩:=h
  have hw:(IntKind.i64.wrap (c.depth - down) == depth)=decide (c.depth=depth+down):=by
    have hb:=hc.term_depth
    unfold WI at hb
    rw[IntKind.wrap_i64]
    by_cases e : c.depth=depth+down
    · rw[decide_eq_true e,beq_iff_eq];omega
    · rw[decide_eq_false e,beq_eq_false_iff_ne];omega
  rw[uC_in,hw]
  unfold uC
  simp only[cndO_eq,decide_eq_true_eq]
  split
  · rw[obO_pos (by unfold roomB;simp;omega)]
  · rfl
def G_uC : List Bool×FnG Un:=([],fun args bxs os=>match args,bxs,os with
  | [x0,x1,.c (.bx 0 0),.c (.bx 1 0)],[(false,cells0),(false,cells1)],[o0]=>match cells0.map C.weak,cells1.map C.weak with
    | [c0_depth],[.ob 0 0]=>(aS .term x0).bind fun c=>(aI .i64 x1).bind fun down=>(aI .i64 (.c c0_depth)).bind fun depth=>(oM .int o0).bind fun out=>some ([uCOK depth down out],A_uC (uC c down depth out),B_uC (uC c down depth out),O_uC (uC c down depth out))
    | _,_=>none
  | _,_,_=>none)
theorem okG_uC : GnOK 174 G_uC:=by
  intro args bxs os ob rs bxs' os' h hob
  unfold G_uC at h
  dsimp only at h
  split at h
  · rename_i x0 x1 cells0 cells1 o0
    split at h
    · rename_i c0_depth ec0 ec1
      simp only[Option.bind_eq_some_iff,Option.some.injEq,Prod.mk.injEq] at h
      obtain⟨c,e0,down,e1,depth,e2,out,e3,rfl,rfl,rfl,rfl⟩:=h
      obtain rfl:=aS_eq e0
      obtain rfl:=aI_eq e1
      have q2:=aI_eq e2
      have q3:=oM_eq e3
      refine⟨GContract.weak ?_,hasBody_of Tryz.func174 (by kernel_rfl) (by kernel_rfl)⟩
      simp only[List.map_cons,List.map_nil,ec0,ec1]
      have hb:[(false,[c0_depth]),(false,[(C.ob 0 0 : C Un)])]=[(false,[(.s (.int .i64 depth))]),(false,[.ob 0 0])]:=by
        simp only[A.c.injEq,A.agg.injEq] at q2
        simp only[q2]
        all_goals rfl
      rw[hb]
      rw[q3]
      refine gn_contract (M:=M_uC) rfl (nb:=2) rfl (tbl_ok (l1:=[]) (l2:=[]) (l3:=[]) (l4:=[]) (l5:=[]) trivial trivial trivial trivial trivial) Tryz.func174 (by kernel_rfl) N_uC 0 [.d,.m,.d] (fun ha hb ho=>?_)
      have hsp:=uC_spec c down depth out (wfArgA ha (a:=.agg (encC Ty.term c)) (by simp)) (wfArgA ha (a:=.c (.s (.int .i64 down))) (by simp)) (wfObs (τ:=.int) (l:=out) (fr:=some 0) ho (by simp)) (hob _ (List.mem_of_getElem? (i:=0) rfl))
      exact runG_of_awf (r:=(_,_,_)) hsp
    · simp at h
  · simp at h
def uOK (depth down:Int) (out:List Int) (n:Nat) : Prop:=(-2000000≤depth∧depth≤2000000)∧(0≤down∧down+n≤2000000)∧out.length+n≤2000000
def uT (t:Term) (down depth:Int) (out:List Int) : Term×Int×List Int:=(t,depth,out++inT (depth+down) t)
def uTs (l:List Term) (down depth:Int) (out:List Int) : List Term×Int×List Int:=(l,depth,out++inTs (depth+down) l)
def uR (r:Rel) (down depth:Int) (out:List Int) : Rel×Int×List Int:=(r,depth,out++inR (depth+down) r)
def A_uT (r:Term×Int×List Int) : List (A Un):=[.agg (encC Ty.term r.1)]
def B_uT (r:Term×Int×List Int) : List (Bool×List (C Un)):=[(false,[(.s (.int .i64 r.2.1))]),(false,[(.ob 0 0)])]
def O_uT (r:Term×Int×List Int) : List (Ob Un):=[⟨0,Ty.int,r.2.2,some 0,true⟩]
def Gm_uT (m:Nat) : List Bool×FnG Un:=([],fun args bxs os=>match args,bxs,os with
  | [x0,x1,.c (.fc 174 [0,1])],[(false,cells0),(false,cells1)],[o0]=>match cells0.map C.weak,cells1.map C.weak with
    | [c0_depth],[.ob 0 0]=>(aS .term x0).bind fun t=>(aI .i64 x1).bind fun down=>(aI .i64 (.c c0_depth)).bind fun depth=>(oM .int o0).bind fun out=>some ([2*t.ht+1<m,uOK depth down out t.sz],A_uT (uT t down depth out),B_uT (uT t down depth out),O_uT (uT t down depth out))
    | _,_=>none
  | _,_,_=>none)
def A_uTs (r:List Term×Int×List Int) : List (A Un):=[.c (.sl (U:=Un) Ty.term r.1 false)]
def B_uTs (r:List Term×Int×List Int) : List (Bool×List (C Un)):=[(false,[(.s (.int .i64 r.2.1))]),(false,[(.ob 0 0)])]
def O_uTs (r:List Term×Int×List Int) : List (Ob Un):=[⟨0,Ty.int,r.2.2,some 0,true⟩]
def Gm_uTs (m:Nat) : List Bool×FnG Un:=([],fun args bxs os=>match args,bxs,os with
  | [x0,x1,.c (.fc 174 [0,1])],[(false,cells0),(false,cells1)],[o0]=>match cells0.map C.weak,cells1.map C.weak with
    | [c0_depth],[.ob 0 0]=>(aL .term x0).bind fun l=>(aI .i64 x1).bind fun down=>(aI .i64 (.c c0_depth)).bind fun depth=>(oM .int o0).bind fun out=>some ([2*htTs l+2<m,uOK depth down out (szTs l)],A_uTs (uTs l down depth out),B_uTs (uTs l down depth out),O_uTs (uTs l down depth out))
    | _,_=>none
  | _,_,_=>none)
def A_uR (r:Rel×Int×List Int) : List (A Un):=[.agg (encC Ty.rel r.1)]
def B_uR (r:Rel×Int×List Int) : List (Bool×List (C Un)):=[(false,[(.s (.int .i64 r.2.1))]),(false,[(.ob 0 0)])]
def O_uR (r:Rel×Int×List Int) : List (Ob Un):=[⟨0,Ty.int,r.2.2,some 0,true⟩]
def Gm_uR (m:Nat) : List Bool×FnG Un:=([],fun args bxs os=>match args,bxs,os with
  | [x0,x1,.c (.fc 174 [0,1])],[(false,cells0),(false,cells1)],[o0]=>match cells0.map C.weak,cells1.map C.weak with
    | [c0_depth],[.ob 0 0]=>(aS .rel x0).bind fun r=>(aI .i64 x1).bind fun down=>(aI .i64 (.c c0_depth)).bind fun depth=>(oM .int o0).bind fun out=>some ([2*r.ht+1<m,uOK depth down out r.sz],A_uR (uR r down depth out),B_uR (uR r down depth out),O_uR (uR r down depth out))
    | _,_=>none
  | _,_,_=>none)
def M_uT (m:Nat) : Mc Un:=mach (tbl [(97,F_clone_rel)]) (tbl []) (tbl []) (tbl [(180,Gm_uTs m),(181,Gm_uR m),(174,G_uC)]) (tbl [])
def R_uT (r:Term×Int×List Int) : RGF Un:=(A_uT r,B_uT r,O_uT r)
def N_uT : Nat→NS:=fun l=>(look l [(6,{ ts:=bl 46 402653262,bs:=bl 48 291,nm:=[(.cell 1 0,192),(.cell 5 8,193)] })]).getD ⟨[],[],[],[],[],false⟩
def uT_c1 (t:Term) (down:Int) (depth:Int) (out:List Int):=uC (Term.mk t.op t.v t.depth t.at_ t.name t.kids t.sub t.type) down depth out
def uT_c2 (down:Int) (v1:Int) (v11:List Int) (v12:List Rel) (v13:Int):=uR (Rel.mk (Rel.op (v12.getD v13.toNat zeroRel)) (Rel.table (v12.getD v13.toNat zeroRel)) (Rel.cols (v12.getD v13.toNat zeroRel)) (Rel.kids (v12.getD v13.toNat zeroRel)) (Rel.terms (v12.getD v13.toNat zeroRel)) (Rel.aggs (v12.getD v13.toNat zeroRel)) (Rel.keys (v12.getD v13.toNat zeroRel)) (Rel.limit (v12.getD v13.toNat zeroRel)) (Rel.skip (v12.getD v13.toNat zeroRel)) (Rel.all (v12.getD v13.toNat zeroRel)) (Rel.rows (v12.getD v13.toNat zeroRel))) (IntKind.i64.wrap (down+1)) v1 v11
def uT_c3 (t:Term) (down:Int) (depth:Int) (out:List Int):=uTs (uT_c1 t down depth out).fst.kids down (uT_c1 t down depth out).snd.fst (uT_c1 t down depth out).snd.snd
def uT_s6 (down:Int) (v0:Int) (v1:Int) (v2:Int) (v3:Int) (v4:Int) (v5:ByteArray) (v6:Int) (v7:Int) (v8:ByteArray) (v9:List Term) (v10:Int) (v11:List Int) (v12:List Rel) (v13:Int) : S Un:=(st 46 48 194 2 [(1,ai down),(2,AV.one (A.c (C.fc (174:Nat) [(0:Nat),(1:Nat)]))),(3,ax 5),(6,ax 8),(27,ai v0),(28,ai v13)] [(0,bi v1),(1,bo 192),(5,some (false,[C.s (Value.int IntKind.i64 v2),C.s (Value.int IntKind.i64 v3),C.s (Value.int IntKind.i64 v4),C.s (Value.string v5),C.s (Value.int IntKind.i64 v6),C.s (Value.int IntKind.i64 v7),C.s (Value.string v8),C.sl Ty.term v9 false,C.ob (193:Nat) (0:Nat),C.s (Value.int IntKind.i64 v10)])),(8,some (false,[C.s (Value.int IntKind.i64 (0:Int)),C.s (Value.int IntKind.i64 (0:Int)),C.s (Value.int IntKind.i64 (0:Int)),C.s (Value.string (ByteArray.mk #[])),C.s (Value.int IntKind.i64 (0:Int)),C.s (Value.int IntKind.i64 (0:Int)),C.s (Value.string (ByteArray.mk #[])),C.sl Ty.term [] true,C.sl Ty.rel [] true,C.s (Value.int IntKind.i64 (0:Int))]))] [(192,some ⟨(0:Nat),Ty.int,v11,some (0:Nat),true⟩),(193,some ⟨(0:Nat),Ty.rel,v12,some (0:Nat),true⟩)])
def uT_B6 : Code:=sub (bodyOf Tryz.f173) [1,1,1,1,0,1,2,2]
def uT_L6 (m:Nat) : S Un→Option (EX Un):=loopF (N_uT 6) (fun s Q=>awf (M_uT m) N_uT uT_B6 s Q)
def uT_C6 (m:Nat) : Exit→S Un→Option (RGF Un):=ctxF (M_uT m) N_uT (bodyOf Tryz.f173) [1,1,1,1,0,1,2] (retGF (M_uT m) 2 Tryz.f173.results.toList [.d,.m,.d])
def uT_fn (m:Nat) (t:Term) (down:Int) (depth:Int) (out:List Int) : Option (RGF Un):=awf (M_uT m) N_uT (bodyOf Tryz.f173) (entryG Tryz.f173.ntmps 2 [.agg (encC Ty.term t),.c (.s (.int .i64 down)),.c (.fc 174 [0,1])] [(false,[(.s (.int .i64 depth))]),(false,[.ob 0 0])] [⟨0,Ty.int,out,(some 0),true⟩]) (retGF (M_uT m) 2 Tryz.f173.results.toList [.d,.m,.d])
theorem uT_in (m:Nat) (t:Term) (down:Int) (depth:Int) (out:List Int) : uT_fn m t down depth out=cndO (t.op == 2) (obO (uCOK depth down out) (obO ((2:Nat)*htTs (uT_c1 t down depth out).fst.kids+(2:Nat)<m) (obO (uOK (uT_c1 t down depth out).snd.fst down (uT_c1 t down depth out).snd.snd (szTs (uT_c1 t down depth out).fst.kids)) (obO ((uT_c1 t down depth out).fst.sub.length≤(1000000000:Nat)) ((uT_L6 m (uT_s6 down (↑(uT_c1 t down depth out).fst.sub.length:Int) ((uT_c3 t down depth out).snd.fst) ((uT_c1 t down depth out).fst.op) ((uT_c1 t down depth out).fst.v.kind) ((uT_c1 t down depth out).fst.v.n) ((uT_c1 t down depth out).fst.v.s) ((uT_c1 t down depth out).fst.depth) ((uT_c1 t down depth out).fst.at_) ((uT_c1 t down depth out).fst.name) ((uT_c3 t down depth out).fst) ((uT_c1 t down depth out).fst.type) ((uT_c3 t down depth out).snd.snd) ((uT_c1 t down depth out).fst.sub) (0:Int))).bind (thenX (uT_C6 m))))))) (obO ((2:Nat)*htTs t.kids+(2:Nat)<m) (obO (uOK depth down out (szTs t.kids)) (obO (t.sub.length≤(1000000000:Nat)) ((uT_L6 m (uT_s6 down (↑t.sub.length:Int) ((uTs t.kids down depth out).snd.fst) t.op t.v.kind t.v.n t.v.s t.depth t.at_ t.name ((uTs t.kids down depth out).fst) t.type ((uTs t.kids down depth out).snd.snd) t.sub (0:Int))).bind (thenX (uT_C6 m)))))):=by kernel_rfl
theorem uT_l6 (m:Nat) (down:Int) (v0:Int) (v1:Int) (v2:Int) (v3:Int) (v4:Int) (v5:ByteArray) (v6:Int) (v7:Int) (v8:ByteArray) (v9:List Term) (v10:Int) (v11:List Int) (v12:List Rel) (v13:Int) : uT_L6 m (uT_s6 down v0 v1 v2 v3 v4 v5 v6 v7 v8 v9 v10 v11 v12 v13)=cndO (decide (v13<v0)) (obO (0≤v13∧v13<(↑v12.length:Int)) (obO ((2:Nat)*(Rel.ids (v12.getD v13.toNat zeroRel)).ht+(1:Nat)<m) (obO (uOK v1 (IntKind.i64.wrap (down+1)) v11 (Rel.ids (v12.getD v13.toNat zeroRel)).sz) (obO (0≤v13∧v13<(↑v12.length:Int)) (obO ((0:Nat)≤v13.toNat) (uT_L6 m (uT_s6 down v0 ((uT_c2 down v1 v11 v12 v13).snd.fst) v2 v3 v4 v5 v6 v7 v8 v9 v10 ((uT_c2 down v1 v11 v12 v13).snd.snd) (v12.set v13.toNat (Rel.mk (uT_c2 down v1 v11 v12 v13).fst.op (uT_c2 down v1 v11 v12 v13).fst.table (uT_c2 down v1 v11 v12 v13).fst.cols (uT_c2 down v1 v11 v12 v13).fst.kids (uT_c2 down v1 v11 v12 v13).fst.terms (uT_c2 down v1 v11 v12 v13).fst.aggs (uT_c2 down v1 v11 v12 v13).fst.keys (uT_c2 down v1 v11 v12 v13).fst.limit (uT_c2 down v1 v11 v12 v13).fst.skip (uT_c2 down v1 v11 v12 v13).fst.all (uT_c2 down v1 v11 v12 v13).fst.rows)) (IntKind.i64.wrap (v13+1))))))))) (some (.exit 0,(uT_s6 down v0 v1 v2 v3 v4 v5 v6 v7 v8 v9 v10 v11 v12 v13))):=(loopF_eq (N_uT 6) uT_B6 _).trans (by kernel_rfl)
theorem uT_a6_x0 (m:Nat) (down:Int) (v0:Int) (v1:Int) (v2:Int) (v3:Int) (v4:Int) (v5:ByteArray) (v6:Int) (v7:Int) (v8:ByteArray) (v9:List Term) (v10:Int) (v11:List Int) (v12:List Rel) (v13:Int) : uT_C6 m (.exit 0) (uT_s6 down v0 v1 v2 v3 v4 v5 v6 v7 v8 v9 v10 v11 v12 v13)=some (R_uT (Term.mk v2 { kind:=v3,n:=v4,s:=v5 } v6 v7 v8 v9 v12 v10,v1,v11)):=by kernel_rfl
theorem uT_loop (m:Nat) (down depth v2 v3 v4:Int) (v5:ByteArray) (v6 v7:Int) (v8:ByteArray) (v9:List Term) (v10:Int) (s:List Rel) (out:List Int) (hl:s.length≤9223372036854775807) (hm:2*htRs s+1<m) (h:uOK depth (down+1) out (szRs s)) (h0:0≤down) :
    uT_L6 m (uT_s6 down (s.length:Int) depth v2 v3 v4 v5 v6 v7 v8 v9 v10 out s (0:Int))=some (.exit 0,uT_s6 down (s.length:Int) depth v2 v3 v4 v5 v6 v7 v8 v9 v10 (out++inRs (depth+(down+1)) s) s (s.length:Int)):=by
  obtain⟨h1,h2,h3⟩:=h
  have hw:IntKind.i64.wrap (down+1)=down+1:=wrap_id (by omega)
  have:=(loop_fold (e:=.exit 0) (L:=uT_L6 m) (st:=fun o i=>uT_s6 down (s.length:Int) depth v2 v3 v4 v5 v6 v7 v8 v9 v10 o s i) (l:=s) (d:=zeroRel) (g:=fun o x=>o++inR (depth+(down+1)) x) (fun i o=>o.length+szRs (s.drop i)≤2000000) hl
    (fun o i x hi hx hI=>by
      have hil:i<s.length:=by omega
      have hd:=drop_getD (d:=zeroRel) hil
      have hI':o.length+szRs (s.drop i)≤2000000:=hI
      have hmem:x∈s:=by rw[← hx];exact getD_mem hil
      have hsz:=szRs_mem hmem
      have hht:=htRs_mem hmem
      have hlen:=inR_len (depth+(down+1)) x
      rw[hd,hx] at hI'
      simp only[szRs] at hI'
      refine⟨by show (o++inR (depth+(down+1)) x).length+szRs (s.drop (i+1))≤2000000;rw[List.length_append];omega,?_⟩
      rw[uT_l6]
      simp only[uT_c2,rel_eta,Rel.ids_eq,cndO_eq,hi,decide_true,if_true,and_true,Int.toNat_natCast,hx,hw]
      rw[obO_pos (by omega),obO_pos (by omega),obO_pos (show uOK _ _ _ _ from ⟨h1,by omega,by omega⟩),obO_pos (by omega),obO_pos (by omega)]
      simp only[uR,rel_eta]
      rw[← hx,set_getD hil])
    (fun o _=>by rw[uT_l6];simp [cndO_eq]) out (by show out.length+szRs (s.drop 0)≤2000000;rw[List.drop_zero];omega)).1
  rw[inRs_fold] at this
  exact this
theorem uT_spec (m:Nat) (t:Term) (down depth:Int) (out:List Int) (ht:WS .term t) (_hd:WI down) (_ho:WL .int out) (hm:2*t.ht+1<m+1) (h:uOK depth down out t.sz) : uT_fn m t down depth out=some (R_uT (uT t down depth out)):=by
  obtain⟨h1,h2,h3⟩:=h
  have hsz:=t.sz_eq
  have hk:htTs t.kids<t.ht∧htRs t.sub<t.ht:=by cases t;simp only[Term.ht,Term.kids_mk,Term.sub_mk];omega
  have hsl:=szRs_len t.sub
  have key:∀ o1 : List Int,o1.length+szTs t.kids+szRs t.sub≤2000000 →
      (uT_L6 m (uT_s6 down (t.sub.length:Int) depth t.op t.v.kind t.v.n t.v.s t.depth t.at_ t.name t.kids t.type (o1++inTs (depth+down) t.kids) t.sub (0:Int))).bind (thenX (uT_C6 m))=some (R_uT (t,depth,o1++inTs (depth+down) t.kids++inRs (depth+down+1) t.sub)):=by
    intro o1 ho1
    have hkl:=inTs_len (depth+down) t.kids
    rw[loop_end (uT_loop m down depth _ _ _ _ _ _ _ _ _ t.sub _ (by have:=(ht.term_sub).len;exact this) (by omega) ⟨h1,by omega,by rw[List.length_append];omega⟩ h2.1),uT_a6_x0]
    rw[← Int.add_assoc]
    have : (⟨t.v.kind,t.v.n,t.v.s⟩ : Val)=t.v:=rfl
    rw[this,term_eta]
  rw[uT_in]
  simp only[uT_c1,uT_c3,term_eta,uC,uTs,cndO_eq,beq_iff_eq]
  unfold uT
  rw[inT_eq]
  by_cases ho : t.op=2
  · rw[if_pos ho,obO_pos (show uCOK _ _ _ from ⟨h1,by omega,by omega⟩),obO_pos (by omega)]
    obtain⟨o1,he1⟩ : ∃ o1,o1=if t.depth=depth+down then out++[t.at_] else out:=⟨_,rfl⟩
    have hl1:o1.length≤out.length+1:=by rw[he1];split<;>simp
    rw[← he1,obO_pos (show uOK _ _ _ _ from ⟨h1,by omega,by omega⟩),obO_pos (by omega),key o1 (by omega),he1]
    congr 3
    by_cases hd : t.depth=depth+down
    · simp [ho,hd]
    · simp [hd]
  · rw[if_neg ho,obO_pos (by omega),obO_pos (show uOK _ _ _ _ from ⟨h1,by omega,by omega⟩),obO_pos (by omega),key out (by omega)]
    simp [ho]
theorem okGm_uT (m:Nat) (h_uT:GnOK 173 (Gm_uT m)) (h_uTs:GnOK 180 (Gm_uTs m)) (h_uR:GnOK 181 (Gm_uR m)) : GnOK 173 (Gm_uT (m+1)):=by
  intro args bxs os ob rs bxs' os' h hob
  unfold Gm_uT at h
  dsimp only at h
  split at h
  · rename_i x0 x1 cells0 cells1 o0
    split at h
    · rename_i c0_depth ec0 ec1
      simp only[Option.bind_eq_some_iff,Option.some.injEq,Prod.mk.injEq] at h
      obtain⟨t,e0,down,e1,depth,e2,out,e3,rfl,rfl,rfl,rfl⟩:=h
      obtain rfl:=aS_eq e0
      obtain rfl:=aI_eq e1
      have q2:=aI_eq e2
      have q3:=oM_eq e3
      refine⟨GContract.weak ?_,hasBody_of Tryz.func173 (by kernel_rfl) (by kernel_rfl)⟩
      simp only[List.map_cons,List.map_nil,ec0,ec1]
      have hb:[(false,[c0_depth]),(false,[(C.ob 0 0 : C Un)])]=[(false,[(.s (.int .i64 depth))]),(false,[.ob 0 0])]:=by
        simp only[A.c.injEq,A.agg.injEq] at q2
        simp only[q2]
        all_goals rfl
      rw[hb]
      rw[q3]
      refine gn_contract (M:=(M_uT m)) rfl (nb:=2) rfl (tbl_ok (l1:=[(97,F_clone_rel)]) (l2:=[]) (l3:=[]) (l4:=[(180,Gm_uTs m),(181,Gm_uR m),(174,G_uC)]) (l5:=[]) ⟨ok_clone_rel,trivial⟩ trivial trivial ⟨h_uTs,h_uR,okG_uC,trivial⟩ trivial) Tryz.func173 (by kernel_rfl) N_uT 2 [.d,.m,.d] (fun ha hb ho=>?_)
      have hsp:=uT_spec m t down depth out (wfArgA ha (a:=.agg (encC Ty.term t)) (by simp)) (wfArgA ha (a:=.c (.s (.int .i64 down))) (by simp)) (wfObs (τ:=.int) (l:=out) (fr:=some 0) ho (by simp)) (hob _ (List.mem_of_getElem? (i:=0) rfl)) (hob _ (List.mem_of_getElem? (i:=1) rfl))
      exact runG_of_awf (r:=(_,_,_)) hsp
    · simp at h
  · simp at h
def M_uTs (m:Nat) : Mc Un:=mach (tbl [(98,F_clone_term)]) (tbl []) (tbl []) (tbl [(173,Gm_uT m),(174,G_uC)]) (tbl [])
def R_uTs (r:List Term×Int×List Int) : RGF Un:=(A_uTs r,B_uTs r,O_uTs r)
def N_uTs : Nat→NS:=fun l=>(look l [(3,{ ts:=bl 27 6151,bs:=bl 29 3,nm:=[(.sl 0,116),(.cell 1 0,117)] })]).getD ⟨[],[],[],[],[],false⟩
def uTs_s3 (l:List Term) (down:Int) (v0:Int) (v1:Int) (v2:List Term) (v3:List Int) : S Un:=(st 27 29 118 2 [(0,ao 116),(1,ai down),(2,AV.one (A.c (C.fc (174:Nat) [(0:Nat),(1:Nat)]))),(11,ai (↑l.length:Int)),(12,ai v0)] [(0,bi v1),(1,bo 117)] [(116,some ⟨(0:Nat),Ty.term,v2,some (0:Nat),true⟩),(117,some ⟨(0:Nat),Ty.int,v3,some (0:Nat),true⟩)])
def uTs_B3 : Code:=sub (bodyOf Tryz.f180) [1,1,0,1,2,2]
def uTs_L3 (m:Nat) : S Un→Option (EX Un):=loopF (N_uTs 3) (fun s Q=>awf (M_uTs m) N_uTs uTs_B3 s Q)
def uTs_C3 (m:Nat) : Exit→S Un→Option (RGF Un):=ctxF (M_uTs m) N_uTs (bodyOf Tryz.f180) [1,1,0,1,2] (retGF (M_uTs m) 2 Tryz.f180.results.toList [.d,.m,.d])
def uTs_fn (m:Nat) (l:List Term) (down:Int) (depth:Int) (out:List Int) : Option (RGF Un):=awf (M_uTs m) N_uTs (bodyOf Tryz.f180) (entryG Tryz.f180.ntmps 2 [.c (.sl (U:=Un) Ty.term l false),.c (.s (.int .i64 down)),.c (.fc 174 [0,1])] [(false,[(.s (.int .i64 depth))]),(false,[.ob 0 0])] [⟨0,Ty.int,out,(some 0),true⟩]) (retGF (M_uTs m) 2 Tryz.f180.results.toList [.d,.m,.d])
theorem uTs_in (m:Nat) (l:List Term) (down:Int) (depth:Int) (out:List Int) : uTs_fn m l down depth out=obO (l.length≤(1000000000:Nat)) ((uTs_L3 m (uTs_s3 l down (0:Int) depth l out)).bind (thenX (uTs_C3 m))):=by kernel_rfl
theorem uTs_l3 (m:Nat) (l:List Term) (down:Int) (v0:Int) (v1:Int) (v2:List Term) (v3:List Int) : uTs_L3 m (uTs_s3 l down v0 v1 v2 v3)=cndO (decide (v0<(↑l.length:Int))) (obO (0≤v0∧v0<(↑v2.length:Int)) (obO ((2:Nat)*(Term.ids (v2.getD v0.toNat zeroTerm)).ht+(1:Nat)<m) (obO (uOK v1 down v3 (Term.ids (v2.getD v0.toNat zeroTerm)).sz) (obO (0≤v0∧v0<(↑v2.length:Int)) (obO ((0:Nat)≤v0.toNat) (uTs_L3 m (uTs_s3 l down (IntKind.i64.wrap (v0+1)) ((uT (Term.ids (v2.getD v0.toNat zeroTerm)) down v1 v3).snd.fst) (v2.set v0.toNat (Term.mk (uT (Term.ids (v2.getD v0.toNat zeroTerm)) down v1 v3).fst.op (uT (Term.ids (v2.getD v0.toNat zeroTerm)) down v1 v3).fst.v (uT (Term.ids (v2.getD v0.toNat zeroTerm)) down v1 v3).fst.depth (uT (Term.ids (v2.getD v0.toNat zeroTerm)) down v1 v3).fst.at_ (uT (Term.ids (v2.getD v0.toNat zeroTerm)) down v1 v3).fst.name (uT (Term.ids (v2.getD v0.toNat zeroTerm)) down v1 v3).fst.kids (uT (Term.ids (v2.getD v0.toNat zeroTerm)) down v1 v3).fst.sub (uT (Term.ids (v2.getD v0.toNat zeroTerm)) down v1 v3).fst.type)) ((uT (Term.ids (v2.getD v0.toNat zeroTerm)) down v1 v3).snd.snd)))))))) (some (.exit 0,(uTs_s3 l down v0 v1 v2 v3))):=(loopF_eq (N_uTs 3) uTs_B3 _).trans (by kernel_rfl)
theorem uTs_a3_x0 (m:Nat) (l:List Term) (down:Int) (v0:Int) (v1:Int) (v2:List Term) (v3:List Int) : uTs_C3 m (.exit 0) (uTs_s3 l down v0 v1 v2 v3)=some (R_uTs (v2,v1,v3)):=by kernel_rfl
theorem uTs_spec (m:Nat) (l:List Term) (down depth:Int) (out:List Int) (hl:WL .term l) (_hd:WI down) (_ho:WL .int out) (hm:2*htTs l+2<m+1) (h:uOK depth down out (szTs l)) : uTs_fn m l down depth out=some (R_uTs (uTs l down depth out)):=by
  obtain⟨h1,h2,h3⟩:=h
  have hsl:=szTs_len l
  have:=(loop_fold (e:=.exit 0) (L:=uTs_L3 m) (st:=fun o i=>uTs_s3 l down i depth l o) (l:=l) (d:=zeroTerm) (g:=fun o x=>o++inT (depth+down) x) (fun i o=>o.length+szTs (l.drop i)≤2000000) hl.len
    (fun o i x hi hx hI=>by
      have hil:i<l.length:=by omega
      have hd:=drop_getD (d:=zeroTerm) hil
      have hI':o.length+szTs (l.drop i)≤2000000:=hI
      have hmem:x∈l:=by rw[← hx];exact getD_mem hil
      have hsz:=szTs_mem hmem
      have hht:=htTs_mem hmem
      have hlen:=inT_len (depth+down) x
      rw[hd,hx] at hI'
      simp only[szTs] at hI'
      refine⟨by show (o++inT (depth+down) x).length+szTs (l.drop (i+1))≤2000000;rw[List.length_append];omega,?_⟩
      rw[uTs_l3]
      simp only[Term.ids_eq,cndO_eq,hi,decide_true,if_true,and_true,Int.toNat_natCast,hx]
      rw[obO_pos (by omega),obO_pos (by omega),obO_pos (show uOK _ _ _ _ from ⟨h1,by omega,by omega⟩),obO_pos (by omega),obO_pos (by omega)]
      simp only[uT,term_eta]
      rw[← hx,set_getD hil])
    (fun o _=>by rw[uTs_l3];simp [cndO_eq]) out (by show out.length+szTs (l.drop 0)≤2000000;rw[List.drop_zero];omega)).1
  rw[inTs_fold] at this
  rw[uTs_in,obO_pos (by omega),loop_end this,uTs_a3_x0]
  rfl
theorem okGm_uTs (m:Nat) (h_uT:GnOK 173 (Gm_uT m)) (h_uTs:GnOK 180 (Gm_uTs m)) (h_uR:GnOK 181 (Gm_uR m)) : GnOK 180 (Gm_uTs (m+1)):=by
  intro args bxs os ob rs bxs' os' h hob
  unfold Gm_uTs at h
  dsimp only at h
  split at h
  · rename_i x0 x1 cells0 cells1 o0
    split at h
    · rename_i c0_depth ec0 ec1
      simp only[Option.bind_eq_some_iff,Option.some.injEq,Prod.mk.injEq] at h
      obtain⟨l,e0,down,e1,depth,e2,out,e3,rfl,rfl,rfl,rfl⟩:=h
      obtain rfl:=aL_eq e0
      obtain rfl:=aI_eq e1
      have q2:=aI_eq e2
      have q3:=oM_eq e3
      refine⟨GContract.weak ?_,hasBody_of Tryz.func180 (by kernel_rfl) (by kernel_rfl)⟩
      simp only[List.map_cons,List.map_nil,ec0,ec1]
      have hb:[(false,[c0_depth]),(false,[(C.ob 0 0 : C Un)])]=[(false,[(.s (.int .i64 depth))]),(false,[.ob 0 0])]:=by
        simp only[A.c.injEq,A.agg.injEq] at q2
        simp only[q2]
        all_goals rfl
      rw[hb]
      rw[q3]
      refine gn_contract (M:=(M_uTs m)) rfl (nb:=2) rfl (tbl_ok (l1:=[(98,F_clone_term)]) (l2:=[]) (l3:=[]) (l4:=[(173,Gm_uT m),(174,G_uC)]) (l5:=[]) ⟨ok_clone_term,trivial⟩ trivial trivial ⟨h_uT,okG_uC,trivial⟩ trivial) Tryz.func180 (by kernel_rfl) N_uTs 2 [.d,.m,.d] (fun ha hb ho=>?_)
      have hsp:=uTs_spec m l down depth out (wfArgA ha (a:=.c (.sl (U:=Un) Ty.term l false)) (by simp)) (wfArgA ha (a:=.c (.s (.int .i64 down))) (by simp)) (wfObs (τ:=.int) (l:=out) (fr:=some 0) ho (by simp)) (hob _ (List.mem_of_getElem? (i:=0) rfl)) (hob _ (List.mem_of_getElem? (i:=1) rfl))
      exact runG_of_awf (r:=(_,_,_)) hsp
    · simp at h
  · simp at h
def M_uR (m:Nat) : Mc Un:=mach (tbl [(47,F_clone_agg),(97,F_clone_rel)]) (tbl []) (tbl []) (tbl [(180,Gm_uTs m),(181,Gm_uR m),(174,G_uC)]) (tbl [])
def R_uR (r:Rel×Int×List Int) : RGF Un:=(A_uR r,B_uR r,O_uR r)
def N_uR : Nat→NS:=fun l=>(look l [(4,{ ts:=bl 64 6291534,bs:=bl 66 291,nm:=[(.cell 1 0,264),(.cell 5 5,265)] }),(10,{ ts:=bl 64 211106232533070,bs:=bl 66 291,nm:=[(.cell 5 3,266),(.cell 1 0,267),(.cell 5 5,268)] })]).getD ⟨[],[],[],[],[],false⟩
def uR_c1 (down:Int) (v1:Int) (v2:List Int) (v4:Int) (v5:List Rel):=uR (Rel.mk (Rel.op (v5.getD v4.toNat zeroRel)) (Rel.table (v5.getD v4.toNat zeroRel)) (Rel.cols (v5.getD v4.toNat zeroRel)) (Rel.kids (v5.getD v4.toNat zeroRel)) (Rel.terms (v5.getD v4.toNat zeroRel)) (Rel.aggs (v5.getD v4.toNat zeroRel)) (Rel.keys (v5.getD v4.toNat zeroRel)) (Rel.limit (v5.getD v4.toNat zeroRel)) (Rel.skip (v5.getD v4.toNat zeroRel)) (Rel.all (v5.getD v4.toNat zeroRel)) (Rel.rows (v5.getD v4.toNat zeroRel))) down v1 v2
def uR_s4 (r:Rel) (down:Int) (depth:Int) (out:List Int) (v0:Int) (v1:Int) (v2:List Int) (v3:List Agg) : S Un:=(st 64 66 269 2 [(1,ai down),(2,AV.one (A.c (C.fc (174:Nat) [(0:Nat),(1:Nat)]))),(3,ax 5),(6,ax 8),(21,ai (↑r.aggs.length:Int)),(22,ai v0)] [(0,bi v1),(1,bo 264),(5,some (false,[C.s (Value.int IntKind.i64 r.op),C.s (Value.string r.table),C.sl Ty.col r.cols false,C.sl Ty.rel r.kids false,C.sl Ty.term (uTs r.terms down depth out).fst false,C.ob (265:Nat) (0:Nat),C.sl Ty.by_ r.keys false,C.s (Value.int IntKind.i64 r.limit),C.s (Value.int IntKind.i64 r.skip),C.s (Value.bool r.all),C.sl Ty.row r.rows false])),(8,some (false,[C.s (Value.int IntKind.i64 (0:Int)),C.s (Value.string (ByteArray.mk #[])),C.sl Ty.col [] true,C.sl Ty.rel [] true,C.sl Ty.term [] true,C.sl Ty.agg [] true,C.sl Ty.by_ [] true,C.s (Value.int IntKind.i64 (0:Int)),C.s (Value.int IntKind.i64 (0:Int)),C.s (Value.bool false),C.sl Ty.row [] true]))] [(264,some ⟨(0:Nat),Ty.int,v2,some (0:Nat),true⟩),(265,some ⟨(0:Nat),Ty.agg,v3,some (0:Nat),true⟩)])
def uR_s10 (r:Rel) (down:Int) (depth:Int) (out:List Int) (v1:Int) (v2:List Int) (v3:List Agg) (v4:Int) (v5:List Rel) : S Un:=(st 64 66 269 2 [(1,ai down),(2,AV.one (A.c (C.fc (174:Nat) [(0:Nat),(1:Nat)]))),(3,ax 5),(6,ax 8),(46,ai (↑r.kids.length:Int)),(47,ai v4)] [(0,bi v1),(1,bo 267),(5,some (false,[C.s (Value.int IntKind.i64 r.op),C.s (Value.string r.table),C.sl Ty.col r.cols false,C.ob (266:Nat) (0:Nat),C.sl Ty.term (uTs r.terms down depth out).fst false,C.ob (268:Nat) (0:Nat),C.sl Ty.by_ r.keys false,C.s (Value.int IntKind.i64 r.limit),C.s (Value.int IntKind.i64 r.skip),C.s (Value.bool r.all),C.sl Ty.row r.rows false])),(8,some (false,[C.s (Value.int IntKind.i64 (0:Int)),C.s (Value.string (ByteArray.mk #[])),C.sl Ty.col [] true,C.sl Ty.rel [] true,C.sl Ty.term [] true,C.sl Ty.agg [] true,C.sl Ty.by_ [] true,C.s (Value.int IntKind.i64 (0:Int)),C.s (Value.int IntKind.i64 (0:Int)),C.s (Value.bool false),C.sl Ty.row [] true]))] [(266,some ⟨(0:Nat),Ty.rel,v5,some (0:Nat),true⟩),(267,some ⟨(0:Nat),Ty.int,v2,some (0:Nat),true⟩),(268,some ⟨(0:Nat),Ty.agg,v3,some (0:Nat),true⟩)])
def uR_B4 : Code:=sub (bodyOf Tryz.f181) [1,1,1,0,1,2,2]
def uR_L4 (m:Nat) : S Un→Option (EX Un):=loopF (N_uR 4) (fun s Q=>awf (M_uR m) N_uR uR_B4 s Q)
def uR_B10 : Code:=sub (bodyOf Tryz.f181) [1,1,1,1,1,0,1,2,2]
def uR_L10 (m:Nat) : S Un→Option (EX Un):=loopF (N_uR 10) (fun s Q=>awf (M_uR m) N_uR uR_B10 s Q)
def uR_C4 (m:Nat) : Exit→S Un→Option (RGF Un):=ctxF (M_uR m) N_uR (bodyOf Tryz.f181) [1,1,1,0,1,2] (retGF (M_uR m) 2 Tryz.f181.results.toList [.d,.m,.d])
def uR_C10 (m:Nat) : Exit→S Un→Option (RGF Un):=ctxF (M_uR m) N_uR (bodyOf Tryz.f181) [1,1,1,1,1,0,1,2] (retGF (M_uR m) 2 Tryz.f181.results.toList [.d,.m,.d])
def uR_fn (m:Nat) (r:Rel) (down:Int) (depth:Int) (out:List Int) : Option (RGF Un):=awf (M_uR m) N_uR (bodyOf Tryz.f181) (entryG Tryz.f181.ntmps 5 [.agg (encC Ty.rel r),.c (.s (.int .i64 down)),.c (.fc 174 [0,1])] [(false,[(.s (.int .i64 depth))]),(false,[.ob 0 0])] [⟨0,Ty.int,out,(some 0),true⟩]) (retGF (M_uR m) 2 Tryz.f181.results.toList [.d,.m,.d])
theorem uR_in (m:Nat) (r:Rel) (down:Int) (depth:Int) (out:List Int) : uR_fn m r down depth out=obO ((2:Nat)*htTs r.terms+(2:Nat)<m) (obO (uOK depth down out (szTs r.terms)) (obO (r.aggs.length≤(1000000000:Nat)) ((uR_L4 m (uR_s4 r down depth out (0:Int) ((uTs r.terms down depth out).snd.fst) ((uTs r.terms down depth out).snd.snd) r.aggs)).bind (thenX (uR_C4 m))))):=by kernel_rfl
theorem uR_l4 (m:Nat) (r:Rel) (down:Int) (depth:Int) (out:List Int) (v0:Int) (v1:Int) (v2:List Int) (v3:List Agg) : uR_L4 m (uR_s4 r down depth out v0 v1 v2 v3)=cndO (decide (v0<(↑r.aggs.length:Int))) (obO (0≤v0∧v0<(↑v3.length:Int)) (obO ((2:Nat)*htTs (Agg.t (v3.getD v0.toNat zeroAgg))+(2:Nat)<m) (obO (uOK v1 down v2 (szTs (Agg.t (v3.getD v0.toNat zeroAgg)))) (obO (0≤v0∧v0<(↑v3.length:Int)) (obO ((0:Nat)≤v0.toNat) (uR_L4 m (uR_s4 r down depth out (IntKind.i64.wrap (v0+1)) ((uTs (Agg.t (v3.getD v0.toNat zeroAgg)) down v1 v2).snd.fst) ((uTs (Agg.t (v3.getD v0.toNat zeroAgg)) down v1 v2).snd.snd) (v3.set v0.toNat (Agg.mk (Agg.name (v3.getD v0.toNat zeroAgg)) (Agg.distinct (v3.getD v0.toNat zeroAgg)) (uTs (Agg.t (v3.getD v0.toNat zeroAgg)) down v1 v2).fst))))))))) (some (.exit 0,(uR_s4 r down depth out v0 v1 v2 v3))):=(loopF_eq (N_uR 4) uR_B4 _).trans (by kernel_rfl)
theorem uR_a4_x0 (m:Nat) (r:Rel) (down:Int) (depth:Int) (out:List Int) (v0:Int) (v1:Int) (v2:List Int) (v3:List Agg) : uR_C4 m (.exit 0) (uR_s4 r down depth out v0 v1 v2 v3)=obO (r.kids.length≤(1000000000:Nat)) ((uR_L10 m (uR_s10 r down depth out v1 v2 v3 (0:Int) r.kids)).bind (thenX (uR_C10 m))):=by kernel_rfl
theorem uR_l10 (m:Nat) (r:Rel) (down:Int) (depth:Int) (out:List Int) (v1:Int) (v2:List Int) (v3:List Agg) (v4:Int) (v5:List Rel) : uR_L10 m (uR_s10 r down depth out v1 v2 v3 v4 v5)=cndO (decide (v4<(↑r.kids.length:Int))) (obO (0≤v4∧v4<(↑v5.length:Int)) (obO ((2:Nat)*(Rel.ids (v5.getD v4.toNat zeroRel)).ht+(1:Nat)<m) (obO (uOK v1 down v2 (Rel.ids (v5.getD v4.toNat zeroRel)).sz) (obO (0≤v4∧v4<(↑v5.length:Int)) (obO ((0:Nat)≤v4.toNat) (uR_L10 m (uR_s10 r down depth out ((uR_c1 down v1 v2 v4 v5).snd.fst) ((uR_c1 down v1 v2 v4 v5).snd.snd) v3 (IntKind.i64.wrap (v4+1)) (v5.set v4.toNat (Rel.mk (uR_c1 down v1 v2 v4 v5).fst.op (uR_c1 down v1 v2 v4 v5).fst.table (uR_c1 down v1 v2 v4 v5).fst.cols (uR_c1 down v1 v2 v4 v5).fst.kids (uR_c1 down v1 v2 v4 v5).fst.terms (uR_c1 down v1 v2 v4 v5).fst.aggs (uR_c1 down v1 v2 v4 v5).fst.keys (uR_c1 down v1 v2 v4 v5).fst.limit (uR_c1 down v1 v2 v4 v5).fst.skip (uR_c1 down v1 v2 v4 v5).fst.all (uR_c1 down v1 v2 v4 v5).fst.rows))))))))) (some (.exit 2,(uR_s10 r down depth out v1 v2 v3 v4 v5))):=(loopF_eq (N_uR 10) uR_B10 _).trans (by kernel_rfl)
theorem uR_a10_x2 (m:Nat) (r:Rel) (down:Int) (depth:Int) (out:List Int) (v1:Int) (v2:List Int) (v3:List Agg) (v4:Int) (v5:List Rel) : uR_C10 m (.exit 2) (uR_s10 r down depth out v1 v2 v3 v4 v5)=some (R_uR (Rel.mk r.op r.table r.cols v5 (uTs r.terms down depth out).fst v3 r.keys r.limit r.skip r.all r.rows,v1,v2)):=by kernel_rfl
theorem uR_spec (m:Nat) (r:Rel) (down depth:Int) (out:List Int) (hr:WS .rel r) (_hd:WI down) (_ho:WL .int out) (hm:2*r.ht+1<m+1) (h:uOK depth down out r.sz) : uR_fn m r down depth out=some (R_uR (uR r down depth out)):=by
  obtain⟨h1,h2,h3⟩:=h
  have hsz:=r.sz_eq
  have hk:htTs r.terms<r.ht∧htAs r.aggs<r.ht∧htRs r.kids<r.ht:=by cases r;simp only[Rel.ht,Rel.kids_mk,Rel.terms_mk,Rel.aggs_mk];omega
  have hal:=szAs_len r.aggs
  have hkl:=szRs_len r.kids
  have htl:=inTs_len (depth+down) r.terms
  have hail:=inAs_len (depth+down) r.aggs
  have l4:=(loop_fold (e:=.exit 0) (L:=uR_L4 m) (st:=fun o i=>uR_s4 r down depth out i depth o r.aggs) (l:=r.aggs) (d:=zeroAgg) (g:=fun o x=>o++inA (depth+down) x) (fun i o=>o.length+szAs (r.aggs.drop i)+szRs r.kids≤2000000) (hr.rel_aggs).len
    (fun o i x hi hx hI=>by
      have hil:i<r.aggs.length:=by omega
      have hd:=drop_getD (d:=zeroAgg) hil
      have hI':o.length+szAs (r.aggs.drop i)+szRs r.kids≤2000000:=hI
      have hmem:x∈r.aggs:=by rw[← hx];exact getD_mem hil
      have hsz:=szAs_mem hmem
      have hxs:=x.sz_eq
      have hht:=htAs_mem hmem
      have hxh:htTs x.t<x.ht:=by cases x;simp only[Agg.ht,Agg.t_mk];omega
      have hlen:=inA_len (depth+down) x
      rw[hd,hx] at hI'
      simp only[szAs] at hI'
      refine⟨by show (o++inA (depth+down) x).length+szAs (r.aggs.drop (i+1))+szRs r.kids≤2000000;rw[List.length_append];omega,?_⟩
      rw[uR_l4]
      simp only[cndO_eq,hi,decide_true,if_true,and_true,Int.toNat_natCast,hx]
      rw[obO_pos (by omega),obO_pos (by omega),obO_pos (show uOK _ _ _ _ from ⟨h1,by omega,by omega⟩),obO_pos (by omega),obO_pos (by omega)]
      simp only[uTs,agg_eta,inA_eq]
      rw[← hx,set_getD hil])
    (fun o _=>by rw[uR_l4];simp [cndO_eq]) (out++inTs (depth+down) r.terms) (by show (out++inTs (depth+down) r.terms).length+szAs (r.aggs.drop 0)+szRs r.kids≤2000000;rw[List.drop_zero,List.length_append];omega)).1
  rw[inAs_fold] at l4
  have l10:=(loop_fold (e:=.exit 2) (L:=uR_L10 m) (st:=fun o i=>uR_s10 r down depth out depth o r.aggs i r.kids) (l:=r.kids) (d:=zeroRel) (g:=fun o x=>o++inR (depth+down) x) (fun i o=>o.length+szRs (r.kids.drop i)≤2000000) (hr.rel_kids).len
    (fun o i x hi hx hI=>by
      have hil:i<r.kids.length:=by omega
      have hd:=drop_getD (d:=zeroRel) hil
      have hI':o.length+szRs (r.kids.drop i)≤2000000:=hI
      have hmem:x∈r.kids:=by rw[← hx];exact getD_mem hil
      have hsz:=szRs_mem hmem
      have hht:=htRs_mem hmem
      have hlen:=inR_len (depth+down) x
      rw[hd,hx] at hI'
      simp only[szRs] at hI'
      refine⟨by show (o++inR (depth+down) x).length+szRs (r.kids.drop (i+1))≤2000000;rw[List.length_append];omega,?_⟩
      rw[uR_l10]
      simp only[uR_c1,rel_eta,Rel.ids_eq,cndO_eq,hi,decide_true,if_true,and_true,Int.toNat_natCast,hx]
      rw[obO_pos (by omega),obO_pos (by omega),obO_pos (show uOK _ _ _ _ from ⟨h1,by omega,by omega⟩),obO_pos (by omega),obO_pos (by omega)]
      simp only[uR,rel_eta]
      rw[← hx,set_getD hil])
    (fun o _=>by rw[uR_l10];simp [cndO_eq]) (out++inTs (depth+down) r.terms++inAs (depth+down) r.aggs) (by show (out++inTs (depth+down) r.terms++inAs (depth+down) r.aggs).length+szRs (r.kids.drop 0)≤2000000;rw[List.drop_zero,List.length_append,List.length_append];omega)).1
  rw[inRs_fold] at l10
  rw[uR_in]
  simp only[uTs]
  rw[obO_pos (by omega),obO_pos (show uOK _ _ _ _ from ⟨h1,by omega,by omega⟩),obO_pos (by omega),loop_end l4,uR_a4_x0,obO_pos (by omega),loop_end l10,uR_a10_x2]
  simp only[uTs,rel_eta]
  unfold uR
  rw[inR_eq]
  simp only[List.append_assoc]
theorem okGm_uR (m:Nat) (h_uT:GnOK 173 (Gm_uT m)) (h_uTs:GnOK 180 (Gm_uTs m)) (h_uR:GnOK 181 (Gm_uR m)) : GnOK 181 (Gm_uR (m+1)):=by
  intro args bxs os ob rs bxs' os' h hob
  unfold Gm_uR at h
  dsimp only at h
  split at h
  · rename_i x0 x1 cells0 cells1 o0
    split at h
    · rename_i c0_depth ec0 ec1
      simp only[Option.bind_eq_some_iff,Option.some.injEq,Prod.mk.injEq] at h
      obtain⟨r,e0,down,e1,depth,e2,out,e3,rfl,rfl,rfl,rfl⟩:=h
      obtain rfl:=aS_eq e0
      obtain rfl:=aI_eq e1
      have q2:=aI_eq e2
      have q3:=oM_eq e3
      refine⟨GContract.weak ?_,hasBody_of Tryz.func181 (by kernel_rfl) (by kernel_rfl)⟩
      simp only[List.map_cons,List.map_nil,ec0,ec1]
      have hb:[(false,[c0_depth]),(false,[(C.ob 0 0 : C Un)])]=[(false,[(.s (.int .i64 depth))]),(false,[.ob 0 0])]:=by
        simp only[A.c.injEq,A.agg.injEq] at q2
        simp only[q2]
        all_goals rfl
      rw[hb]
      rw[q3]
      refine gn_contract (M:=(M_uR m)) rfl (nb:=2) rfl (tbl_ok (l1:=[(47,F_clone_agg),(97,F_clone_rel)]) (l2:=[]) (l3:=[]) (l4:=[(180,Gm_uTs m),(181,Gm_uR m),(174,G_uC)]) (l5:=[]) ⟨ok_clone_agg,ok_clone_rel,trivial⟩ trivial trivial ⟨h_uTs,h_uR,okG_uC,trivial⟩ trivial) Tryz.func181 (by kernel_rfl) N_uR 5 [.d,.m,.d] (fun ha hb ho=>?_)
      have hsp:=uR_spec m r down depth out (wfArgA ha (a:=.agg (encC Ty.rel r)) (by simp)) (wfArgA ha (a:=.c (.s (.int .i64 down))) (by simp)) (wfObs (τ:=.int) (l:=out) (fr:=some 0) ho (by simp)) (hob _ (List.mem_of_getElem? (i:=0) rfl)) (hob _ (List.mem_of_getElem? (i:=1) rfl))
      exact runG_of_awf (r:=(_,_,_)) hsp
    · simp at h
  · simp at h
theorem okAll_uG : ∀ m,GnOK 173 (Gm_uT m)∧GnOK 180 (Gm_uTs m)∧GnOK 181 (Gm_uR m)
  | 0=>by
    refine⟨?_,?_,?_⟩
    · intro args bxs os ob rs bxs' os' h hob
      unfold Gm_uT at h
      dsimp only at h
      split at h
      · split at h
        · simp only[Option.bind_eq_some_iff,Option.some.injEq,Prod.mk.injEq] at h
          obtain⟨_,_,_,_,_,_,_,_,rfl,_,_,_⟩:=h
          exact absurd (hob _ (List.mem_of_getElem? (i:=0) rfl)) (Nat.not_lt_zero _)
        · simp at h
      · simp at h
    · intro args bxs os ob rs bxs' os' h hob
      unfold Gm_uTs at h
      dsimp only at h
      split at h
      · split at h
        · simp only[Option.bind_eq_some_iff,Option.some.injEq,Prod.mk.injEq] at h
          obtain⟨_,_,_,_,_,_,_,_,rfl,_,_,_⟩:=h
          exact absurd (hob _ (List.mem_of_getElem? (i:=0) rfl)) (Nat.not_lt_zero _)
        · simp at h
      · simp at h
    · intro args bxs os ob rs bxs' os' h hob
      unfold Gm_uR at h
      dsimp only at h
      split at h
      · split at h
        · simp only[Option.bind_eq_some_iff,Option.some.injEq,Prod.mk.injEq] at h
          obtain⟨_,_,_,_,_,_,_,_,rfl,_,_,_⟩:=h
          exact absurd (hob _ (List.mem_of_getElem? (i:=0) rfl)) (Nat.not_lt_zero _)
        · simp at h
      · simp at h
  | m+1=>by
    have ih:=okAll_uG m
    exact⟨okGm_uT m ih.1 ih.2.1 ih.2.2,okGm_uTs m ih.1 ih.2.1 ih.2.2,okGm_uR m ih.1 ih.2.1 ih.2.2⟩
def G_uT : List Bool×FnG Un:=([],fun args bxs os=>match args,bxs,os with
  | [x0,x1,.c (.fc 174 [0,1])],[(false,cells0),(false,cells1)],[o0]=>match cells0.map C.weak,cells1.map C.weak with
    | [c0_depth],[.ob 0 0]=>(aS .term x0).bind fun t=>(aI .i64 x1).bind fun down=>(aI .i64 (.c c0_depth)).bind fun depth=>(oM .int o0).bind fun out=>some ([uOK depth down out t.sz],A_uT (uT t down depth out),B_uT (uT t down depth out),O_uT (uT t down depth out))
    | _,_=>none
  | _,_,_=>none)
theorem okG_uT : GnOK 173 G_uT:=by
  intro args bxs os ob rs bxs' os' h hob
  unfold G_uT at h
  dsimp only at h
  split at h
  · rename_i x0 x1 cells0 cells1 o0
    split at h
    · rename_i c0_depth ec0 ec1
      simp only[Option.bind_eq_some_iff,Option.some.injEq,Prod.mk.injEq] at h
      obtain⟨t,e0,down,e1,depth,e2,out,e3,rfl,rfl,rfl,rfl⟩:=h
      refine ((okAll_uG (2*t.ht+1+1)).1) _ _ _ [2*t.ht+1<2*t.ht+1+1,uOK depth down out t.sz] _ _ _ (?_ : (Gm_uT (2*t.ht+1+1)).2 _ _ _=some _) ?_
      · unfold Gm_uT
        dsimp only
        simp only[ec0,ec1,e0,e1,e2,e3,Option.bind_some]
      · intro p hp
        simp only[List.mem_cons,List.not_mem_nil,or_false] at hp
        rcases hp with rfl | rfl
        · exact Nat.lt_succ_self _
        · exact hob _ (List.mem_of_getElem? (i:=0) rfl)
    · simp at h
  · simp at h
def M_conj_Uses : Mc Un:=mach (tbl []) (tbl []) (tbl []) (tbl [(173,G_uT),(176,G_compact_int)]) (tbl [(175,U_sort_int)])
def A_conj_Uses (r:List Int) : List (A Un):=[.c (.sl (U:=Un) Ty.int r false)]
def O_conj_Uses (_r:List Int) : List (Ob Un):=[]
def R_conj_Uses (r:List Int) : RF Un:=(A_conj_Uses r,O_conj_Uses r)
def N_conj_Uses : Nat→NS:=fun l=>(look l []).getD ⟨[],[],[],[],[],false⟩
def conj_Uses_fn (t:Term) (depth:Int) : Option (RF Un):=awf M_conj_Uses N_conj_Uses (bodyOf Tryz.f158) (entry Tryz.f158.ntmps 0 [.d (.agg (enc Ty.term t)),.d (.v (.s (.int .i64 depth)))]) (retF M_conj_Uses Tryz.f158.results.toList [.d])
theorem conj_Uses_in (t:Term) (depth:Int) : conj_Uses_fn t depth=obO (uOK depth (0:Int) [] (Term.ids t).sz) (obO ((uT (Term.ids t) (0:Int) depth []).snd.snd.length≤(1000000000:Nat)) (some (R_conj_Uses (compactI (sortI (uT (Term.ids t) (0:Int) depth []).snd.snd))))):=by kernel_rfl
def useOK (t:Term) (depth:Int) : Prop:=(-2000000≤depth∧depth≤2000000)∧t.sz≤2000000
def usesA (t:Term) (depth:Int) : List Int:=riseI (inT depth t)
def conj_Uses (t:Term) (depth:Int) : List Int:=usesA t depth
@[simp] theorem conj_Uses_eq (t:Term) (depth:Int) : conj_Uses t depth=usesA t depth:=by unfold conj_Uses;rfl
theorem conj_Uses_spec (t:Term) (depth:Int) (_ht:WS .term t) (_hd:WI depth) (h:useOK t depth) : conj_Uses_fn t depth=some (R_conj_Uses (conj_Uses t depth)):=by
  obtain⟨h1,h2⟩:=h
  have hl:=inT_len depth t
  rw[conj_Uses_in,Term.ids_eq]
  simp only[uT,List.nil_append,Int.add_zero]
  rw[obO_pos (show uOK _ _ _ _ from ⟨h1,by omega,by simp;omega⟩),obO_pos (by omega),compact_sort]
  rfl
def F_conj_Uses : FnC Un:=fun args=>match args with
  | [x0,x1]=>(dS .term x0).bind fun t=>(dI .i64 x1).bind fun depth=>some ([useOK t depth],A_conj_Uses (conj_Uses t depth),O_conj_Uses (conj_Uses t depth))
  | _=>none
theorem ok_conj_Uses : FnOK 158 F_conj_Uses:=by
  intro args ob rs os h hob
  unfold F_conj_Uses at h
  split at h
  · simp only[Option.bind_eq_some_iff,Option.some.injEq,Prod.mk.injEq] at h
    obtain⟨t,e0,depth,e1,rfl,rfl,rfl⟩:=h
    obtain rfl:=dS_eq e0
    obtain rfl:=dI_eq e1
    exact⟨fn_contractF (M:=M_conj_Uses) rfl (tbl_ok (l1:=[]) (l2:=[]) (l3:=[]) (l4:=[(173,G_uT),(176,G_compact_int)]) (l5:=[(175,U_sort_int)]) trivial trivial trivial ⟨okG_uT,okG_compact_int,trivial⟩ ⟨okU_sort_int,trivial⟩) Tryz.func158 (by kernel_rfl) N_conj_Uses 0 [.d] (fun hwf=>(conj_Uses_spec t depth (wfArg hwf (a:=.d (.agg (enc Ty.term t))) (List.mem_of_getElem? (i:=0) rfl)) (wfArg hwf (a:=.d (.v (.s (.int .i64 depth)))) (List.mem_of_getElem? (i:=1) rfl)) (hob _ (List.mem_of_getElem? (i:=0) rfl)))),hasBody_of Tryz.func158 (by kernel_rfl) (by kernel_rfl)⟩
  · simp at h
end
end Go.Proofs.YtolbngdhgcbmgaaGreat.B
