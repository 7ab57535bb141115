/- Part 22 of the proof: Sref21m Sref21w Splainp Spushp. -/
import Derived.Test.YtolbngdhgcbmgaaGreatPonce21
namespace Go.Proofs.YtolbngdhgcbmgaaGreat.B
open Go Go.RowKit
set_option maxRecDepth 100000
noncomputable section
attribute [local irreducible] awp ctxK itersK iterK retQ retGQ awf ctxF loopF
def mvP (at_:List Int) (c:Term) (d:Int) : Term:=setAt c (if c.depth=d then move1 c.at_ at_ else c.at_)
def r21_moveRel (r:Rel) (depth:Int) (at_:List Int) : Rel:=mapR (mvP at_) depth r
def r21_moves (l:List Term) (depth:Int) (at_:List Int) : List Term:=mapTs (mvP at_) depth l
def r21_Move (t:Term) (depth:Int) (at_:List Int) : Term:=mapT (mvP at_) depth t
def A_r21_moveRel (r:Rel) : List (A Un):=[.agg (encC Ty.rel r)]
def O_r21_moveRel (_r:Rel) : List (Ob Un):=[]
def Fm_r21_moveRel (m:Nat) : FnC Un:=fun args=>match args with
  | [x0,x1,x2]=>(dS .rel x0).bind fun r=>(dI .i64 x1).bind fun depth=>(dL .int x2).bind fun at_=>some ([2*r.ht<m,inOK depth r.sz],A_r21_moveRel (r21_moveRel r depth at_),O_r21_moveRel (r21_moveRel r depth at_))
  | _=>none
def A_r21_moves (r:List Term) : List (A Un):=[.c (.sl (U:=Un) Ty.term r false)]
def O_r21_moves (_r:List Term) : List (Ob Un):=[]
def Fm_r21_moves (m:Nat) : FnC Un:=fun args=>match args with
  | [x0,x1,x2]=>(dL .term x0).bind fun l=>(dI .i64 x1).bind fun depth=>(dL .int x2).bind fun at_=>some ([2*htTs l+1<m,inOK depth (szTs l)],A_r21_moves (r21_moves l depth at_),O_r21_moves (r21_moves l depth at_))
  | _=>none
def A_r21_Move (r:Term) : List (A Un):=[.agg (encC Ty.term r)]
def O_r21_Move (_r:Term) : List (Ob Un):=[]
def Fm_r21_Move (m:Nat) : FnC Un:=fun args=>match args with
  | [x0,x1,x2]=>(dS .term x0).bind fun t=>(dI .i64 x1).bind fun depth=>(dL .int x2).bind fun at_=>some ([2*t.ht<m,inOK depth t.sz],A_r21_Move (r21_Move t depth at_),O_r21_Move (r21_Move t depth at_))
  | _=>none
def M_r21_moveRel (m:Nat) : Mc Un:=mach (tbl [(164,Fm_r21_moves m),(165,Fm_r21_moveRel m)]) (tbl []) (tbl []) (tbl []) (tbl [])
def R_r21_moveRel (r:Rel) : RF Un:=(A_r21_moveRel r,O_r21_moveRel r)
def N_r21_moveRel : Nat→NS:=fun l=>(look l [(4,{ ts:=bl 63 462,bs:=bl 63 72,nm:=[(.sl 7,252)] }),(10,{ ts:=bl 63 1614,bs:=bl 63 72,nm:=[(.sl 9,253),(.cell 3 5,254)] })]).getD ⟨[],[],[],[],[],false⟩
def r21_moveRel_c1 (r:Rel) (depth:Int) (at_:List Int) (v2:Int):=r21_moveRel (Rel.mk (Rel.op (r.kids.getD v2.toNat zeroRel)) (Rel.table (r.kids.getD v2.toNat zeroRel)) (Rel.cols (r.kids.getD v2.toNat zeroRel)) (Rel.kids (r.kids.getD v2.toNat zeroRel)) (Rel.terms (r.kids.getD v2.toNat zeroRel)) (Rel.aggs (r.kids.getD v2.toNat zeroRel)) (Rel.keys (r.kids.getD v2.toNat zeroRel)) (Rel.limit (r.kids.getD v2.toNat zeroRel)) (Rel.skip (r.kids.getD v2.toNat zeroRel)) (Rel.all (r.kids.getD v2.toNat zeroRel)) (Rel.rows (r.kids.getD v2.toNat zeroRel))) depth at_
def r21_moveRel_s4 (r:Rel) (depth:Int) (at_:List Int) (v0:Int) (v1:List Agg) : S Un:=(st 63 63 255 0 [(1,ai depth),(2,al .int at_),(3,ax 3),(6,ax 6),(7,ao 252),(8,ai v0)] [(3,some (false,encC Ty.rel (Rel.mk r.op r.table r.cols r.kids (r21_moves r.terms depth at_) r.aggs r.keys r.limit r.skip r.all r.rows))),(6,some (false,[C.s (Value.int IntKind.i64 (0:Int)),C.s (Value.string (ByteArray.mk #[])),C.sl Ty.col [] true,C.sl Ty.rel [] true,C.sl Ty.term [] true,C.sl Ty.agg [] true,C.sl Ty.by_ [] true,C.s (Value.int IntKind.i64 (0:Int)),C.s (Value.int IntKind.i64 (0:Int)),C.s (Value.bool false),C.sl Ty.row [] true]))] [(252,some ⟨(0:Nat),Ty.agg,v1,some (0:Nat),true⟩)])
def r21_moveRel_s10 (r:Rel) (depth:Int) (at_:List Int) (v1:List Agg) (v2:Int) (v3:List Rel) : S Un:=(st 63 63 255 0 [(1,ai depth),(2,al .int at_),(3,ax 3),(6,ax 6),(9,ao 253),(10,ai v2)] [(3,some (false,[C.s (Value.int IntKind.i64 r.op),C.s (Value.string r.table),C.sl Ty.col r.cols false,C.sl Ty.rel r.kids false,C.sl Ty.term (r21_moves r.terms depth at_) false,C.ob (254:Nat) (0:Nat),C.sl Ty.by_ r.keys false,C.s (Value.int IntKind.i64 r.limit),C.s (Value.int IntKind.i64 r.skip),C.s (Value.bool r.all),C.sl Ty.row r.rows false])),(6,some (false,[C.s (Value.int IntKind.i64 (0:Int)),C.s (Value.string (ByteArray.mk #[])),C.sl Ty.col [] true,C.sl Ty.rel [] true,C.sl Ty.term [] true,C.sl Ty.agg [] true,C.sl Ty.by_ [] true,C.s (Value.int IntKind.i64 (0:Int)),C.s (Value.int IntKind.i64 (0:Int)),C.s (Value.bool false),C.sl Ty.row [] true]))] [(253,some ⟨(0:Nat),Ty.rel,v3,some (0:Nat),true⟩),(254,some ⟨(0:Nat),Ty.agg,v1,some (0:Nat),true⟩)])
def r21_moveRel_B4 : Code:=sub (bodyOf Tryz.f165) [1,1,1,0,1,2,2]
def r21_moveRel_L4 (m:Nat) : S Un→Option (EX Un):=loopF (N_r21_moveRel 4) (fun s Q=>awf (M_r21_moveRel m) N_r21_moveRel r21_moveRel_B4 s Q)
def r21_moveRel_B10 : Code:=sub (bodyOf Tryz.f165) [1,1,1,1,1,1,0,1,2,2]
def r21_moveRel_L10 (m:Nat) : S Un→Option (EX Un):=loopF (N_r21_moveRel 10) (fun s Q=>awf (M_r21_moveRel m) N_r21_moveRel r21_moveRel_B10 s Q)
def r21_moveRel_C4 (m:Nat) : Exit→S Un→Option (RF Un):=ctxF (M_r21_moveRel m) N_r21_moveRel (bodyOf Tryz.f165) [1,1,1,0,1,2] (retF (M_r21_moveRel m) Tryz.f165.results.toList [.d])
def r21_moveRel_C10 (m:Nat) : Exit→S Un→Option (RF Un):=ctxF (M_r21_moveRel m) N_r21_moveRel (bodyOf Tryz.f165) [1,1,1,1,1,1,0,1,2] (retF (M_r21_moveRel m) Tryz.f165.results.toList [.d])
def r21_moveRel_fn (m:Nat) (r:Rel) (depth:Int) (at_:List Int) : Option (RF Un):=awf (M_r21_moveRel m) N_r21_moveRel (bodyOf Tryz.f165) (entry Tryz.f165.ntmps 3 [.d (.agg (enc Ty.rel r)),.d (.v (.s (.int .i64 depth))),.d (.v (.dat (U:=Un) Ty.int at_))]) (retF (M_r21_moveRel m) Tryz.f165.results.toList [.d])
theorem r21_moveRel_in (m:Nat) (r:Rel) (depth:Int) (at_:List Int) : r21_moveRel_fn m r depth at_=obO ((2:Nat)*htTs r.terms+(1:Nat)<m) (obO (inOK depth (szTs r.terms)) (obO ((0+r.aggs.length)*(48:Nat)≤roomB) ((r21_moveRel_L4 m (r21_moveRel_s4 r depth at_ (0:Int) r.aggs)).bind (thenX (r21_moveRel_C4 m))))):=by kernel_rfl
theorem r21_moveRel_l4 (m:Nat) (r:Rel) (depth:Int) (at_:List Int) (v0:Int) (v1:List Agg) : r21_moveRel_L4 m (r21_moveRel_s4 r depth at_ v0 v1)=cndO (decide (v0<(↑v1.length:Int))) (obO (0≤v0∧v0<(↑v1.length:Int)) (obO ((2:Nat)*htTs (Agg.t (v1.getD v0.toNat zeroAgg))+(1:Nat)<m) (obO (inOK depth (szTs (Agg.t (v1.getD v0.toNat zeroAgg)))) (obO (0≤v0∧v0<(↑v1.length:Int)) (obO ((0:Nat)≤v0.toNat) (r21_moveRel_L4 m (r21_moveRel_s4 r depth at_ (IntKind.i64.wrap (v0+1)) (v1.set v0.toNat (Agg.mk (Agg.name (v1.getD v0.toNat zeroAgg)) (Agg.distinct (v1.getD v0.toNat zeroAgg)) (r21_moves (Agg.t (v1.getD v0.toNat zeroAgg)) depth at_)))))))))) (some (.exit 0,(r21_moveRel_s4 r depth at_ v0 v1))):=(loopF_eq (N_r21_moveRel 4) r21_moveRel_B4 _).trans (by kernel_rfl)
theorem r21_moveRel_a4_x0 (m:Nat) (r:Rel) (depth:Int) (at_:List Int) (v0:Int) (v1:List Agg) : r21_moveRel_C4 m (.exit 0) (r21_moveRel_s4 r depth at_ v0 v1)=(r21_moveRel_L10 m (r21_moveRel_s10 r depth at_ v1 (0:Int) ([]))).bind (thenX (r21_moveRel_C10 m)):=by kernel_rfl
theorem r21_moveRel_l10 (m:Nat) (r:Rel) (depth:Int) (at_:List Int) (v1:List Agg) (v2:Int) (v3:List Rel) : r21_moveRel_L10 m (r21_moveRel_s10 r depth at_ v1 v2 v3)=cndO (decide (v2<(↑r.kids.length:Int))) (obO (0≤v2∧v2<(↑r.kids.length:Int)) (obO ((2:Nat)*(Rel.ids (r.kids.getD v2.toNat zeroRel)).ht<m) (obO (inOK depth (Rel.ids (r.kids.getD v2.toNat zeroRel)).sz) (obO ((v3.length+[(Rel.ids (r21_moveRel_c1 r depth at_ v2))].length)*(192:Nat)≤roomB) (r21_moveRel_L10 m (r21_moveRel_s10 r depth at_ v1 (IntKind.i64.wrap (v2+1)) (v3++[(Rel.ids (r21_moveRel_c1 r depth at_ v2))]))))))) (some (.exit 2,(r21_moveRel_s10 r depth at_ v1 v2 v3))):=(loopF_eq (N_r21_moveRel 10) r21_moveRel_B10 _).trans (by kernel_rfl)
theorem r21_moveRel_a10_x2 (m:Nat) (r:Rel) (depth:Int) (at_:List Int) (v1:List Agg) (v2:Int) (v3:List Rel) : r21_moveRel_C10 m (.exit 2) (r21_moveRel_s10 r depth at_ v1 v2 v3)=some (R_r21_moveRel (Rel.mk r.op r.table r.cols v3 (r21_moves r.terms depth at_) v1 r.keys r.limit r.skip r.all r.rows)):=by kernel_rfl
theorem r21_moveRel_spec (m:Nat) (r:Rel) (depth:Int) (at_:List Int) (hr:WS .rel r) (_hd:WI depth) (_ha:WL .int at_) (hm:2*r.ht<m+1) (h:inOK depth r.sz) : r21_moveRel_fn m r depth at_=some (R_r21_moveRel (r21_moveRel r depth at_)):=by
  obtain⟨h1,h2,h3⟩:=h
  have hsz:=r.sz_eq
  have hk:htTs r.terms<r.ht∧htAs r.aggs<r.ht∧htRs r.kids<r.ht:=by cases r;simp only[Rel.ht,Rel.kids_mk,Rel.terms_mk,Rel.aggs_mk];omega
  have hal:=szAs_len r.aggs
  have hkl:=szRs_len r.kids
  have l4:=loop_map (e:=.exit 0) (L:=r21_moveRel_L4 m) (st:=fun xs i=>r21_moveRel_s4 r depth at_ i xs) (l:=r.aggs) (d:=zeroAgg) (mapA (mvP at_) depth) (hr.rel_aggs).len
    (fun xs i x hi hxl hx hmem=>by
      have hsz:=szAs_mem hmem
      have hxs:=x.sz_eq
      have hht:=htAs_mem hmem
      have hxh:htTs x.t<x.ht:=by cases x;simp only[Agg.ht,Agg.t_mk];omega
      rw[r21_moveRel_l4]
      simp only[cndO_eq,hxl,hi,decide_true,if_true,and_true,Int.toNat_natCast,hx,r21_moves]
      rw[obO_pos (by omega),obO_pos (by omega),obO_pos (show inOK _ _ from ⟨h1,by omega,by omega⟩),obO_pos (by omega),obO_pos (by omega),mapA_eq])
    (fun xs hxl=>by rw[r21_moveRel_l4];simp [cndO_eq,hxl])
  have l10:=(loop_fold (e:=.exit 2) (L:=r21_moveRel_L10 m) (st:=fun o i=>r21_moveRel_s10 r depth at_ (r.aggs.map (mapA (mvP at_) depth)) i o) (l:=r.kids) (d:=zeroRel) (g:=fun o x=>o++[mapR (mvP at_) depth x]) (fun i o=>o.length=i) (hr.rel_kids).len
    (fun o i x hi hx hI=>by
      have hil:i<r.kids.length:=by omega
      have hI':o.length=i:=hI
      have hmem:x∈r.kids:=by rw[← hx];exact getD_mem hil
      have hsz:=szRs_mem hmem
      have hht:=htRs_mem hmem
      refine⟨by show (o++[mapR (mvP at_) depth x]).length=i+1;rw[List.length_append,List.length_singleton];omega,?_⟩
      rw[r21_moveRel_l10]
      simp only[r21_moveRel_c1,rel_eta,Rel.ids_eq,cndO_eq,hi,decide_true,if_true,and_true,Int.toNat_natCast,hx,r21_moveRel]
      rw[obO_pos (by omega),obO_pos (by omega),obO_pos (show inOK _ _ from ⟨h1,by omega,by omega⟩),obO_pos (by unfold roomB;rw[List.length_singleton];omega)])
    (fun o _=>by rw[r21_moveRel_l10];simp [cndO_eq]) [] rfl).1
  rw[foldl_snoc,List.nil_append] at l10
  rw[r21_moveRel_in,obO_pos (by omega),obO_pos (show inOK _ _ from ⟨h1,by omega,by omega⟩),obO_pos (by unfold roomB;omega),loop_end l4,r21_moveRel_a4_x0,loop_end l10,r21_moveRel_a10_x2]
  unfold r21_moveRel r21_moves
  rw[mapR_eq,mapAs_map,mapRs_map]
theorem okm_r21_moveRel (m:Nat) (h_r21_moveRel:FnOK 165 (Fm_r21_moveRel m)) (h_r21_moves:FnOK 164 (Fm_r21_moves m)) (h_r21_Move:FnOK 136 (Fm_r21_Move m)) : FnOK 165 (Fm_r21_moveRel (m+1)):=by
  intro args ob rs os h hob
  unfold Fm_r21_moveRel at h
  split at h
  · simp only[Option.bind_eq_some_iff,Option.some.injEq,Prod.mk.injEq] at h
    obtain⟨r,e0,depth,e1,at_,e2,rfl,rfl,rfl⟩:=h
    obtain rfl:=dS_eq e0
    obtain rfl:=dI_eq e1
    obtain rfl:=dL_eq e2
    exact⟨fn_contractF (M:=(M_r21_moveRel m)) rfl (tbl_ok (l1:=[(164,Fm_r21_moves m),(165,Fm_r21_moveRel m)]) (l2:=[]) (l3:=[]) (l4:=[]) (l5:=[]) ⟨h_r21_moves,h_r21_moveRel,trivial⟩ trivial trivial trivial trivial) Tryz.func165 (by kernel_rfl) N_r21_moveRel 3 [.d] (fun hwf=>(r21_moveRel_spec m r depth at_ (wfArg hwf (a:=.d (.agg (enc Ty.rel r))) (List.mem_of_getElem? (i:=0) rfl)) (wfArg hwf (a:=.d (.v (.s (.int .i64 depth)))) (List.mem_of_getElem? (i:=1) rfl)) (wfArg hwf (a:=.d (.v (.dat (U:=Un) Ty.int at_))) (List.mem_of_getElem? (i:=2) rfl)) (hob _ (List.mem_of_getElem? (i:=0) rfl)) (hob _ (List.mem_of_getElem? (i:=1) rfl)))),hasBody_of Tryz.func165 (by kernel_rfl) (by kernel_rfl)⟩
  · simp at h
def M_r21_moves (m:Nat) : Mc Un:=mach (tbl [(136,Fm_r21_Move m)]) (tbl []) (tbl []) (tbl []) (tbl [])
def R_r21_moves (r:List Term) : RF Un:=(A_r21_moves r,O_r21_moves r)
def N_r21_moves : Nat→NS:=fun l=>(look l [(3,{ ts:=bl 27 391,bs:=bl 27 0,nm:=[(.sl 7,108)] })]).getD ⟨[],[],[],[],[],false⟩
def r21_moves_s3 (l:List Term) (depth:Int) (at_:List Int) (v0:Int) (v1:List Term) : S Un:=(st 27 27 109 0 [(0,al .term l),(1,ai depth),(2,al .int at_),(7,ao 108),(8,ai v0)] [] [(108,some ⟨(0:Nat),Ty.term,v1,some (0:Nat),true⟩)])
def r21_moves_B3 : Code:=sub (bodyOf Tryz.f164) [1,1,0,1,2,2]
def r21_moves_L3 (m:Nat) : S Un→Option (EX Un):=loopF (N_r21_moves 3) (fun s Q=>awf (M_r21_moves m) N_r21_moves r21_moves_B3 s Q)
def r21_moves_C3 (m:Nat) : Exit→S Un→Option (RF Un):=ctxF (M_r21_moves m) N_r21_moves (bodyOf Tryz.f164) [1,1,0,1,2] (retF (M_r21_moves m) Tryz.f164.results.toList [.d])
def r21_moves_fn (m:Nat) (l:List Term) (depth:Int) (at_:List Int) : Option (RF Un):=awf (M_r21_moves m) N_r21_moves (bodyOf Tryz.f164) (entry Tryz.f164.ntmps 1 [.d (.v (.dat (U:=Un) Ty.term l)),.d (.v (.s (.int .i64 depth))),.d (.v (.dat (U:=Un) Ty.int at_))]) (retF (M_r21_moves m) Tryz.f164.results.toList [.d])
theorem r21_moves_in (m:Nat) (l:List Term) (depth:Int) (at_:List Int) : r21_moves_fn m l depth at_=(r21_moves_L3 m (r21_moves_s3 l depth at_ (0:Int) ([]))).bind (thenX (r21_moves_C3 m)):=by kernel_rfl
theorem r21_moves_l3 (m:Nat) (l:List Term) (depth:Int) (at_:List Int) (v0:Int) (v1:List Term) : r21_moves_L3 m (r21_moves_s3 l depth at_ v0 v1)=cndO (decide (v0<(↑l.length:Int))) (obO (0≤v0∧v0<(↑l.length:Int)) (obO ((2:Nat)*(Term.ids (l.getD v0.toNat zeroTerm)).ht<m) (obO (inOK depth (Term.ids (l.getD v0.toNat zeroTerm)).sz) (obO ((v1.length+[(Term.ids (r21_Move (Term.ids (l.getD v0.toNat zeroTerm)) depth at_))].length)*(128:Nat)≤roomB) (r21_moves_L3 m (r21_moves_s3 l depth at_ (IntKind.i64.wrap (v0+1)) (v1++[(Term.ids (r21_Move (Term.ids (l.getD v0.toNat zeroTerm)) depth at_))]))))))) (some (.exit 0,(r21_moves_s3 l depth at_ v0 v1))):=(loopF_eq (N_r21_moves 3) r21_moves_B3 _).trans (by kernel_rfl)
theorem r21_moves_a3_x0 (m:Nat) (l:List Term) (depth:Int) (at_:List Int) (v0:Int) (v1:List Term) : r21_moves_C3 m (.exit 0) (r21_moves_s3 l depth at_ v0 v1)=some (R_r21_moves (v1)):=by kernel_rfl
theorem r21_moves_spec (m:Nat) (l:List Term) (depth:Int) (at_:List Int) (hl:WL .term l) (_hd:WI depth) (_ha:WL .int at_) (hm:2*htTs l+1<m+1) (h:inOK depth (szTs l)) : r21_moves_fn m l depth at_=some (R_r21_moves (r21_moves l depth at_)):=by
  obtain⟨h1,h2,h3⟩:=h
  have hsl:=szTs_len l
  have l3:=(loop_fold (e:=.exit 0) (L:=r21_moves_L3 m) (st:=fun o i=>r21_moves_s3 l depth at_ i o) (l:=l) (d:=zeroTerm) (g:=fun o x=>o++[mapT (mvP at_) depth x]) (fun i o=>o.length=i) hl.len
    (fun o i x hi hx hI=>by
      have hil:i<l.length:=by omega
      have hI':o.length=i:=hI
      have hmem:x∈l:=by rw[← hx];exact getD_mem hil
      have hsz:=szTs_mem hmem
      have hht:=htTs_mem hmem
      refine⟨by show (o++[mapT (mvP at_) depth x]).length=i+1;rw[List.length_append,List.length_singleton];omega,?_⟩
      rw[r21_moves_l3]
      simp only[Term.ids_eq,term_eta,cndO_eq,hi,decide_true,if_true,and_true,Int.toNat_natCast,hx,r21_Move]
      rw[obO_pos (by omega),obO_pos (by omega),obO_pos (show inOK _ _ from ⟨h1,by omega,by omega⟩),obO_pos (by unfold roomB;rw[List.length_singleton];omega)])
    (fun o _=>by rw[r21_moves_l3];simp [cndO_eq]) [] rfl).1
  rw[foldl_snoc,List.nil_append] at l3
  rw[r21_moves_in,loop_end l3,r21_moves_a3_x0]
  unfold r21_moves
  rw[mapTs_map]
theorem okm_r21_moves (m:Nat) (h_r21_moveRel:FnOK 165 (Fm_r21_moveRel m)) (h_r21_moves:FnOK 164 (Fm_r21_moves m)) (h_r21_Move:FnOK 136 (Fm_r21_Move m)) : FnOK 164 (Fm_r21_moves (m+1)):=by
  intro args ob rs os h hob
  unfold Fm_r21_moves at h
  split at h
  · simp only[Option.bind_eq_some_iff,Option.some.injEq,Prod.mk.injEq] at h
    obtain⟨l,e0,depth,e1,at_,e2,rfl,rfl,rfl⟩:=h
    obtain rfl:=dL_eq e0
    obtain rfl:=dI_eq e1
    obtain rfl:=dL_eq e2
    exact⟨fn_contractF (M:=(M_r21_moves m)) rfl (tbl_ok (l1:=[(136,Fm_r21_Move m)]) (l2:=[]) (l3:=[]) (l4:=[]) (l5:=[]) ⟨h_r21_Move,trivial⟩ trivial trivial trivial trivial) Tryz.func164 (by kernel_rfl) N_r21_moves 1 [.d] (fun hwf=>(r21_moves_spec m l depth at_ (wfArg hwf (a:=.d (.v (.dat (U:=Un) Ty.term l))) (List.mem_of_getElem? (i:=0) rfl)) (wfArg hwf (a:=.d (.v (.s (.int .i64 depth)))) (List.mem_of_getElem? (i:=1) rfl)) (wfArg hwf (a:=.d (.v (.dat (U:=Un) Ty.int at_))) (List.mem_of_getElem? (i:=2) rfl)) (hob _ (List.mem_of_getElem? (i:=0) rfl)) (hob _ (List.mem_of_getElem? (i:=1) rfl)))),hasBody_of Tryz.func164 (by kernel_rfl) (by kernel_rfl)⟩
  · simp at h
def M_r21_Move (m:Nat) : Mc Un:=mach (tbl [(164,Fm_r21_moves m),(165,Fm_r21_moveRel m)]) (tbl []) (tbl []) (tbl []) (tbl [])
def R_r21_Move (r:Term) : RF Un:=(A_r21_Move r,O_r21_Move r)
def N_r21_Move : Nat→NS:=fun l=>(look l [(6,{ ts:=bl 65 462,bs:=bl 65 72,nm:=[(.sl 7,260)],gb:=[3] })]).getD ⟨[],[],[],[],[],false⟩
def r21_Move_c1 (depth:Int) (at_:List Int) (b3:Term) (v0:Int):=r21_moveRel (Rel.mk (Rel.op (b3.sub.getD v0.toNat zeroRel)) (Rel.table (b3.sub.getD v0.toNat zeroRel)) (Rel.cols (b3.sub.getD v0.toNat zeroRel)) (Rel.kids (b3.sub.getD v0.toNat zeroRel)) (Rel.terms (b3.sub.getD v0.toNat zeroRel)) (Rel.aggs (b3.sub.getD v0.toNat zeroRel)) (Rel.keys (b3.sub.getD v0.toNat zeroRel)) (Rel.limit (b3.sub.getD v0.toNat zeroRel)) (Rel.skip (b3.sub.getD v0.toNat zeroRel)) (Rel.all (b3.sub.getD v0.toNat zeroRel)) (Rel.rows (b3.sub.getD v0.toNat zeroRel))) (IntKind.i64.wrap (depth+1)) at_
def r21_Move_s6 (depth:Int) (at_:List Int) (b3:Term) (v0:Int) (v1:List Rel) : S Un:=(st 65 65 261 0 [(1,ai depth),(2,al .int at_),(3,ax 3),(6,ax 6),(7,ao 260),(8,ai v0)] [(3,bg .term b3),(6,some (false,[C.s (Value.int IntKind.i64 (0:Int)),C.s (Value.int IntKind.i64 (0:Int)),C.s (Value.int IntKind.i64 (0:Int)),C.s (Value.string (ByteArray.mk #[])),C.s (Value.int IntKind.i64 (0:Int)),C.s (Value.int IntKind.i64 (0:Int)),C.s (Value.string (ByteArray.mk #[])),C.sl Ty.term [] true,C.sl Ty.rel [] true,C.s (Value.int IntKind.i64 (0:Int))]))] [(260,some ⟨(0:Nat),Ty.rel,v1,some (0:Nat),true⟩)])
def r21_Move_B6 : Code:=sub (bodyOf Tryz.f136) [1,1,1,1,0,1,2,2]
def r21_Move_L6 (m:Nat) : S Un→Option (EX Un):=loopF (N_r21_Move 6) (fun s Q=>awf (M_r21_Move m) N_r21_Move r21_Move_B6 s Q)
def r21_Move_C6 (m:Nat) : Exit→S Un→Option (RF Un):=ctxF (M_r21_Move m) N_r21_Move (bodyOf Tryz.f136) [1,1,1,1,0,1,2] (retF (M_r21_Move m) Tryz.f136.results.toList [.d])
def r21_Move_fn (m:Nat) (t:Term) (depth:Int) (at_:List Int) : Option (RF Un):=awf (M_r21_Move m) N_r21_Move (bodyOf Tryz.f136) (entry Tryz.f136.ntmps 1 [.d (.agg (enc Ty.term t)),.d (.v (.s (.int .i64 depth))),.d (.v (.dat (U:=Un) Ty.int at_))]) (retF (M_r21_Move m) Tryz.f136.results.toList [.d])
def r21_Move_t1 (m:Nat) (t:Term) (depth:Int) (at_:List Int) : Option (RF Un):=obO ((2:Nat)*htTs t.kids+(1:Nat)<m) (obO (inOK depth (szTs t.kids)) ((r21_Move_L6 m (r21_Move_s6 depth at_ (Term.mk t.op t.v t.depth t.at_ t.name (r21_moves t.kids depth at_) t.sub t.type) (0:Int) ([]))).bind (thenX (r21_Move_C6 m))))
theorem r21_Move_in (m:Nat) (t:Term) (depth:Int) (at_:List Int) : r21_Move_fn m t depth at_=cndO (t.op == 2) (cndO (t.depth == depth) (cndO (decide (t.at_≥0)) (cndO (decide (t.at_<(↑at_.length:Int))) (obO (0≤t.at_∧t.at_<(↑at_.length:Int)) (obO ((2:Nat)*htTs t.kids+(1:Nat)<m) (obO (inOK depth (szTs t.kids)) ((r21_Move_L6 m (r21_Move_s6 depth at_ (Term.mk t.op t.v t.depth (at_.getD t.at_.toNat (0:Int)) t.name (r21_moves t.kids depth at_) t.sub t.type) (0:Int) ([]))).bind (thenX (r21_Move_C6 m)))))) (r21_Move_t1 m t depth at_)) (r21_Move_t1 m t depth at_)) (r21_Move_t1 m t depth at_)) (r21_Move_t1 m t depth at_):=by kernel_rfl
theorem r21_Move_l6 (m:Nat) (depth:Int) (at_:List Int) (b3:Term) (v0:Int) (v1:List Rel) : r21_Move_L6 m (r21_Move_s6 depth at_ b3 v0 v1)=cndO (decide (v0<(↑b3.sub.length:Int))) (obO (0≤v0∧v0<(↑b3.sub.length:Int)) (obO ((2:Nat)*(Rel.ids (b3.sub.getD v0.toNat zeroRel)).ht<m) (obO (inOK (IntKind.i64.wrap (depth+1)) (Rel.ids (b3.sub.getD v0.toNat zeroRel)).sz) (obO ((v1.length+[(Rel.ids (r21_Move_c1 depth at_ b3 v0))].length)*(192:Nat)≤roomB) (r21_Move_L6 m (r21_Move_s6 depth at_ b3 (IntKind.i64.wrap (v0+1)) (v1++[(Rel.ids (r21_Move_c1 depth at_ b3 v0))]))))))) (some (.exit 0,(r21_Move_s6 depth at_ b3 v0 v1))):=(loopF_eq (N_r21_Move 6) r21_Move_B6 _).trans (by kernel_rfl)
theorem r21_Move_a6_x0 (m:Nat) (depth:Int) (at_:List Int) (b3:Term) (v0:Int) (v1:List Rel) : r21_Move_C6 m (.exit 0) (r21_Move_s6 depth at_ b3 v0 v1)=some (R_r21_Move (Term.mk b3.op b3.v b3.depth b3.at_ b3.name b3.kids v1 b3.type)):=by kernel_rfl
theorem r21_Move_end (m:Nat) (b3:Term) (depth:Int) (at_:List Int) (hl:b3.sub.length≤2000000) (hd:-2000000≤depth∧depth≤10000000) (hs:depth+1+szRs b3.sub≤10000000∧szRs b3.sub≤2000000) (hh:2*htRs b3.sub<m) :
    (r21_Move_L6 m (r21_Move_s6 depth at_ b3 (0:Int) ([]))).bind (thenX (r21_Move_C6 m))=some (R_r21_Move (Term.mk b3.op b3.v b3.depth b3.at_ b3.name b3.kids (mapRs (mvP at_) (depth+1) b3.sub) b3.type)):=by
  have hw:IntKind.i64.wrap (depth+1)=depth+1:=wrap_id (by omega)
  have l6:=(loop_fold (e:=.exit 0) (L:=r21_Move_L6 m) (st:=fun o i=>r21_Move_s6 depth at_ b3 i o) (l:=b3.sub) (d:=zeroRel) (g:=fun o x=>o++[mapR (mvP at_) (depth+1) x]) (fun i o=>o.length=i) (by omega)
    (fun o i x hi hx hI=>by
      have hil:i<b3.sub.length:=by omega
      have hI':o.length=i:=hI
      have hmem:x∈b3.sub:=by rw[← hx];exact getD_mem hil
      have hsz:=szRs_mem hmem
      have hht:=htRs_mem hmem
      refine⟨by show (o++[mapR (mvP at_) (depth+1) x]).length=i+1;rw[List.length_append,List.length_singleton];omega,?_⟩
      rw[r21_Move_l6]
      simp only[r21_Move_c1,rel_eta,Rel.ids_eq,cndO_eq,hi,decide_true,if_true,and_true,Int.toNat_natCast,hx,hw,r21_moveRel]
      rw[obO_pos (by omega),obO_pos (by omega),obO_pos (show inOK _ _ from ⟨by omega,by omega,by omega⟩),obO_pos (by unfold roomB;rw[List.length_singleton];omega)])
    (fun o _=>by rw[r21_Move_l6];simp [cndO_eq]) [] rfl).1
  rw[foldl_snoc,List.nil_append] at l6
  rw[loop_end l6,r21_Move_a6_x0,mapRs_map]
theorem r21_Move_spec (m:Nat) (t:Term) (depth:Int) (at_:List Int) (_ht:WS .term t) (_hd:WI depth) (_ha:WL .int at_) (hm:2*t.ht<m+1) (h:inOK depth t.sz) : r21_Move_fn m t depth at_=some (R_r21_Move (r21_Move t depth at_)):=by
  obtain⟨h1,h2,h3⟩:=h
  have hsz:=t.sz_eq
  have hk:htTs t.kids<t.ht∧htRs t.sub<t.ht:=by cases t;simp only[Term.ht,Term.kids_mk,Term.sub_mk];omega
  have hsl:=szRs_len t.sub
  have key:∀ n : Int,(r21_Move_L6 m (r21_Move_s6 depth at_ (Term.mk t.op t.v t.depth n t.name (r21_moves t.kids depth at_) t.sub t.type) (0:Int) ([]))).bind (thenX (r21_Move_C6 m))=some (R_r21_Move (.mk t.op t.v t.depth n t.name (mapTs (mvP at_) depth t.kids) (mapRs (mvP at_) (depth+1) t.sub) t.type)):=by
    intro n
    rw[r21_Move_end m _ depth at_ (by rw[Term.sub_mk];omega) (by omega) (by rw[Term.sub_mk];omega) (by rw[Term.sub_mk];omega)]
    simp only[Term.op_mk,Term.v_mk,Term.depth_mk,Term.at__mk,Term.name_mk,Term.kids_mk,Term.sub_mk,Term.type_mk,r21_moves]
  have kt:r21_Move_t1 m t depth at_=some (R_r21_Move (.mk t.op t.v t.depth t.at_ t.name (mapTs (mvP at_) depth t.kids) (mapRs (mvP at_) (depth+1) t.sub) t.type)):=by
    unfold r21_Move_t1
    rw[obO_pos (by omega),obO_pos (show inOK _ _ from ⟨h1,by omega,by omega⟩),key]
  rw[r21_Move_in,kt]
  simp only[cndO_eq,beq_iff_eq,decide_eq_true_eq]
  unfold r21_Move
  rw[mapT_eq]
  by_cases e1 : t.op=2
  · rw[if_pos e1,if_pos e1]
    unfold mvP
    simp only[setAt,Term.at__mk]
    by_cases e2 : t.depth=depth
    · rw[if_pos e2,if_pos e2]
      unfold move1
      by_cases e3 : t.at_≥0
      · by_cases e4 : t.at_<(at_.length:Int)
        · rw[if_pos e3,if_pos e4,if_pos (show 0≤t.at_∧t.at_<(at_.length:Int) from ⟨e3,e4⟩),obO_pos ⟨e3,e4⟩,obO_pos (by omega),obO_pos (show inOK _ _ from ⟨h1,by omega,by omega⟩),key]
          rfl
        · rw[if_pos e3,if_neg e4,if_neg (fun e=>e4 e.2)]
      · rw[if_neg e3,if_neg (fun e=>e3 e.1)]
    · rw[if_neg e2,if_neg e2]
  · rw[if_neg e1,if_neg e1]
theorem okm_r21_Move (m:Nat) (h_r21_moveRel:FnOK 165 (Fm_r21_moveRel m)) (h_r21_moves:FnOK 164 (Fm_r21_moves m)) (h_r21_Move:FnOK 136 (Fm_r21_Move m)) : FnOK 136 (Fm_r21_Move (m+1)):=by
  intro args ob rs os h hob
  unfold Fm_r21_Move at h
  split at h
  · simp only[Option.bind_eq_some_iff,Option.some.injEq,Prod.mk.injEq] at h
    obtain⟨t,e0,depth,e1,at_,e2,rfl,rfl,rfl⟩:=h
    obtain rfl:=dS_eq e0
    obtain rfl:=dI_eq e1
    obtain rfl:=dL_eq e2
    exact⟨fn_contractF (M:=(M_r21_Move m)) rfl (tbl_ok (l1:=[(164,Fm_r21_moves m),(165,Fm_r21_moveRel m)]) (l2:=[]) (l3:=[]) (l4:=[]) (l5:=[]) ⟨h_r21_moves,h_r21_moveRel,trivial⟩ trivial trivial trivial trivial) Tryz.func136 (by kernel_rfl) N_r21_Move 1 [.d] (fun hwf=>(r21_Move_spec m t depth at_ (wfArg hwf (a:=.d (.agg (enc Ty.term t))) (List.mem_of_getElem? (i:=0) rfl)) (wfArg hwf (a:=.d (.v (.s (.int .i64 depth)))) (List.mem_of_getElem? (i:=1) rfl)) (wfArg hwf (a:=.d (.v (.dat (U:=Un) Ty.int at_))) (List.mem_of_getElem? (i:=2) rfl)) (hob _ (List.mem_of_getElem? (i:=0) rfl)) (hob _ (List.mem_of_getElem? (i:=1) rfl)))),hasBody_of Tryz.func136 (by kernel_rfl) (by kernel_rfl)⟩
  · simp at h
theorem okAll_r21moveG : ∀ m,FnOK 165 (Fm_r21_moveRel m)∧FnOK 164 (Fm_r21_moves m)∧FnOK 136 (Fm_r21_Move m)
  | 0=>by
    refine⟨?_,?_,?_⟩
    · intro args ob rs os h hob
      unfold Fm_r21_moveRel at h
      split at h
      · simp only[Option.bind_eq_some_iff,Option.some.injEq,Prod.mk.injEq] at h
        obtain⟨_,_,_,_,_,_,rfl,_,_⟩:=h
        exact absurd (hob _ (List.mem_of_getElem? (i:=0) rfl)) (Nat.not_lt_zero _)
      · simp at h
    · intro args ob rs os h hob
      unfold Fm_r21_moves at h
      split at h
      · simp only[Option.bind_eq_some_iff,Option.some.injEq,Prod.mk.injEq] at h
        obtain⟨_,_,_,_,_,_,rfl,_,_⟩:=h
        exact absurd (hob _ (List.mem_of_getElem? (i:=0) rfl)) (Nat.not_lt_zero _)
      · simp at h
    · intro args ob rs os h hob
      unfold Fm_r21_Move at h
      split at h
      · simp only[Option.bind_eq_some_iff,Option.some.injEq,Prod.mk.injEq] at h
        obtain⟨_,_,_,_,_,_,rfl,_,_⟩:=h
        exact absurd (hob _ (List.mem_of_getElem? (i:=0) rfl)) (Nat.not_lt_zero _)
      · simp at h
  | m+1=>by
    have ih:=okAll_r21moveG m
    exact⟨okm_r21_moveRel m ih.1 ih.2.1 ih.2.2,okm_r21_moves m ih.1 ih.2.1 ih.2.2,okm_r21_Move m ih.1 ih.2.1 ih.2.2⟩
def F_r21_Move : FnC Un:=fun args=>match args with
  | [x0,x1,x2]=>(dS .term x0).bind fun t=>(dI .i64 x1).bind fun depth=>(dL .int x2).bind fun at_=>some ([inOK depth t.sz],A_r21_Move (r21_Move t depth at_),O_r21_Move (r21_Move t depth at_))
  | _=>none
theorem ok_r21_Move : FnOK 136 F_r21_Move:=by
  intro args ob rs os h hob
  unfold F_r21_Move at h
  split at h
  · simp only[Option.bind_eq_some_iff,Option.some.injEq,Prod.mk.injEq] at h
    obtain⟨t,e0,depth,e1,at_,e2,rfl,rfl,rfl⟩:=h
    refine ((okAll_r21moveG (2*t.ht+1)).2.2) _ [2*t.ht<2*t.ht+1,inOK depth t.sz] _ _ (?_ : Fm_r21_Move (2*t.ht+1) _=some _) ?_
    · unfold Fm_r21_Move
      simp only[e0,e1,e2,Option.bind_some]
    · intro p hp
      simp only[List.mem_cons,List.not_mem_nil,or_false] at hp
      rcases hp with rfl | rfl
      · exact Nat.lt_succ_self _
      · exact hob _ (List.mem_of_getElem? (i:=0) rfl)
  · simp at h
end
end Go.Proofs.YtolbngdhgcbmgaaGreat.B
namespace Go.Proofs.YtolbngdhgcbmgaaGreat.B
open Go Go.RowKit
set_option maxRecDepth 100000
noncomputable section
attribute [local irreducible] awp ctxK itersK iterK retQ retGQ awf ctxF loopF
def M_r21_Within : Mc Un:=mach (tbl [(93,F_r21_Uses)]) (tbl []) (tbl []) (tbl []) (tbl [])
def A_r21_Within (r:Bool) : List (A Un):=[.c (.s (.bool r))]
def O_r21_Within (_r:Bool) : List (Ob Un):=[]
def R_r21_Within (r:Bool) : RF Un:=(A_r21_Within r,O_r21_Within r)
def N_r21_Within : Nat→NS:=fun l=>(look l [(3,{ ts:=bl 31 454,bs:=bl 31 0,nm:=[(.sl 7,124)] })]).getD ⟨[],[],[],[],[],false⟩
def r21_Within_s3 (t:Term) (from_:Int) (to_:Int) (v0:Int) : S Un:=(st 31 31 125 0 [(1,ai from_),(2,ai to_),(6,ab false),(7,ao 124),(8,ai v0)] [] [(124,some ⟨(0:Nat),Ty.int,r21_Uses (Term.ids t) (0:Int),none,true⟩)])
def r21_Within_B3 : Code:=sub (bodyOf Tryz.f91) [1,1,0,1,2,2]
def r21_Within_L3 : S Un→Option (EX Un):=loopF (N_r21_Within 3) (fun s Q=>awf M_r21_Within N_r21_Within r21_Within_B3 s Q)
def r21_Within_C3 : Exit→S Un→Option (RF Un):=ctxF M_r21_Within N_r21_Within (bodyOf Tryz.f91) [1,1,0,1,2] (retF M_r21_Within Tryz.f91.results.toList [.d])
def r21_Within_fn (t:Term) (from_:Int) (to_:Int) : Option (RF Un):=awf M_r21_Within N_r21_Within (bodyOf Tryz.f91) (entry Tryz.f91.ntmps 1 [.d (.agg (enc Ty.term t)),.d (.v (.s (.int .i64 from_))),.d (.v (.s (.int .i64 to_)))]) (retF M_r21_Within Tryz.f91.results.toList [.d])
theorem r21_Within_in (t:Term) (from_:Int) (to_:Int) : r21_Within_fn t from_ to_=obO (inOK (0:Int) (Term.ids t).sz) ((r21_Within_L3 (r21_Within_s3 t from_ to_ (0:Int))).bind (thenX r21_Within_C3)):=by kernel_rfl
theorem r21_Within_l3 (t:Term) (from_:Int) (to_:Int) (v0:Int) : r21_Within_L3 (r21_Within_s3 t from_ to_ v0)=cndO (decide (v0<(↑(r21_Uses (Term.ids t) (0:Int)).length:Int))) (obO (0≤v0∧v0<(↑(r21_Uses (Term.ids t) (0:Int)).length:Int)) (cndO (decide ((r21_Uses (Term.ids t) (0:Int)).getD v0.toNat 0<from_)) (some (.ret,(r21_Within_s3 t from_ to_ v0))) (obO (0≤v0∧v0<(↑(r21_Uses (Term.ids t) (0:Int)).length:Int)) (cndO (decide ((r21_Uses (Term.ids t) (0:Int)).getD v0.toNat (0:Int)≥to_)) (some (.ret,(r21_Within_s3 t from_ to_ v0))) (r21_Within_L3 (r21_Within_s3 t from_ to_ (IntKind.i64.wrap (v0+1)))))))) (some (.exit 0,(r21_Within_s3 t from_ to_ v0))):=(loopF_eq (N_r21_Within 3) r21_Within_B3 _).trans (by kernel_rfl)
theorem r21_Within_a3_ret (t:Term) (from_:Int) (to_:Int) (v0:Int) : r21_Within_C3 .ret (r21_Within_s3 t from_ to_ v0)=some (R_r21_Within (false)):=by kernel_rfl
theorem r21_Within_a3_x0 (t:Term) (from_:Int) (to_:Int) (v0:Int) : r21_Within_C3 (.exit 0) (r21_Within_s3 t from_ to_ v0)=some (R_r21_Within (true)):=by kernel_rfl
def r21_Within (t:Term) (from_ to_:Int) : Bool:=withinA t from_ to_
theorem r21_Within_spec (t:Term) (from_ to_:Int) (_ht:WS .term t) (_hf:WI from_) (_hu:WI to_) (h:t.sz≤2000000) : r21_Within_fn t from_ to_=some (R_r21_Within (r21_Within t from_ to_)):=by
  have hul:=usesA_len t 0
  rw[r21_Within_in,Term.ids_eq,obO_pos (show inOK _ _ from ⟨by omega,by omega,h⟩)]
  refine (loop_all (L:=r21_Within_L3) (st:=fun i=>r21_Within_s3 t from_ to_ i) (fun r=>some (R_r21_Within r)) (l:=usesA t 0) (d:=0) (fun a=>decide (from_≤a∧a<to_)) (by omega)
    (fun i x hi hx hm=>by
      rw[r21_Within_l3]
      simp only[cndO_eq,decide_eq_true_eq,Term.ids_eq,r21_Uses,Int.toNat_natCast]
      rw[if_pos (by omega),obO_pos (by omega),obO_pos (by omega),hx]
      by_cases e1 : x<from_
      · rw[if_pos e1,if_neg (by omega)]
      · rw[if_neg e1]
        by_cases e2 : x≥to_
        · rw[if_pos e2,if_neg (by omega)]
        · rw[if_neg e2,if_pos (by omega)])
    (by
      rw[r21_Within_l3]
      simp only[cndO_eq,decide_eq_true_eq,Term.ids_eq,r21_Uses]
      rw[if_neg (by omega)]) (fun i=>r21_Within_a3_ret _ _ _ _) (fun i=>r21_Within_a3_x0 _ _ _ _)).trans ?_
  rfl
def F_r21_Within : FnC Un:=fun args=>match args with
  | [x0,x1,x2]=>(dS .term x0).bind fun t=>(dI .i64 x1).bind fun from_=>(dI .i64 x2).bind fun to_=>some ([t.sz≤2000000],A_r21_Within (r21_Within t from_ to_),O_r21_Within (r21_Within t from_ to_))
  | _=>none
theorem ok_r21_Within : FnOK 91 F_r21_Within:=by
  intro args ob rs os h hob
  unfold F_r21_Within at h
  split at h
  · simp only[Option.bind_eq_some_iff,Option.some.injEq,Prod.mk.injEq] at h
    obtain⟨t,e0,from_,e1,to_,e2,rfl,rfl,rfl⟩:=h
    obtain rfl:=dS_eq e0
    obtain rfl:=dI_eq e1
    obtain rfl:=dI_eq e2
    exact⟨fn_contractF (M:=M_r21_Within) rfl (tbl_ok (l1:=[(93,F_r21_Uses)]) (l2:=[]) (l3:=[]) (l4:=[]) (l5:=[]) ⟨ok_r21_Uses,trivial⟩ trivial trivial trivial trivial) Tryz.func91 (by kernel_rfl) N_r21_Within 1 [.d] (fun hwf=>(r21_Within_spec t from_ to_ (wfArg hwf (a:=.d (.agg (enc Ty.term t))) (List.mem_of_getElem? (i:=0) rfl)) (wfArg hwf (a:=.d (.v (.s (.int .i64 from_)))) (List.mem_of_getElem? (i:=1) rfl)) (wfArg hwf (a:=.d (.v (.s (.int .i64 to_)))) (List.mem_of_getElem? (i:=2) rfl)) (hob _ (List.mem_of_getElem? (i:=0) rfl)))),hasBody_of Tryz.func91 (by kernel_rfl) (by kernel_rfl)⟩
  · simp at h
end
end Go.Proofs.YtolbngdhgcbmgaaGreat.B
namespace Go.Proofs.YtolbngdhgcbmgaaGreat.B
open Go Go.RowKit
set_option maxRecDepth 100000
noncomputable section
attribute [local irreducible] awp ctxK itersK iterK retQ retGQ awf ctxF loopF
mutual
def plainT : Term→Bool
  | .mk _ _ _ _ _ kids sub _=>sub.isEmpty && plainTs kids
def plainTs : List Term→Bool
  | []=>true
  | t::r=>plainT t && plainTs r
end
theorem plainT_eq (t:Term) : plainT t=(t.sub.isEmpty && plainTs t.kids):=by cases t;simp only[plainT,Term.sub_mk,Term.kids_mk]
end
end Go.Proofs.YtolbngdhgcbmgaaGreat.B
namespace Go.Proofs.YtolbngdhgcbmgaaGreat.B
open Go Go.RowKit
set_option maxRecDepth 100000
noncomputable section
attribute [local irreducible] awp ctxK itersK iterK retQ retGQ awf ctxF loopF
def pushFilter (r:Rel) (parts:List Term) : Rel:=if parts.length=0 then r else .mk 3 ⟨#[]⟩ r.cols [r] [joinT parts] [] [] 0 0 false []
def pushWith (r:Rel) (kids:List Rel) : Rel:=.mk r.op r.table r.cols kids r.terms r.aggs r.keys r.limit r.skip r.all r.rows
def pushDown (t:Term) (less width:Int) : Term:=moveA t 0 ((List.range width.toNat).map fun (i:Nat)=>IntKind.i64.wrap ((i:Int) - less))
mutual
def putT (l:List Term) : Term→Term
  | .mk op v depth at_ name kids sub type=>if op=2 then (if depth=0 then l.getD at_.toNat zeroTerm else .mk op v depth at_ name kids sub type) else .mk op v depth at_ name (putTs l kids) sub type
def putTs (l:List Term) : List Term→List Term
  | []=>[]
  | t::r=>putT l t::putTs l r
end
mutual
def putR (l:List Term) : Term→Term
  | .mk op v depth at_ name kids sub type=>if op=2∧depth=0 then l.getD at_.toNat zeroTerm else .mk op v depth at_ name (putRs l kids) sub type
def putRs (l:List Term) : List Term→List Term
  | []=>[]
  | t::r=>putR l t::putRs l r
end
def plainP (t:Term) (l:List Term) : Bool:=plainT t && (usesA t 0).all fun a=>decide (0≤a∧a<(l.length:Int)) && plainT (l.getD a.toNat zeroTerm)
def plainR (t:Term) (l:List Term) : Bool:=plainT t && (usesA t 0).all fun a=>decide (a<(l.length:Int)) && plainT (l.getD a.toNat zeroTerm)
def formedR (k:Rel) : Bool:=if k.op=3 then decide (k.kids.length=1∧k.terms.length=1) else if k.op=5∨k.op=6 then decide (k.kids.length=2) else if k.op=4∨k.op=7 then decide (k.kids.length=1) else true
def ruleT (t:Term) (k:Rel) : Option Rel :=
  let a:=k.kids.getD 0 zeroRel
  let b:=k.kids.getD 1 zeroRel
  let n:=widthR a
  let m:=IntKind.i64.wrap (n+widthR b)
  let ps:=splitT t
  if k.op=3 then some (pushFilter a (splitT (k.terms.getD 0 zeroTerm)++ps))
  else if k.op=5 then
    (let rest:=ps.filter fun p=>!withinA p 0 n
     let on:=(if k.terms.length > 0 then splitT (k.terms.getD 0 zeroTerm) else [])++rest.filter fun p=>!withinA p n m
     some (.mk 5 ⟨#[]⟩ k.cols [pushFilter a (ps.filter fun p=>withinA p 0 n),pushFilter b ((rest.filter fun p=>withinA p n m).map fun p=>pushDown p n m)] (if on.length > 0 then [joinT on] else []) [] [] 0 0 false []))
  else if k.op=6 then (if (ps.filter fun p=>withinA p 0 n).length=0 then none else some (pushFilter (pushWith k [pushFilter a (ps.filter fun p=>withinA p 0 n),b]) (ps.filter fun p=>!withinA p 0 n)))
  else if k.op=4 then (if plainP t k.terms=true then some (pushWith k [pushFilter a [putT k.terms t]]) else none)
  else if k.op=8∨k.op=12∨k.op=9 then some (pushWith k (k.kids.map fun x=>pushFilter x [t]))
  else if k.op=7 then
    (let so:=fun p=>withinA p 0 (k.terms.length:Int) && plainP p k.terms
     if k.terms.length=0∨(ps.filter so).length=0 then none else some (pushFilter (pushWith k [pushFilter a ((ps.filter so).map (putT k.terms))]) (ps.filter fun p=>!so p)))
  else none
def pushOnce (r:Rel) : Rel×Bool :=
  if r.op=3∧r.kids.length=1∧r.terms.length=1∧formedR (r.kids.getD 0 zeroRel)=true then
    (match ruleT (r.terms.getD 0 zeroTerm) (r.kids.getD 0 zeroRel) with | some s=>(s,true) | none=>(r,false))
  else (r,false)
def ruleR (t:Term) (k:Rel) : Option Rel :=
  let a:=k.kids.getD 0 zeroRel
  let b:=k.kids.getD 1 zeroRel
  let n:=widthR a
  let m:=widthR k
  let ps:=splitT t
  if k.op=3 then some (pushFilter a (splitT (k.terms.getD 0 zeroTerm)++ps))
  else if k.op=5 then
    (let rest:=ps.filter fun p=>!withinA p 0 n
     let on:=(if k.terms.length > 0 then splitT (k.terms.getD 0 zeroTerm) else [])++rest.filter fun p=>!withinA p n m
     some (.mk k.op k.table k.cols [pushFilter a (ps.filter fun p=>withinA p 0 n),pushFilter b ((rest.filter fun p=>withinA p n m).map fun p=>pushDown p n m)] (if on.length > 0 then [joinT on] else []) k.aggs k.keys k.limit k.skip k.all k.rows))
  else if k.op=6 then (if (ps.filter fun p=>withinA p 0 n).length=0 then none else some (pushFilter (pushWith k [pushFilter a (ps.filter fun p=>withinA p 0 n),b]) (ps.filter fun p=>!withinA p 0 n)))
  else if k.op=4 then (if plainR t k.terms=true then some (pushWith k [pushFilter a [putR k.terms t]]) else none)
  else if k.op=8∨k.op=12 then some (pushWith k [pushFilter a [t]])
  else if k.op=9 then some (pushWith k [pushFilter a [t],pushFilter b [t]])
  else if k.op=7 then
    (let so:=fun p=>withinA p 0 (k.terms.length:Int) && plainR p k.terms
     if k.terms.length=0∨(ps.filter so).length=0 then none else some (pushFilter (pushWith k [pushFilter a ((ps.filter so).map (putR k.terms))]) (ps.filter fun p=>!so p)))
  else none
def refOnce (r:Rel) : Rel×Bool :=
  if r.op=3∧r.kids.length=1∧r.terms.length=1 then
    (match ruleR (r.terms.getD 0 zeroTerm) (r.kids.getD 0 zeroRel) with | some s=>(s,true) | none=>(r,false))
  else (r,false)
mutual
def bareT : Term→Prop
  | .mk op _ _ _ _ kids _ _=>(op=2→kids=[])∧bareTs kids
def bareTs : List Term→Prop
  | []=>True
  | t::l=>bareT t∧bareTs l
end
mutual
theorem put_same (l:List Term) : ∀ t : Term,bareT t→putT l t=putR l t
  | .mk op v depth at_ name kids sub type,h=>by
    simp only[bareT] at h
    simp only[putT,putR]
    by_cases h2 : op=2
    · rw[if_pos h2]
      by_cases hd : depth=0
      · rw[if_pos hd,if_pos ⟨h2,hd⟩]
      · rw[if_neg hd,if_neg (fun e=>hd e.2)]
        have : kids=[]:=h.1 h2
        subst this;rfl
    · rw[if_neg h2,if_neg (fun e=>h2 e.1),puts_same l kids h.2]
theorem puts_same (l:List Term) : ∀ r : List Term,bareTs r→putTs l r=putRs l r
  | [],_=>rfl
  | t::r,h=>by
    simp only[bareTs] at h
    simp only[putTs,putRs,put_same l t h.1,puts_same l r h.2]
end
mutual
theorem bare_of : ∀ (t:Term) (env:List Int),term15 t env=true→bareT t
  | .mk op v depth at_ name kids sub type,env,h=>by
    have hk:=h
    simp only[term15,Bool.and_eq_true] at hk
    obtain⟨⟨h1,h2⟩,_⟩:=hk
    simp only[bareT]
    refine⟨fun e=>?_,bares_of kids env h2⟩
    unfold head15 at h1
    simp only[Bool.and_eq_true,decide_eq_true_eq] at h1
    obtain⟨⟨⟨⟨_,_⟩,h3⟩,_⟩,_⟩:=h1
    have : (r15_op (.mk op v depth at_ name kids sub type)).2.1=0:=by unfold r15_op;rw[if_pos (.inr (.inl e))]
    rw[this] at h3
    simp only[Term.kids_mk] at h3
    exact List.length_eq_zero_iff.1 (by omega)
theorem bares_of : ∀ (l:List Term) (env:List Int),terms15 l env=true→bareTs l
  | [],_,_=>trivial
  | t::l,env,h=>by
    simp only[terms15,Bool.and_eq_true] at h
    exact⟨bare_of t env h.1,bares_of l env h.2⟩
end
mutual
theorem uses_of : ∀ (t:Term) (env:List Int) (d:Int),plainT t=true→term15 t env=true→∀ x∈inT d t,0≤x
  | .mk op v depth at_ name kids sub type,env,d,hp,h,x,hx=>by
    have hk:=h
    simp only[term15,Bool.and_eq_true] at hk
    obtain⟨⟨h1,h2⟩,_⟩:=hk
    simp only[plainT,Bool.and_eq_true,List.isEmpty_iff] at hp
    obtain⟨rfl,hp2⟩:=hp
    simp only[inT,inRs,List.append_nil,List.mem_append] at hx
    rcases hx with hx | hx
    · split at hx
      · rename_i hc
        rw[List.mem_singleton] at hx
        subst hx
        unfold head15 at h1
        simp only[Bool.and_eq_true] at h1
        have h4:=h1.2
        unfold r15_own at h4
        simp only[Bool.and_eq_true,Term.op_mk,Term.at__mk,Term.v_mk,Term.depth_mk] at h4
        have h2':op=2:=by first | exact hc.1 | exact hc
        have h5:=h4.2
        rw[h2'] at h5
        simp at h5
        exact h5.2.2.1
      · simp at hx
    · exact usess_of kids env d hp2 h2 x hx
theorem usess_of : ∀ (l:List Term) (env:List Int) (d:Int),plainTs l=true→terms15 l env=true→∀ x∈inTs d l,0≤x
  | [],_,_,_,_,x,hx=>by simp [inTs] at hx
  | t::l,env,d,hp,h,x,hx=>by
    simp only[terms15,Bool.and_eq_true] at h
    simp only[plainTs,Bool.and_eq_true] at hp
    simp only[inTs,List.mem_append] at hx
    rcases hx with hx | hx
    · exact uses_of t env d hp.1 h.1 x hx
    · exact usess_of l env d hp.2 h.2 x hx
end
theorem plain_same {t:Term} {env:List Int} (h:term15 t env=true) (l:List Term) : plainP t l=plainR t l:=by
  unfold plainP plainR
  cases hp : plainT t
  · rfl
  · rw[Bool.true_and,Bool.true_and]
    have hu:∀ x∈usesA t 0,0≤x:=fun x hx=>uses_of t env 0 hp h x ((riseI_mem _ _).1 hx)
    rw[Bool.eq_iff_iff,List.all_eq_true,List.all_eq_true]
    constructor
    · intro k x hx
      have:=k x hx
      simp only[Bool.and_eq_true,decide_eq_true_eq] at this ⊢
      exact⟨this.1.2,this.2⟩
    · intro k x hx
      have:=k x hx
      simp only[Bool.and_eq_true,decide_eq_true_eq] at this ⊢
      exact⟨⟨hu x hx,this.1⟩,this.2⟩
mutual
theorem split_ok : ∀ (t:Term) (env:List Int),term15 t env=true→∀ x∈splitT t,term15 x env=true
  | .mk op v depth at_ name kids sub type,env,h,x,hx=>by
    have hk:=h
    simp only[term15,Bool.and_eq_true] at hk
    simp only[splitT] at hx
    split at hx
    · exact splits_ok kids env hk.1.2 x hx
    · rw[List.mem_singleton] at hx;rw[hx];exact h
theorem splits_ok : ∀ (l:List Term) (env:List Int),terms15 l env=true→∀ x∈splitTs l,term15 x env=true
  | [],_,_,x,hx=>by simp [splitTs] at hx
  | t::l,env,h,x,hx=>by
    simp only[terms15,Bool.and_eq_true] at h
    simp only[splitTs,List.mem_append] at hx
    rcases hx with hx | hx
    · exact split_ok t env h.1 x hx
    · exact splits_ok l env h.2 x hx
end
theorem not_spare {k:Rel} (h:r15_spare k=false) : (k.op≠1→k.table=⟨#[]⟩)∧(k.op≠2→k.rows=[])∧(k.op≠7→k.aggs=[])∧(k.op≠12→k.keys=[])∧(k.op≠9∧k.op≠10∧k.op≠11→k.all=false)∧(k.op≠13→k.limit=0∧k.skip=0):=by
  unfold r15_spare at h
  simp only[Bool.or_eq_false_iff,Bool.and_eq_false_iff,Bool.not_eq_false',beq_iff_eq,decide_eq_false_iff_not,Bool.or_eq_true] at h
  obtain⟨⟨⟨⟨⟨⟨a1,a2⟩,_⟩,a4⟩,a5⟩,a6⟩,a7⟩:=h
  refine⟨fun e=>?_,fun e=>?_,fun e=>?_,fun e=>?_,fun e=>?_,fun e=>?_⟩
  · rcases a1 with a | a
    · exact absurd a e
    · exact bytes_ext a
  · rcases a2 with a | a
    · exact absurd a e
    · exact List.length_eq_zero_iff.1 (by omega)
  · rcases a4 with a | a
    · exact absurd a e
    · exact List.length_eq_zero_iff.1 (by omega)
  · rcases a5 with a | a
    · exact absurd a e
    · exact List.length_eq_zero_iff.1 (by omega)
  · rcases a6 with a | a
    · exact absurd a (by omega)
    · exact a
  · rcases a7 with a | a
    · exact absurd a e
    · exact a
theorem kids_one {k:Rel} (h:k.kids.length=1) : k.kids=[k.kids.getD 0 zeroRel]:=by
  match hk : k.kids,h with
  | [a],_=>rfl
theorem kids_two {k:Rel} (h:k.kids.length=2) : k.kids=[k.kids.getD 0 zeroRel,k.kids.getD 1 zeroRel]:=by
  match hk : k.kids,h with
  | [a,b],_=>rfl
theorem rule_same {t:Term} {k:Rel} {env env2:List Int} (hk:rel15 k env=true) (ht:term15 t env2=true) : formedR k=true∧ruleT t k=ruleR t k∨ruleR t k=none∧ruleT t k=none:=by
  rw[rel15_eq] at hk
  simp only[Bool.and_eq_true] at hk
  obtain⟨⟨⟨h1,_⟩,_⟩,h4⟩:=hk
  unfold headR15 at h1
  simp only[Bool.and_eq_true,decide_eq_true_eq,Bool.not_eq_true'] at h1
  obtain⟨⟨hn,hl⟩,hs⟩:=h1
  obtain⟨s1,s2,s3,s4,s5,s6⟩:=not_spare hs
  have hps:=split_ok t env2 ht
  unfold rest15 at h4
  by_cases c3 : k.op=3
  · rw[if_neg (by omega),if_neg (by omega),if_pos (.inl c3)] at h4
    simp only[Bool.and_eq_true,decide_eq_true_eq] at h4
    have hkl : k.kids.length = 1 := by have : kidsN k.op = 1 := by rw [c3]; rfl
                                       omega
    refine .inl ⟨by unfold formedR;rw[if_pos c3];exact decide_eq_true ⟨hkl,h4.1⟩,?_⟩
    unfold ruleT ruleR
    simp only[if_pos c3]
  by_cases c5 : k.op=5
  · have hkl : k.kids.length = 2 := by have : kidsN k.op = 2 := by rw [c5]; rfl
                                       omega
    have hw:widthR k=IntKind.i64.wrap (widthR (k.kids.getD 0 zeroRel)+widthR (k.kids.getD 1 zeroRel)):=by
      rw[widthR_eq,if_neg (by omega),if_neg (by omega),if_neg (by omega),if_neg (by omega),if_pos (.inl c5),widthsR_get _ _ (by omega),widthsR_get _ _ (by omega)]
    refine .inl ⟨by unfold formedR;rw[if_neg (by omega),if_pos (.inl c5)];exact decide_eq_true hkl,?_⟩
    unfold ruleT ruleR
    simp only[if_neg c3,if_pos c5]
    rw[hw,s1 (by omega),s2 (by omega),s3 (by omega),s4 (by omega),s5 (by omega),(s6 (by omega)).1,(s6 (by omega)).2,c5]
  by_cases c6 : k.op=6
  · have hkl : k.kids.length = 2 := by have : kidsN k.op = 2 := by rw [c6]; rfl
                                       omega
    refine .inl ⟨by unfold formedR;rw[if_neg (by omega),if_pos (.inr c6)];exact decide_eq_true hkl,?_⟩
    unfold ruleT ruleR
    simp only[if_neg c3,if_neg c5,if_pos c6]
  by_cases c4 : k.op=4
  · have hkl : k.kids.length = 1 := by have : kidsN k.op = 1 := by rw [c4]; rfl
                                       omega
    refine .inl ⟨by unfold formedR;rw[if_neg (by omega),if_neg (by omega),if_pos (.inl c4)];exact decide_eq_true hkl,?_⟩
    unfold ruleT ruleR
    simp only[if_neg c3,if_neg c5,if_neg c6,if_pos c4]
    rw[plain_same ht,put_same k.terms t (bare_of t env2 ht)]
  by_cases c8 : k.op=8∨k.op=12
  · have hkl : k.kids.length = 1 := by have : kidsN k.op = 1 := by rcases c8 with e | e <;> rw [e] <;> rfl
                                       omega
    refine .inl ⟨by unfold formedR;rw[if_neg (by omega),if_neg (by omega),if_neg (by omega)],?_⟩
    unfold ruleT ruleR
    simp only[if_neg c3,if_neg c5,if_neg c6,if_neg c4,if_pos c8]
    rw[if_pos (by omega)]
    congr 2
    conv=>lhs;rw[kids_one hkl]
    rfl
  by_cases c9 : k.op=9
  · have hkl : k.kids.length = 2 := by have : kidsN k.op = 2 := by rw [c9]; rfl
                                       omega
    refine .inl ⟨by unfold formedR;rw[if_neg (by omega),if_neg (by omega),if_neg (by omega)],?_⟩
    unfold ruleT ruleR
    simp only[if_neg c3,if_neg c5,if_neg c6,if_neg c4,if_neg c8,if_pos c9]
    rw[if_pos (by omega)]
    congr 2
    conv=>lhs;rw[kids_two hkl]
    rfl
  by_cases c7 : k.op=7
  · have hkl : k.kids.length = 1 := by have : kidsN k.op = 1 := by rw [c7]; rfl
                                       omega
    refine .inl ⟨by unfold formedR;rw[if_neg (by omega),if_neg (by omega),if_pos (.inr c7)];exact decide_eq_true hkl,?_⟩
    unfold ruleT ruleR
    simp only[if_neg c3,if_neg c5,if_neg c6,if_neg c4,if_neg c8,if_neg c9,if_pos c7]
    rw[if_neg (by omega)]
    have e1:∀ p∈splitT t,(withinA p 0 (k.terms.length:Int) && plainP p k.terms)=(withinA p 0 (k.terms.length:Int) && plainR p k.terms):=fun p hp=>by rw[plain_same (hps p hp)]
    have e2:(splitT t).filter (fun p=>withinA p 0 (k.terms.length:Int) && plainP p k.terms)=(splitT t).filter (fun p=>withinA p 0 (k.terms.length:Int) && plainR p k.terms):=List.filter_congr e1
    have e3:(splitT t).filter (fun p=>!(withinA p 0 (k.terms.length:Int) && plainP p k.terms))=(splitT t).filter (fun p=>!(withinA p 0 (k.terms.length:Int) && plainR p k.terms)):=List.filter_congr fun p hp=>by rw[e1 p hp]
    rw[e2,e3]
    have e4:((splitT t).filter (fun p=>withinA p 0 (k.terms.length:Int) && plainR p k.terms)).map (putT k.terms)=((splitT t).filter (fun p=>withinA p 0 (k.terms.length:Int) && plainR p k.terms)).map (putR k.terms) :=
      List.map_congr_left fun p hp=>put_same k.terms p (bare_of p env2 (hps p (List.mem_filter.1 hp).1))
    rw[e4]
  · refine .inr ⟨?_,?_⟩
    · unfold ruleR;simp only[if_neg c3,if_neg c5,if_neg c6,if_neg c4,if_neg c8,if_neg c9,if_neg c7]
    · unfold ruleT;simp only[if_neg c3,if_neg c5,if_neg c6,if_neg c4,if_neg c7];rw[if_neg (by omega)]
theorem once_same {r:Rel} {env:List Int} (hr:rel15 r env=true) : pushOnce r=refOnce r:=by
  unfold pushOnce refOnce
  by_cases c : r.op=3∧r.kids.length=1∧r.terms.length=1
  · rw[if_pos c]
    rw[rel15_eq] at hr
    simp only[Bool.and_eq_true] at hr
    obtain⟨⟨⟨_,hk⟩,_⟩,h4⟩:=hr
    unfold rest15 at h4
    rw[if_neg (by omega),if_neg (by omega),if_pos (.inl c.1)] at h4
    simp only[Bool.and_eq_true] at h4
    have h1:=kids_one c.2.1
    have hk0:rel15 (r.kids.getD 0 zeroRel) env=true:=by
      rw[h1] at hk;simp only[rels15,Bool.and_true] at hk;exact hk
    have ht0:term15 (r.terms.getD 0 zeroTerm) (inW15 r::env)=true:=by
      have h2:r.terms=[r.terms.getD 0 zeroTerm]:=by
        match hk : r.terms,c.2.2 with
        | [a],_=>rfl
      have h3:=h4.2
      rw[h2] at h3;simp only[terms15,Bool.and_true] at h3;exact h3
    rcases rule_same hk0 ht0 with ⟨g1,g2⟩ | ⟨g1,g2⟩
    · rw[if_pos ⟨c.1,c.2.1,c.2.2,g1⟩,g2]
    · rw[g1,g2]
      split<;>rfl
  · rw[if_neg c,if_neg (fun e=>c ⟨e.1,e.2.1,e.2.2.1⟩)]
end
end Go.Proofs.YtolbngdhgcbmgaaGreat.B
