/- Part 28 of the proof: Sref22b. -/
import Derived.Test.YtolbngdhgcbmgaaGreatPonce27
namespace Go.Proofs.YtolbngdhgcbmgaaGreat.B
open Go Go.RowKit
set_option maxRecDepth 100000
noncomputable section
attribute [local irreducible] awp ctxK itersK iterK retQ retGQ awf ctxF loopF
mutual
def putRk (l:List Term) : Term→Prop
  | .mk op _ depth at_ _ kids _ _=>(op=2∧depth=0→0≤at_∧at_<(l.length:Int))∧(¬ (op=2∧depth=0)→kids.length≤2000000∧putRks l kids)
def putRks (l:List Term) : List Term→Prop
  | []=>True
  | t::r=>putRk l t∧putRks l r
end
theorem putRks_mem {l:List Term} : ∀ {r:List Term},putRks l r→∀ t∈r,putRk l t
  | [],_,_,h=>by simp at h
  | x::r,h,t,ht=>by
    simp only[putRks] at h
    rcases List.mem_cons.1 ht with rfl | ht
    · exact h.1
    · exact putRks_mem h.2 t ht
theorem putRs_map (l:List Term) : ∀ r : List Term,putRs l r=r.map (putR l)
  | []=>rfl
  | t::r=>by simp only[putRs,List.map_cons,putRs_map l r]
def r22_put (t:Term) (l:List Term) : Term:=putR l t
def A_r22_put (r:Term) : List (A Un):=[.agg (encC Ty.term r)]
def O_r22_put (_r:Term) : List (Ob Un):=[]
def Fm_r22_put (m:Nat) : FnC Un:=fun args=>match args with
  | [x0,x1]=>(dS .term x0).bind fun t=>(dL .term x1).bind fun l=>some ([t.ht<m,putRk l t],A_r22_put (r22_put t l),O_r22_put (r22_put t l))
  | _=>none
def M_r22_put (m:Nat) : Mc Un:=mach (tbl [(34,Fm_r22_put m)]) (tbl []) (tbl []) (tbl []) (tbl [])
def R_r22_put (r:Term) : RF Un:=(A_r22_put r,O_r22_put r)
def N_r22_put : Nat→NS:=fun l=>(look l [(5,{ ts:=bl 40 118,bs:=bl 40 20,nm:=[(.sl 5,160)],cs:=true })]).getD ⟨[],[],[],[],[],true⟩
def r22_put_c1 (t:Term) (l:List Term) (v0:Int):=r22_put (Term.mk (Term.op (t.kids.getD v0.toNat zeroTerm)) (Term.v (t.kids.getD v0.toNat zeroTerm)) (Term.depth (t.kids.getD v0.toNat zeroTerm)) (Term.at_ (t.kids.getD v0.toNat zeroTerm)) (Term.name (t.kids.getD v0.toNat zeroTerm)) (Term.kids (t.kids.getD v0.toNat zeroTerm)) (Term.sub (t.kids.getD v0.toNat zeroTerm)) (Term.type (t.kids.getD v0.toNat zeroTerm))) l
def r22_put_s5 (t:Term) (l:List Term) (v0:Int) (v1:List Term) : S Un:=(st 40 40 161 0 [(1,al .term l),(2,ax 2),(4,ax 4),(5,ao 160),(6,ai v0)] [(2,bg .term t),(4,some (false,[C.s (Value.int IntKind.i64 (0:Int)),C.s (Value.int IntKind.i64 (0:Int)),C.s (Value.int IntKind.i64 (0:Int)),C.s (Value.string (ByteArray.mk #[])),C.s (Value.int IntKind.i64 (0:Int)),C.s (Value.int IntKind.i64 (0:Int)),C.s (Value.string (ByteArray.mk #[])),C.sl Ty.term [] true,C.sl Ty.rel [] true,C.s (Value.int IntKind.i64 (0:Int))]))] [(160,some ⟨(0:Nat),Ty.term,v1,some (0:Nat),true⟩)])
def r22_put_B5 : Code:=sub (bodyOf Tryz.f34) [1,1,1,0,1,2,2]
def r22_put_L5 (m:Nat) : S Un→Option (EX Un):=loopF (N_r22_put 5) (fun s Q=>awf (M_r22_put m) N_r22_put r22_put_B5 s Q)
def r22_put_C5 (m:Nat) : Exit→S Un→Option (RF Un):=ctxF (M_r22_put m) N_r22_put (bodyOf Tryz.f34) [1,1,1,0,1,2] (retF (M_r22_put m) Tryz.f34.results.toList [.d])
def r22_put_fn (m:Nat) (t:Term) (l:List Term) : Option (RF Un):=awf (M_r22_put m) N_r22_put (bodyOf Tryz.f34) (entry Tryz.f34.ntmps 1 [.d (.agg (enc Ty.term t)),.d (.v (.dat (U:=Un) Ty.term l))]) (retF (M_r22_put m) Tryz.f34.results.toList [.d])
theorem r22_put_in (m:Nat) (t:Term) (l:List Term) : r22_put_fn m t l=cndO (t.op == 2) (cndO (t.depth == 0) (obO (0≤t.at_∧t.at_<(↑l.length:Int)) (some (R_r22_put (l.getD t.at_.toNat zeroTerm)))) ((r22_put_L5 m (r22_put_s5 t l (0:Int) ([]))).bind (thenX (r22_put_C5 m)))) ((r22_put_L5 m (r22_put_s5 t l (0:Int) ([]))).bind (thenX (r22_put_C5 m))):=by kernel_rfl
theorem r22_put_l5 (m:Nat) (t:Term) (l:List Term) (v0:Int) (v1:List Term) : r22_put_L5 m (r22_put_s5 t l v0 v1)=cndO (decide (v0<(↑t.kids.length:Int))) (obO (0≤v0∧v0<(↑t.kids.length:Int)) (obO ((Term.ids (t.kids.getD v0.toNat zeroTerm)).ht<m) (obO (putRk l (Term.ids (t.kids.getD v0.toNat zeroTerm))) (obO ((v1.length+[(Term.ids (r22_put_c1 t l v0))].length)*(128:Nat)≤roomB) (r22_put_L5 m (r22_put_s5 t l (IntKind.i64.wrap (v0+1)) (v1++[(Term.ids (r22_put_c1 t l v0))]))))))) (some (.exit 0,(r22_put_s5 t l v0 v1))):=(loopF_eq (N_r22_put 5) r22_put_B5 _).trans (by kernel_rfl)
theorem r22_put_a5_x0 (m:Nat) (t:Term) (l:List Term) (v0:Int) (v1:List Term) : r22_put_C5 m (.exit 0) (r22_put_s5 t l v0 v1)=some (R_r22_put (Term.mk t.op t.v t.depth t.at_ t.name v1 t.sub t.type)):=by kernel_rfl
theorem r22_put_spec (m:Nat) (t:Term) (l:List Term) (ht:WS .term t) (_hl:WL .term l) (hm:t.ht<m+1) (h:putRk l t) : r22_put_fn m t l=some (R_r22_put (r22_put t l)):=by
  have hk:WL .term t.kids:=ht.term_kids
  have hok:(t.op=2∧t.depth=0→0≤t.at_∧t.at_<(l.length:Int))∧(¬ (t.op=2∧t.depth=0)→t.kids.length≤2000000∧putRks l t.kids):=by
    cases t;simp only[putRk] at h;exact h
  have e:r22_put t l=if t.op=2∧t.depth=0 then l.getD t.at_.toNat zeroTerm else .mk t.op t.v t.depth t.at_ t.name (t.kids.map fun k=>r22_put k l) t.sub t.type:=by
    show putR l t=_
    cases t with
    | mk op v depth at_ name kids sub type=>simp only[putR,putRs_map];rfl
  have hlp:¬ (t.op=2∧t.depth=0)→(r22_put_L5 m (r22_put_s5 t l (0:Int) ([]))).bind (thenX (r22_put_C5 m))=some (R_r22_put (.mk t.op t.v t.depth t.at_ t.name (t.kids.map fun k=>r22_put k l) t.sub t.type)):=fun hn=>by
    obtain⟨k1,k2⟩:=hok.2 hn
    obtain⟨lp,_⟩:=loop_fold (e:=.exit 0) (L:=r22_put_L5 m) (st:=fun (s:List Term) i=>r22_put_s5 t l i s) (l:=t.kids) (d:=zeroTerm) (g:=fun s x=>s++[r22_put x l]) (fun i s=>s.length=i) hk.len
      (fun s i x hi hx hI=>by
        have hI':s.length=i:=hI
        have hmem:x∈t.kids:=by rw[← hx,List.getD_eq_getElem?_getD,List.getElem?_eq_getElem (by omega)];exact List.getElem_mem _
        have hht:=Term.ht_kid hmem
        have e1:r22_put_c1 t l (i:Int)=r22_put x l:=by unfold r22_put_c1;rw[Int.toNat_natCast,hx,term_eta]
        refine⟨by show (s++[_]).length=i+1;rw[List.length_append,List.length_singleton];omega,?_⟩
        rw[r22_put_l5]
        simp only[cndO_eq,hi,decide_true,if_true,and_true,Int.toNat_natCast,hx,Term.ids_eq,e1]
        rw[obO_pos (by omega),obO_pos (by omega),obO_pos (putRks_mem k2 x hmem),obO_pos (by unfold roomB;rw[List.length_singleton];omega)])
      (fun s _=>by rw[r22_put_l5];simp [cndO_eq]) [] rfl
    rw[fold_snoc,List.nil_append] at lp
    refine (loop_end lp).trans ?_
    rw[r22_put_a5_x0]
  rw[r22_put_in,e]
  simp only[cndO_eq,beq_iff_eq]
  by_cases h2 : t.op=2
  · rw[if_pos h2]
    by_cases hd : t.depth=0
    · rw[if_pos hd,if_pos ⟨h2,hd⟩,obO_pos (hok.1 ⟨h2,hd⟩)]
    · rw[if_neg hd,if_neg (fun e=>hd e.2),hlp (fun e=>hd e.2)]
  · rw[if_neg h2,if_neg (fun e=>h2 e.1),hlp (fun e=>h2 e.1)]
theorem okm_r22_put (m:Nat) (h_r22_put:FnOK 34 (Fm_r22_put m)) : FnOK 34 (Fm_r22_put (m+1)):=by
  intro args ob rs os h hob
  unfold Fm_r22_put at h
  split at h
  · simp only[Option.bind_eq_some_iff,Option.some.injEq,Prod.mk.injEq] at h
    obtain⟨t,e0,l,e1,rfl,rfl,rfl⟩:=h
    obtain rfl:=dS_eq e0
    obtain rfl:=dL_eq e1
    exact⟨fn_contractF (M:=(M_r22_put m)) rfl (tbl_ok (l1:=[(34,Fm_r22_put m)]) (l2:=[]) (l3:=[]) (l4:=[]) (l5:=[]) ⟨h_r22_put,trivial⟩ trivial trivial trivial trivial) Tryz.func34 (by kernel_rfl) N_r22_put 1 [.d] (fun hwf=>(r22_put_spec m t l (wfArg hwf (a:=.d (.agg (enc Ty.term t))) (List.mem_of_getElem? (i:=0) rfl)) (wfArg hwf (a:=.d (.v (.dat (U:=Un) Ty.term l))) (List.mem_of_getElem? (i:=1) rfl)) (hob _ (List.mem_of_getElem? (i:=0) rfl)) (hob _ (List.mem_of_getElem? (i:=1) rfl)))),hasBody_of Tryz.func34 (by kernel_rfl) (by kernel_rfl)⟩
  · simp at h
theorem okAll_r22putG : ∀ m,FnOK 34 (Fm_r22_put m)
  | 0=>by
    skip
    intro args ob rs os h hob
    unfold Fm_r22_put at h
    split at h
    · simp only[Option.bind_eq_some_iff,Option.some.injEq,Prod.mk.injEq] at h
      obtain⟨_,_,_,_,rfl,_,_⟩:=h
      exact absurd (hob _ (List.mem_of_getElem? (i:=0) rfl)) (Nat.not_lt_zero _)
    · simp at h
  | m+1=>by
    have ih:=okAll_r22putG m
    exact okm_r22_put m ih
def F_r22_put : FnC Un:=fun args=>match args with
  | [x0,x1]=>(dS .term x0).bind fun t=>(dL .term x1).bind fun l=>some ([putRk l t],A_r22_put (r22_put t l),O_r22_put (r22_put t l))
  | _=>none
theorem ok_r22_put : FnOK 34 F_r22_put:=by
  intro args ob rs os h hob
  unfold F_r22_put at h
  split at h
  · simp only[Option.bind_eq_some_iff,Option.some.injEq,Prod.mk.injEq] at h
    obtain⟨t,e0,l,e1,rfl,rfl,rfl⟩:=h
    refine ((okAll_r22putG (t.ht+1))) _ [t.ht<t.ht+1,putRk l t] _ _ (?_ : Fm_r22_put (t.ht+1) _=some _) ?_
    · unfold Fm_r22_put
      simp only[e0,e1,Option.bind_some]
    · intro p hp
      simp only[List.mem_cons,List.not_mem_nil,or_false] at hp
      rcases hp with rfl | rfl
      · exact Nat.lt_succ_self _
      · exact hob _ (List.mem_of_getElem? (i:=0) rfl)
  · simp at h
def M_r22_plain : Mc Un:=mach (tbl [(92,F_r15_Plain),(93,F_r21_Uses)]) (tbl []) (tbl []) (tbl []) (tbl [])
def A_r22_plain (r:Bool) : List (A Un):=[.c (.s (.bool r))]
def O_r22_plain (_r:Bool) : List (Ob Un):=[]
def R_r22_plain (r:Bool) : RF Un:=(A_r22_plain r,O_r22_plain r)
def N_r22_plain : Nat→NS:=fun l=>(look l [(5,{ ts:=bl 36 114,bs:=bl 36 0,nm:=[(.sl 5,144)],cs:=true })]).getD ⟨[],[],[],[],[],true⟩
def r22_plain_s5 (t:Term) (l:List Term) (v0:Int) : S Un:=(st 36 36 145 0 [(1,al .term l),(4,ab false),(5,ao 144),(6,ai v0)] [] [(144,some ⟨(0:Nat),Ty.int,r21_Uses (Term.ids t) (0:Int),none,true⟩)])
def r22_plain_B5 : Code:=sub (bodyOf Tryz.f32) [1,1,1,0,1,2,2]
def r22_plain_L5 : S Un→Option (EX Un):=loopF (N_r22_plain 5) (fun s Q=>awf M_r22_plain N_r22_plain r22_plain_B5 s Q)
def r22_plain_C5 : Exit→S Un→Option (RF Un):=ctxF M_r22_plain N_r22_plain (bodyOf Tryz.f32) [1,1,1,0,1,2] (retF M_r22_plain Tryz.f32.results.toList [.d])
def r22_plain_fn (t:Term) (l:List Term) : Option (RF Un):=awf M_r22_plain N_r22_plain (bodyOf Tryz.f32) (entry Tryz.f32.ntmps 1 [.d (.agg (enc Ty.term t)),.d (.v (.dat (U:=Un) Ty.term l))]) (retF M_r22_plain Tryz.f32.results.toList [.d])
theorem r22_plain_in (t:Term) (l:List Term) : r22_plain_fn t l=cndO (!r15_Plain (Term.ids t)) (some (R_r22_plain (false))) (obO (inOK (0:Int) (Term.ids t).sz) ((r22_plain_L5 (r22_plain_s5 t l (0:Int))).bind (thenX r22_plain_C5))):=by kernel_rfl
theorem r22_plain_l5 (t:Term) (l:List Term) (v0:Int) : r22_plain_L5 (r22_plain_s5 t l v0)=cndO (decide (v0<(↑(r21_Uses (Term.ids t) (0:Int)).length:Int))) (obO (0≤v0∧v0<(↑(r21_Uses (Term.ids t) (0:Int)).length:Int)) (cndO (decide ((r21_Uses (Term.ids t) (0:Int)).getD v0.toNat (0:Int)≥(↑l.length:Int))) (some (.ret,(r22_plain_s5 t l v0))) (obO (0≤v0∧v0<(↑(r21_Uses (Term.ids t) (0:Int)).length:Int)) (obO ((0:Int)≤(r21_Uses (Term.ids t) (0:Int)).getD v0.toNat (0:Int)∧(r21_Uses (Term.ids t) (0:Int)).getD v0.toNat (0:Int)<(↑l.length:Int)) (cndO (!r15_Plain (Term.ids (l.getD (Int.toNat ((r21_Uses (Term.ids t) (0:Int)).getD v0.toNat (0:Int))) zeroTerm))) (some (.ret,(r22_plain_s5 t l v0))) (r22_plain_L5 (r22_plain_s5 t l (IntKind.i64.wrap (v0+1))))))))) (some (.exit 0,(r22_plain_s5 t l v0))):=(loopF_eq (N_r22_plain 5) r22_plain_B5 _).trans (by kernel_rfl)
theorem r22_plain_a5_ret (t:Term) (l:List Term) (v0:Int) : r22_plain_C5 .ret (r22_plain_s5 t l v0)=some (R_r22_plain (false)):=by kernel_rfl
theorem r22_plain_a5_x0 (t:Term) (l:List Term) (v0:Int) : r22_plain_C5 (.exit 0) (r22_plain_s5 t l v0)=some (R_r22_plain (true)):=by kernel_rfl
def posT (t:Term) : Prop:=plainT t=true→∀ x∈usesA t 0,0≤x
def r22_plain (t:Term) (l:List Term) : Bool:=plainR t l
theorem r22_plain_spec (t:Term) (l:List Term) (_ht:WS .term t) (_hl:WL .term l) (h:t.sz≤2000000) (h2:posT t) : r22_plain_fn t l=some (R_r22_plain (r22_plain t l)):=by
  have hul:=usesA_len t 0
  have eu:r21_Uses t 0=usesA t 0:=rfl
  have ep:∀ t,r15_Plain t=plainT t:=fun _=>rfl
  rw[r22_plain_in]
  simp only[Term.ids_eq,ep]
  unfold r22_plain plainR
  by_cases hp : plainT t=true
  · have hpos:=h2 hp
    rw[cndO_eq,if_neg (by rw[hp];decide),hp,Bool.true_and,obO_pos (show inOK 0 t.sz from by refine⟨by omega,by omega,h⟩)]
    refine (loop_all (L:=r22_plain_L5) (st:=fun i=>r22_plain_s5 t l i) (fun r=>some (R_r22_plain r)) (l:=usesA t 0) (d:=0) (fun a=>decide (a<(l.length:Int)) && plainT (l.getD a.toNat zeroTerm)) (by omega)
      (fun i x hi hx hmem=>by
        have h0:=hpos x hmem
        rw[r22_plain_l5]
        simp only[Term.ids_eq,eu,ep,cndO_eq,hi,decide_true,if_true,and_true,Int.toNat_natCast,hx,decide_eq_true_eq,Bool.and_eq_true]
        rw[obO_pos (by omega)]
        by_cases h3 : x≥(l.length:Int)
        · rw[if_pos h3,if_neg (fun e=>by omega)]
        · rw[if_neg h3,obO_pos (by omega),obO_pos (by omega)]
          cases hq : plainT (l.getD x.toNat zeroTerm)
          · rw[if_pos (by decide),if_neg (fun e=>by simp at e)]
          · rw[if_neg (by decide),if_pos ⟨by omega,rfl⟩])
      (by rw[r22_plain_l5];simp [Term.ids_eq,eu,cndO_eq]) (fun i=>r22_plain_a5_ret _ _ _) (fun i=>r22_plain_a5_x0 _ _ _)).trans ?_
    rfl
  · have hp':plainT t=false:=by simpa using hp
    rw[hp',cndO_eq,if_pos (by decide),Bool.false_and]
def F_r22_plain : FnC Un:=fun args=>match args with
  | [x0,x1]=>(dS .term x0).bind fun t=>(dL .term x1).bind fun l=>some ([t.sz≤2000000,posT t],A_r22_plain (r22_plain t l),O_r22_plain (r22_plain t l))
  | _=>none
theorem ok_r22_plain : FnOK 32 F_r22_plain:=by
  intro args ob rs os h hob
  unfold F_r22_plain at h
  split at h
  · simp only[Option.bind_eq_some_iff,Option.some.injEq,Prod.mk.injEq] at h
    obtain⟨t,e0,l,e1,rfl,rfl,rfl⟩:=h
    obtain rfl:=dS_eq e0
    obtain rfl:=dL_eq e1
    exact⟨fn_contractF (M:=M_r22_plain) rfl (tbl_ok (l1:=[(92,F_r15_Plain),(93,F_r21_Uses)]) (l2:=[]) (l3:=[]) (l4:=[]) (l5:=[]) ⟨ok_r15_Plain,ok_r21_Uses,trivial⟩ trivial trivial trivial trivial) Tryz.func32 (by kernel_rfl) N_r22_plain 1 [.d] (fun hwf=>(r22_plain_spec t l (wfArg hwf (a:=.d (.agg (enc Ty.term t))) (List.mem_of_getElem? (i:=0) rfl)) (wfArg hwf (a:=.d (.v (.dat (U:=Un) Ty.term l))) (List.mem_of_getElem? (i:=1) rfl)) (hob _ (List.mem_of_getElem? (i:=0) rfl)) (hob _ (List.mem_of_getElem? (i:=1) rfl)))),hasBody_of Tryz.func32 (by kernel_rfl) (by kernel_rfl)⟩
  · simp at h
mutual
theorem putR_ok_of : ∀ (l:List Term) (t:Term) (n:Nat),(∀ x∈inT 0 t,0≤x∧x<(l.length:Int))→t.sz≤n→n≤2000000→putRk l t
  | l,.mk op v depth at_ name kids sub type,n,h,hs,hn=>by
    simp only[Term.sz] at hs
    have hl:=szTs_len kids
    simp only[putRk]
    refine⟨fun hc=>h at_ ?_,fun _=>⟨by omega,putRs_ok_of l kids n (fun x hx=>h x ?_) (by omega) hn⟩⟩
    · simp only[inT,List.mem_append];exact .inl (.inl (by rw[if_pos ⟨hc.1,hc.2⟩];simp))
    · simp only[inT,List.mem_append];exact .inl (.inr hx)
theorem putRs_ok_of : ∀ (l r:List Term) (n:Nat),(∀ x∈inTs 0 r,0≤x∧x<(l.length:Int))→szTs r≤n→n≤2000000→putRks l r
  | _,[],_,_,_,_=>trivial
  | l,t::r,n,h,hs,hn=>by
    simp only[szTs] at hs
    exact⟨putR_ok_of l t n (fun x hx=>h x (by simp only[inTs,List.mem_append];exact .inl hx)) (by omega) hn,putRs_ok_of l r n (fun x hx=>h x (by simp only[inTs,List.mem_append];exact .inr hx)) (by omega) hn⟩
end
theorem plain_putR {t:Term} {l:List Term} (h:plainR t l=true) (hp:posT t) (hs:t.sz≤2000000) : putRk l t:=by
  unfold plainR at h
  simp only[Bool.and_eq_true,List.all_eq_true,decide_eq_true_eq] at h
  exact putR_ok_of l t 2000000 (fun x hx=>⟨hp h.1 x ((riseI_mem _ _).2 hx),(h.2 x ((riseI_mem _ _).2 hx)).1⟩) hs (by omega)
mutual
theorem splitT_WS : ∀ t : Term,WS .term t→∀ p∈splitT t,WS .term p
  | .mk op v depth at_ name kids sub type,hw,p,hp=>by
    have hk:WL .term kids:=hw.term_kids
    simp only[splitT] at hp
    split at hp
    · exact splitTs_WS kids hk p hp
    · rw[List.mem_singleton] at hp;rw[hp];exact hw
theorem splitTs_WS : ∀ l : List Term,WL .term l→∀ p∈splitTs l,WS .term p
  | [],_,p,hp=>by simp [splitTs] at hp
  | t::l,hw,p,hp=>by
    simp only[splitTs,List.mem_append] at hp
    rcases hp with hp | hp
    · exact splitT_WS t (hw.get List.mem_cons_self) p hp
    · exact splitTs_WS l (hw.drop 1) p hp
end
theorem split_parts {t:Term} (h:t.sz≤2000000) : partsOK (splitT t):=by
  have h1:=splitT_sz t
  have h2:=splitT_len t
  exact⟨fun x hx=>by have:=szTs_mem hx;omega,by omega⟩
theorem parts_filter {l:List Term} (f:Term→Bool) (h:partsOK l) : partsOK (l.filter f):=⟨fun x hx=>h.1 x (List.mem_filter.1 hx).1,Nat.le_trans (List.length_filter_le _ _) h.2⟩
def M_r22_group : Mc Un:=mach (tbl [(28,F_r21_Split),(91,F_r21_Within),(32,F_r22_plain),(34,F_r22_put)]) (tbl []) (tbl []) (tbl []) (tbl [])
def A_r22_group (r:List Term×List Term) : List (A Un):=[.c (.ob 0 0),.c (.ob 1 0)]
def O_r22_group (r:List Term×List Term) : List (Ob Un):=[⟨0,Ty.term,r.1,some 0,true⟩,⟨0,Ty.term,r.2,some 0,true⟩]
def R_r22_group (r:List Term×List Term) : RF Un:=(A_r22_group r,O_r22_group r)
def N_r22_group : Nat→NS:=fun l=>(look l [(4,{ ts:=bl 54 968,bs:=bl 54 8,nm:=[(.sl 6,216),(.sl 7,217),(.sl 8,218)],cs:=true })]).getD ⟨[],[],[],[],[],true⟩
def r22_group_c1 (t:Term):=r21_Split (Term.mk t.op t.v t.depth t.at_ t.name t.kids t.sub t.type)
def r22_group_c2 (t:Term) (q:Rel) (v0:Int):=r22_put (Term.mk (Term.op ((r22_group_c1 t).getD v0.toNat zeroTerm)) (Term.v ((r22_group_c1 t).getD v0.toNat zeroTerm)) (Term.depth ((r22_group_c1 t).getD v0.toNat zeroTerm)) (Term.at_ ((r22_group_c1 t).getD v0.toNat zeroTerm)) (Term.name ((r22_group_c1 t).getD v0.toNat zeroTerm)) (Term.kids ((r22_group_c1 t).getD v0.toNat zeroTerm)) (Term.sub ((r22_group_c1 t).getD v0.toNat zeroTerm)) (Term.type ((r22_group_c1 t).getD v0.toNat zeroTerm))) q.terms
def r22_group_s4 (t:Term) (q:Rel) (v0:Int) (v1:List Term) (v2:List Term) : S Un:=(st 54 54 219 0 [(3,ax 3),(6,ao 216),(7,ao 217),(8,ao 218),(9,ai v0)] [(3,bg .rel q)] [(216,some ⟨(0:Nat),Ty.term,r21_Split (Term.ids t),none,true⟩),(217,some ⟨(0:Nat),Ty.term,v1,some (0:Nat),true⟩),(218,some ⟨(0:Nat),Ty.term,v2,some (0:Nat),true⟩)])
def r22_group_B4 : Code:=sub (bodyOf Tryz.f35) [1,1,1,0,1,2,2]
def r22_group_L4 : S Un→Option (EX Un):=loopF (N_r22_group 4) (fun s Q=>awf M_r22_group N_r22_group r22_group_B4 s Q)
def r22_group_C4 : Exit→S Un→Option (RF Un):=ctxF M_r22_group N_r22_group (bodyOf Tryz.f35) [1,1,1,0,1,2] (retF M_r22_group Tryz.f35.results.toList [.m,.m])
def r22_group_fn (t:Term) (q:Rel) : Option (RF Un):=awf M_r22_group N_r22_group (bodyOf Tryz.f35) (entry Tryz.f35.ntmps 3 [.d (.agg (enc Ty.term t)),.d (.agg (enc Ty.rel q))]) (retF M_r22_group Tryz.f35.results.toList [.m,.m])
theorem r22_group_in (t:Term) (q:Rel) : r22_group_fn t q=obO ((Term.ids t).sz≤(2000000:Nat)) ((r22_group_L4 (r22_group_s4 t q (0:Int) ([]) ([]))).bind (thenX r22_group_C4)):=by kernel_rfl
def r22_group_t1 (t:Term) (q:Rel) (v0:Int) (v1:List Term) (v2:List Term) : Option (EX Un):=obO (0≤v0∧v0<(↑(r22_group_c1 t).length:Int)) (obO ((v2.length+[(Term.ids ((r22_group_c1 t).getD v0.toNat zeroTerm))].length)*(128:Nat)≤roomB) (r22_group_L4 (r22_group_s4 t q (IntKind.i64.wrap (v0+1)) v1 (v2++[(Term.ids ((r22_group_c1 t).getD v0.toNat zeroTerm))]))))
theorem r22_group_l4 (t:Term) (q:Rel) (v0:Int) (v1:List Term) (v2:List Term) : r22_group_L4 (r22_group_s4 t q v0 v1 v2)=cndO (decide (v0<(↑(r22_group_c1 t).length:Int))) (obO (0≤v0∧v0<(↑(r22_group_c1 t).length:Int)) (obO ((Term.ids ((r22_group_c1 t).getD v0.toNat zeroTerm)).sz≤(2000000:Nat)) (cndO (r21_Within (Term.ids ((r22_group_c1 t).getD v0.toNat zeroTerm)) (0:Int) (↑q.terms.length:Int)) (obO (0≤v0∧v0<(↑(r22_group_c1 t).length:Int)) (obO ((Term.ids ((r22_group_c1 t).getD v0.toNat zeroTerm)).sz≤(2000000:Nat)) (obO (posT (Term.ids ((r22_group_c1 t).getD v0.toNat zeroTerm))) (cndO (r22_plain (Term.ids ((r22_group_c1 t).getD v0.toNat zeroTerm)) q.terms) (obO (0≤v0∧v0<(↑(r22_group_c1 t).length:Int)) (obO (putRk q.terms (Term.ids ((r22_group_c1 t).getD v0.toNat zeroTerm))) (obO ((v1.length+[(Term.ids (r22_group_c2 t q v0))].length)*(128:Nat)≤roomB) (r22_group_L4 (r22_group_s4 t q (IntKind.i64.wrap (v0+1)) (v1++[(Term.ids (r22_group_c2 t q v0))]) v2))))) (r22_group_t1 t q v0 v1 v2))))) (r22_group_t1 t q v0 v1 v2)))) (some (.exit 0,(r22_group_s4 t q v0 v1 v2))):=(loopF_eq (N_r22_group 4) r22_group_B4 _).trans (by kernel_rfl)
theorem r22_group_a4_x0 (t:Term) (q:Rel) (v0:Int) (v1:List Term) (v2:List Term) : r22_group_C4 (.exit 0) (r22_group_s4 t q v0 v1 v2)=some (R_r22_group (v1,v2)):=by kernel_rfl
def refGroupOK (t:Term) (q:Rel) : Prop:=t.sz≤2000000∧∀ p∈splitT t,posT p
def grpSoR (q:Rel) (p:Term) : Bool:=withinA p 0 (q.terms.length:Int) && plainR p q.terms
def r22_group (t:Term) (q:Rel) : List Term×List Term:=(((splitT t).filter (grpSoR q)).map (putR q.terms),(splitT t).filter fun p=>!grpSoR q p)
theorem group_fold (so:Term→Bool) (f:Term→Term) : ∀ (l:List Term) (a b:List Term),l.foldl (fun (s:List Term×List Term) x=>if so x=true then (s.1++[f x],s.2) else (s.1,s.2++[x])) (a,b)=(a++(l.filter so).map f,b++l.filter fun x=>!so x)
  | [],a,b=>by simp
  | x::l,a,b=>by
    rw[List.foldl_cons]
    cases h : so x
    · rw[if_neg (by decide),group_fold so f l]
      rw[List.filter_cons_of_neg (by simp [h]),List.filter_cons_of_pos (by simp [h])];simp
    · rw[if_pos rfl,group_fold so f l]
      rw[List.filter_cons_of_pos (by simp [h]),List.filter_cons_of_neg (by simp [h])];simp
theorem r22_group_spec (t:Term) (q:Rel) (_ht:WS .term t) (_hq:WS .rel q) (h:refGroupOK t q) : r22_group_fn t q=some (R_r22_group (r22_group t q)):=by
  obtain⟨h1,h2⟩:=h
  have e1:r22_group_c1 t=splitT t:=by unfold r22_group_c1;rw[term_eta,r21_Split_eq]
  have hall:=split_parts h1
  obtain⟨lp,_⟩:=loop_fold (e:=.exit 0) (L:=r22_group_L4) (st:=fun (s:List Term×List Term) i=>r22_group_s4 t q i s.1 s.2) (l:=splitT t) (d:=zeroTerm) (g:=fun s x=>if grpSoR q x=true then (s.1++[putR q.terms x],s.2) else (s.1,s.2++[x])) (fun i s=>s.1.length+s.2.length=i) (by have:=hall.2;omega)
    (fun s i x hi hx hI=>by
      have hI':s.1.length+s.2.length=i:=hI
      have hlen:=hall.2
      have hmem:x∈splitT t:=by rw[← hx,List.getD_eq_getElem?_getD,List.getElem?_eq_getElem (by omega)];exact List.getElem_mem _
      have hxs:=hall.1 x hmem
      have hxp:=h2 x hmem
      have ew:∀ n,r21_Within x 0 n=withinA x 0 n:=fun _=>rfl
      have ep:∀ l,r22_plain x l=plainR x l:=fun _=>rfl
      have e2:r22_group_c2 t q (i:Int)=putR q.terms x:=by unfold r22_group_c2;rw[e1,Int.toNat_natCast,hx,term_eta];rfl
      have e3:r22_group_t1 t q (i:Int) s.1 s.2=r22_group_L4 (r22_group_s4 t q (IntKind.i64.wrap ((i:Int)+1)) s.1 (s.2++[x])):=by
        unfold r22_group_t1
        simp only[e1,Int.toNat_natCast,hx,Term.ids_eq]
        rw[obO_pos (by omega),obO_pos (by unfold roomB;rw[List.length_singleton];omega)]
      refine⟨?_,?_⟩
      · show (if grpSoR q x=true then (s.1++[putR q.terms x],s.2) else (s.1,s.2++[x])).1.length+(if grpSoR q x=true then (s.1++[putR q.terms x],s.2) else (s.1,s.2++[x])).2.length=i+1
        split
        · simp only[List.length_append,List.length_singleton];omega
        · simp only[List.length_append,List.length_singleton];omega
      · rw[r22_group_l4]
        simp only[e1,e2,e3,cndO_eq,hi,decide_true,if_true,and_true,Int.toNat_natCast,hx,Term.ids_eq,ew,ep]
        rw[obO_pos (by omega),obO_pos hxs]
        by_cases c1 : withinA x 0 (q.terms.length:Int)=true
        · rw[if_pos c1,obO_pos (by omega),obO_pos hxs,obO_pos hxp]
          by_cases c2 : plainR x q.terms=true
          · have c3:grpSoR q x=true:=by unfold grpSoR;rw[c1,c2];rfl
            rw[if_pos c2,if_pos c3,obO_pos (by omega),obO_pos (plain_putR c2 hxp hxs),obO_pos (by unfold roomB;rw[List.length_singleton];omega)]
          · have c3:¬ grpSoR q x=true:=fun e=>by unfold grpSoR at e;rw[Bool.and_eq_true] at e;exact c2 e.2
            rw[if_neg c2,if_neg c3]
        · have c3:¬ grpSoR q x=true:=fun e=>by unfold grpSoR at e;rw[Bool.and_eq_true] at e;exact c1 e.1
          rw[if_neg c1,if_neg c3])
    (fun s _=>by rw[r22_group_l4,e1];simp [cndO_eq]) ([],[]) rfl
  rw[group_fold,List.nil_append,List.nil_append] at lp
  rw[r22_group_in,Term.ids_eq,obO_pos h1]
  refine (loop_end lp).trans ?_
  rw[r22_group_a4_x0]
  rfl
def F_r22_group : FnC Un:=fun args=>match args with
  | [x0,x1]=>(dS .term x0).bind fun t=>(dS .rel x1).bind fun q=>some ([refGroupOK t q],A_r22_group (r22_group t q),O_r22_group (r22_group t q))
  | _=>none
theorem ok_r22_group : FnOK 35 F_r22_group:=by
  intro args ob rs os h hob
  unfold F_r22_group at h
  split at h
  · simp only[Option.bind_eq_some_iff,Option.some.injEq,Prod.mk.injEq] at h
    obtain⟨t,e0,q,e1,rfl,rfl,rfl⟩:=h
    obtain rfl:=dS_eq e0
    obtain rfl:=dS_eq e1
    exact⟨fn_contractF (M:=M_r22_group) rfl (tbl_ok (l1:=[(28,F_r21_Split),(91,F_r21_Within),(32,F_r22_plain),(34,F_r22_put)]) (l2:=[]) (l3:=[]) (l4:=[]) (l5:=[]) ⟨ok_r21_Split,ok_r21_Within,ok_r22_plain,ok_r22_put,trivial⟩ trivial trivial trivial trivial) Tryz.func35 (by kernel_rfl) N_r22_group 3 [.m,.m] (fun hwf=>(r22_group_spec t q (wfArg hwf (a:=.d (.agg (enc Ty.term t))) (List.mem_of_getElem? (i:=0) rfl)) (wfArg hwf (a:=.d (.agg (enc Ty.rel q))) (List.mem_of_getElem? (i:=1) rfl)) (hob _ (List.mem_of_getElem? (i:=0) rfl)))),hasBody_of Tryz.func35 (by kernel_rfl) (by kernel_rfl)⟩
  · simp at h
def M_r22_join : Mc Un:=mach (tbl [(19,F_r15_Width),(28,F_r21_Split),(31,F_r22_parted),(29,F_r22_filter),(90,F_r22_gone),(89,F_r21_Join)]) (tbl []) (tbl []) (tbl []) (tbl [])
def A_r22_join (r:Rel) : List (A Un):=[.agg (encC Ty.rel r)]
def O_r22_join (_r:Rel) : List (Ob Un):=[]
def R_r22_join (r:Rel) : RF Un:=(A_r22_join r,O_r22_join r)
def N_r22_join : Nat→NS:=fun l=>(look l []).getD ⟨[],[],[],[],[],true⟩
def r22_join_c1 (t:Term):=r21_Split (Term.mk t.op t.v t.depth t.at_ t.name t.kids t.sub t.type)
def r22_join_c2 (q:Rel):=r15_Width (Rel.mk (Rel.op (q.kids.getD 0 zeroRel)) (Rel.table (q.kids.getD 0 zeroRel)) (Rel.cols (q.kids.getD 0 zeroRel)) (Rel.kids (q.kids.getD 0 zeroRel)) (Rel.terms (q.kids.getD 0 zeroRel)) (Rel.aggs (q.kids.getD 0 zeroRel)) (Rel.keys (q.kids.getD 0 zeroRel)) (Rel.limit (q.kids.getD 0 zeroRel)) (Rel.skip (q.kids.getD 0 zeroRel)) (Rel.all (q.kids.getD 0 zeroRel)) (Rel.rows (q.kids.getD 0 zeroRel)))
def r22_join_c3 (q:Rel):=r21_Split (Term.mk (Term.op (q.terms.getD 0 zeroTerm)) (Term.v (q.terms.getD 0 zeroTerm)) (Term.depth (q.terms.getD 0 zeroTerm)) (Term.at_ (q.terms.getD 0 zeroTerm)) (Term.name (q.terms.getD 0 zeroTerm)) (Term.kids (q.terms.getD 0 zeroTerm)) (Term.sub (q.terms.getD 0 zeroTerm)) (Term.type (q.terms.getD 0 zeroTerm)))
def r22_join_c4 (q:Rel):=r15_Width (Rel.mk q.op q.table q.cols q.kids q.terms q.aggs q.keys q.limit q.skip q.all q.rows)
def r22_join_fn (t:Term) (q:Rel) : Option (RF Un):=awf M_r22_join N_r22_join (bodyOf Tryz.f30) (entry Tryz.f30.ntmps 0 [.d (.agg (enc Ty.term t)),.d (.agg (enc Ty.rel q))]) (retF M_r22_join Tryz.f30.results.toList [.d])
theorem r22_join_in (t:Term) (q:Rel) : r22_join_fn t q=obO ((0:Int)≤(0:Int)∧(0:Int)<(↑q.kids.length:Int)) (obO ((Term.ids t).sz≤(2000000:Nat)) (obO (partsOK (r22_join_c1 t)) (obO (partsOK (r22_parted (r22_join_c1 t) (0:Int) (r22_join_c2 q)).snd) (cndO (decide ((↑q.terms.length:Int) > (0:Int))) (obO ((0:Int)≤(0:Int)∧(0:Int)<(↑q.terms.length:Int)) (obO ((Term.ids (q.terms.getD 0 zeroTerm)).sz≤(2000000:Nat)) (obO ((0+(r22_join_c3 q).length)*(128:Nat)≤roomB) (obO (((r22_join_c3 q).length+(r22_parted (r22_parted (r22_join_c1 t) (0:Int) (r22_join_c2 q)).snd (r22_join_c2 q) (r22_join_c4 q)).snd.length)*(128:Nat)≤roomB) (obO ((0:Int)≤(0:Int)∧(0:Int)<(↑q.kids.length:Int)) (obO ((0:Int)≤(1:Int)∧(1:Int)<(↑q.kids.length:Int)) (obO (partsOK (r22_parted (r22_parted (r22_join_c1 t) (0:Int) (r22_join_c2 q)).snd (r22_join_c2 q) (r22_join_c4 q)).fst) (obO (0≤r15_Width (Rel.ids q)∧r15_Width (Rel.ids q)≤2000000) (cndO (decide ((↑(r21_Split (Term.ids (q.terms.getD 0 zeroTerm))++(r22_parted (r22_parted (r22_join_c1 t) (0:Int) (r22_join_c2 q)).snd (r22_join_c2 q) (r22_join_c4 q)).snd).length:Int) > (0:Int))) (some (R_r22_join (Rel.mk q.op q.table q.cols [(Rel.ids (r22_filter (Rel.ids (q.kids.getD 0 zeroRel)) (r22_parted (r22_join_c1 t) (0:Int) (r22_join_c2 q)).fst)),(Rel.ids (r22_filter (Rel.ids (q.kids.getD 1 zeroRel)) (r22_gone (r22_parted (r22_parted (r22_join_c1 t) (0:Int) (r22_join_c2 q)).snd (r22_join_c2 q) (r22_join_c4 q)).fst (r22_join_c2 q) (r22_join_c4 q))))] [(Term.ids (r21_Join (r21_Split (Term.ids (q.terms.getD 0 zeroTerm))++(r22_parted (r22_parted (r22_join_c1 t) (0:Int) (r22_join_c2 q)).snd (r22_join_c2 q) (r22_join_c4 q)).snd)))] q.aggs q.keys q.limit q.skip q.all q.rows))) (some (R_r22_join (Rel.mk q.op q.table q.cols [(Rel.ids (r22_filter (Rel.ids (q.kids.getD 0 zeroRel)) (r22_parted (r22_join_c1 t) (0:Int) (r22_join_c2 q)).fst)),(Rel.ids (r22_filter (Rel.ids (q.kids.getD 1 zeroRel)) (r22_gone (r22_parted (r22_parted (r22_join_c1 t) (0:Int) (r22_join_c2 q)).snd (r22_join_c2 q) (r22_join_c4 q)).fst (r22_join_c2 q) (r22_join_c4 q))))] [] q.aggs q.keys q.limit q.skip q.all q.rows)))))))))))) (obO ((0+(r22_parted (r22_parted (r22_join_c1 t) (0:Int) (r22_join_c2 q)).snd (r22_join_c2 q) (r22_join_c4 q)).snd.length)*(128:Nat)≤roomB) (obO ((0:Int)≤(0:Int)∧(0:Int)<(↑q.kids.length:Int)) (obO ((0:Int)≤(1:Int)∧(1:Int)<(↑q.kids.length:Int)) (obO (partsOK (r22_parted (r22_parted (r22_join_c1 t) (0:Int) (r22_join_c2 q)).snd (r22_join_c2 q) (r22_join_c4 q)).fst) (obO (0≤r15_Width (Rel.ids q)∧r15_Width (Rel.ids q)≤2000000) (cndO (decide ((↑((r22_parted (r22_parted (r22_join_c1 t) (0:Int) (r22_join_c2 q)).snd (r22_join_c2 q) (r22_join_c4 q)).snd).length:Int) > (0:Int))) (some (R_r22_join (Rel.mk q.op q.table q.cols [(Rel.ids (r22_filter (Rel.ids (q.kids.getD 0 zeroRel)) (r22_parted (r22_join_c1 t) (0:Int) (r22_join_c2 q)).fst)),(Rel.ids (r22_filter (Rel.ids (q.kids.getD 1 zeroRel)) (r22_gone (r22_parted (r22_parted (r22_join_c1 t) (0:Int) (r22_join_c2 q)).snd (r22_join_c2 q) (r22_join_c4 q)).fst (r22_join_c2 q) (r22_join_c4 q))))] [(Term.ids (r21_Join ((r22_parted (r22_parted (r22_join_c1 t) (0:Int) (r22_join_c2 q)).snd (r22_join_c2 q) (r22_join_c4 q)).snd)))] q.aggs q.keys q.limit q.skip q.all q.rows))) (some (R_r22_join (Rel.mk q.op q.table q.cols [(Rel.ids (r22_filter (Rel.ids (q.kids.getD 0 zeroRel)) (r22_parted (r22_join_c1 t) (0:Int) (r22_join_c2 q)).fst)),(Rel.ids (r22_filter (Rel.ids (q.kids.getD 1 zeroRel)) (r22_gone (r22_parted (r22_parted (r22_join_c1 t) (0:Int) (r22_join_c2 q)).snd (r22_join_c2 q) (r22_join_c4 q)).fst (r22_join_c2 q) (r22_join_c4 q))))] [] q.aggs q.keys q.limit q.skip q.all q.rows))))))))))))):=by kernel_rfl
def refJoinOK (t:Term) (q:Rel) : Prop:=t.sz≤2000000∧q.kids.length=2∧(0≤widthR q∧widthR q≤2000000)∧(q.terms.getD 0 zeroTerm).sz≤2000000
def refRest (t:Term) (q:Rel) : List Term:=(splitT t).filter fun p=>!withinA p 0 (widthR (q.kids.getD 0 zeroRel))
def refOn (t:Term) (q:Rel) : List Term:=(if q.terms.length > 0 then splitT (q.terms.getD 0 zeroTerm) else [])++(refRest t q).filter fun p=>!withinA p (widthR (q.kids.getD 0 zeroRel)) (widthR q)
def r22_join (t:Term) (q:Rel) : Rel :=
  .mk q.op q.table q.cols [pushFilter (q.kids.getD 0 zeroRel) ((splitT t).filter fun p=>withinA p 0 (widthR (q.kids.getD 0 zeroRel))),pushFilter (q.kids.getD 1 zeroRel) (((refRest t q).filter fun p=>withinA p (widthR (q.kids.getD 0 zeroRel)) (widthR q)).map fun p=>pushDown p (widthR (q.kids.getD 0 zeroRel)) (widthR q))] (if (refOn t q).length > 0 then [joinT (refOn t q)] else []) q.aggs q.keys q.limit q.skip q.all q.rows
theorem gone_push {l:List Term} (less width:Int) (hw:∀ p∈l,WS .term p) (h:partsOK l) : r22_gone l less width=l.map fun p=>pushDown p less width:=by
  unfold r22_gone
  refine List.map_congr_left fun p hp=>?_
  unfold pushDown
  exact (move_eq (hw p hp) (h.1 p hp) (by omega)).symm
theorem r22_join_spec (t:Term) (q:Rel) (ht:WS .term t) (_hq:WS .rel q) (h:refJoinOK t q) : r22_join_fn t q=some (R_r22_join (r22_join t q)):=by
  obtain⟨h1,h2,h3,h4⟩:=h
  have hall:=split_parts h1
  have hws:=splitT_WS t ht
  have hsl:=splitT_len (q.terms.getD 0 zeroTerm)
  have hrp:partsOK (refRest t q):=parts_filter _ hall
  have hrr:partsOK ((refRest t q).filter fun p=>withinA p (widthR (q.kids.getD 0 zeroRel)) (widthR q)):=parts_filter _ hrp
  have hbb:partsOK ((refRest t q).filter fun p=>!withinA p (widthR (q.kids.getD 0 zeroRel)) (widthR q)):=parts_filter _ hrp
  have e2:(r22_parted (splitT t) 0 (widthR (q.kids.getD 0 zeroRel))).snd=refRest t q:=rfl
  have e3:(r22_parted (splitT t) 0 (widthR (q.kids.getD 0 zeroRel))).fst=(splitT t).filter fun p=>withinA p 0 (widthR (q.kids.getD 0 zeroRel)):=rfl
  have e4:(r22_parted (refRest t q) (widthR (q.kids.getD 0 zeroRel)) (widthR q)).fst=(refRest t q).filter fun p=>withinA p (widthR (q.kids.getD 0 zeroRel)) (widthR q):=rfl
  have e5:(r22_parted (refRest t q) (widthR (q.kids.getD 0 zeroRel)) (widthR q)).snd=(refRest t q).filter fun p=>!withinA p (widthR (q.kids.getD 0 zeroRel)) (widthR q):=rfl
  have e6:r22_gone ((refRest t q).filter fun p=>withinA p (widthR (q.kids.getD 0 zeroRel)) (widthR q)) (widthR (q.kids.getD 0 zeroRel)) (widthR q)=((refRest t q).filter fun p=>withinA p (widthR (q.kids.getD 0 zeroRel)) (widthR q)).map fun p=>pushDown p (widthR (q.kids.getD 0 zeroRel)) (widthR q) :=
    gone_push _ _ (fun p hp=>hws p (List.mem_filter.1 (List.mem_filter.1 hp).1).1) hrr
  have e7:∀ r l,r22_filter r l=pushFilter r l:=fun _ _=>rfl
  rw[r22_join_in]
  simp only[r22_join_c1,r22_join_c2,r22_join_c3,r22_join_c4,rel_eta,term_eta,Rel.ids_eq,Term.ids_eq,r21_Split_eq,r15_Width_eq,r21_Join_eq,e2,e3,e4,e5,e6,e7]
  have hbl:=hbb.2
  have hon:refOn t q=(if q.terms.length > 0 then splitT (q.terms.getD 0 zeroTerm) else [])++(refRest t q).filter fun p=>!withinA p (widthR (q.kids.getD 0 zeroRel)) (widthR q):=rfl
  unfold r22_join
  rw[hon,obO_pos (by omega),obO_pos h1,obO_pos hall,obO_pos hrp]
  simp only[cndO_eq,decide_eq_true_eq]
  by_cases c : q.terms.length > 0
  · rw[if_pos (by omega),if_pos c,obO_pos (by omega),obO_pos h4,obO_pos (by unfold roomB;omega),obO_pos (by unfold roomB;omega),obO_pos (by omega),obO_pos (by omega),obO_pos hrr,obO_pos h3]
    by_cases c2 : (splitT (q.terms.getD 0 zeroTerm)++(refRest t q).filter fun p=>!withinA p (widthR (q.kids.getD 0 zeroRel)) (widthR q)).length > 0
    · rw[if_pos (by omega),if_pos c2]
    · rw[if_neg (by omega),if_neg c2]
  · rw[if_neg (by omega),if_neg c,obO_pos (by unfold roomB;omega),obO_pos (by omega),obO_pos (by omega),obO_pos hrr,obO_pos h3,List.nil_append]
    by_cases c2 : ((refRest t q).filter fun p=>!withinA p (widthR (q.kids.getD 0 zeroRel)) (widthR q)).length > 0
    · rw[if_pos (by omega),if_pos c2]
    · rw[if_neg (by omega),if_neg c2]
def F_r22_join : FnC Un:=fun args=>match args with
  | [x0,x1]=>(dS .term x0).bind fun t=>(dS .rel x1).bind fun q=>some ([refJoinOK t q],A_r22_join (r22_join t q),O_r22_join (r22_join t q))
  | _=>none
theorem ok_r22_join : FnOK 30 F_r22_join:=by
  intro args ob rs os h hob
  unfold F_r22_join at h
  split at h
  · simp only[Option.bind_eq_some_iff,Option.some.injEq,Prod.mk.injEq] at h
    obtain⟨t,e0,q,e1,rfl,rfl,rfl⟩:=h
    obtain rfl:=dS_eq e0
    obtain rfl:=dS_eq e1
    exact⟨fn_contractF (M:=M_r22_join) rfl (tbl_ok (l1:=[(19,F_r15_Width),(28,F_r21_Split),(31,F_r22_parted),(29,F_r22_filter),(90,F_r22_gone),(89,F_r21_Join)]) (l2:=[]) (l3:=[]) (l4:=[]) (l5:=[]) ⟨ok_r15_Width,ok_r21_Split,ok_r22_parted,ok_r22_filter,ok_r22_gone,ok_r21_Join,trivial⟩ trivial trivial trivial trivial) Tryz.func30 (by kernel_rfl) N_r22_join 0 [.d] (fun hwf=>(r22_join_spec t q (wfArg hwf (a:=.d (.agg (enc Ty.term t))) (List.mem_of_getElem? (i:=0) rfl)) (wfArg hwf (a:=.d (.agg (enc Ty.rel q))) (List.mem_of_getElem? (i:=1) rfl)) (hob _ (List.mem_of_getElem? (i:=0) rfl)))),hasBody_of Tryz.func30 (by kernel_rfl) (by kernel_rfl)⟩
  · simp at h
def M_r22_Once : Mc Un:=mach (tbl [(28,F_r21_Split),(29,F_r22_filter),(30,F_r22_join),(19,F_r15_Width),(31,F_r22_parted),(32,F_r22_plain),(34,F_r22_put),(33,F_r22_over),(35,F_r22_group)]) (tbl []) (tbl []) (tbl []) (tbl [])
def A_r22_Once (r:Rel×Bool) : List (A Un):=[.agg (encC Ty.rel r.1),.c (.s (.bool r.2))]
def O_r22_Once (_r:Rel×Bool) : List (Ob Un):=[]
def R_r22_Once (r:Rel×Bool) : RF Un:=(A_r22_Once r,O_r22_Once r)
def N_r22_Once : Nat→NS:=fun l=>(look l []).getD ⟨[],[],[],[],[],true⟩
def r22_Once_c1 (r:Rel):=r21_Split (Term.mk (Term.op ((Rel.terms (r.kids.getD 0 zeroRel)).getD 0 zeroTerm)) (Term.v ((Rel.terms (r.kids.getD 0 zeroRel)).getD 0 zeroTerm)) (Term.depth ((Rel.terms (r.kids.getD 0 zeroRel)).getD 0 zeroTerm)) (Term.at_ ((Rel.terms (r.kids.getD 0 zeroRel)).getD 0 zeroTerm)) (Term.name ((Rel.terms (r.kids.getD 0 zeroRel)).getD 0 zeroTerm)) (Term.kids ((Rel.terms (r.kids.getD 0 zeroRel)).getD 0 zeroTerm)) (Term.sub ((Rel.terms (r.kids.getD 0 zeroRel)).getD 0 zeroTerm)) (Term.type ((Rel.terms (r.kids.getD 0 zeroRel)).getD 0 zeroTerm)))
def r22_Once_c2 (r:Rel):=r21_Split (Term.mk (Term.op (r.terms.getD 0 zeroTerm)) (Term.v (r.terms.getD 0 zeroTerm)) (Term.depth (r.terms.getD 0 zeroTerm)) (Term.at_ (r.terms.getD 0 zeroTerm)) (Term.name (r.terms.getD 0 zeroTerm)) (Term.kids (r.terms.getD 0 zeroTerm)) (Term.sub (r.terms.getD 0 zeroTerm)) (Term.type (r.terms.getD 0 zeroTerm)))
def r22_Once_c3 (r:Rel):=r15_Width (Rel.mk (Rel.op ((Rel.kids (r.kids.getD 0 zeroRel)).getD 0 zeroRel)) (Rel.table ((Rel.kids (r.kids.getD 0 zeroRel)).getD 0 zeroRel)) (Rel.cols ((Rel.kids (r.kids.getD 0 zeroRel)).getD 0 zeroRel)) (Rel.kids ((Rel.kids (r.kids.getD 0 zeroRel)).getD 0 zeroRel)) (Rel.terms ((Rel.kids (r.kids.getD 0 zeroRel)).getD 0 zeroRel)) (Rel.aggs ((Rel.kids (r.kids.getD 0 zeroRel)).getD 0 zeroRel)) (Rel.keys ((Rel.kids (r.kids.getD 0 zeroRel)).getD 0 zeroRel)) (Rel.limit ((Rel.kids (r.kids.getD 0 zeroRel)).getD 0 zeroRel)) (Rel.skip ((Rel.kids (r.kids.getD 0 zeroRel)).getD 0 zeroRel)) (Rel.all ((Rel.kids (r.kids.getD 0 zeroRel)).getD 0 zeroRel)) (Rel.rows ((Rel.kids (r.kids.getD 0 zeroRel)).getD 0 zeroRel)))
def r22_Once_c4 (r:Rel):=r22_put (Term.mk (Term.op (r.terms.getD 0 zeroTerm)) (Term.v (r.terms.getD 0 zeroTerm)) (Term.depth (r.terms.getD 0 zeroTerm)) (Term.at_ (r.terms.getD 0 zeroTerm)) (Term.name (r.terms.getD 0 zeroTerm)) (Term.kids (r.terms.getD 0 zeroTerm)) (Term.sub (r.terms.getD 0 zeroTerm)) (Term.type (r.terms.getD 0 zeroTerm))) (Rel.terms (r.kids.getD 0 zeroRel))
def r22_Once_c5 (r:Rel):=r22_filter (Rel.mk (Rel.op ((Rel.kids (r.kids.getD 0 zeroRel)).getD 0 zeroRel)) (Rel.table ((Rel.kids (r.kids.getD 0 zeroRel)).getD 0 zeroRel)) (Rel.cols ((Rel.kids (r.kids.getD 0 zeroRel)).getD 0 zeroRel)) (Rel.kids ((Rel.kids (r.kids.getD 0 zeroRel)).getD 0 zeroRel)) (Rel.terms ((Rel.kids (r.kids.getD 0 zeroRel)).getD 0 zeroRel)) (Rel.aggs ((Rel.kids (r.kids.getD 0 zeroRel)).getD 0 zeroRel)) (Rel.keys ((Rel.kids (r.kids.getD 0 zeroRel)).getD 0 zeroRel)) (Rel.limit ((Rel.kids (r.kids.getD 0 zeroRel)).getD 0 zeroRel)) (Rel.skip ((Rel.kids (r.kids.getD 0 zeroRel)).getD 0 zeroRel)) (Rel.all ((Rel.kids (r.kids.getD 0 zeroRel)).getD 0 zeroRel)) (Rel.rows ((Rel.kids (r.kids.getD 0 zeroRel)).getD 0 zeroRel))) [Term.mk (Term.op (r.terms.getD 0 zeroTerm)) (Term.v (r.terms.getD 0 zeroTerm)) (Term.depth (r.terms.getD 0 zeroTerm)) (Term.at_ (r.terms.getD 0 zeroTerm)) (Term.name (r.terms.getD 0 zeroTerm)) (Term.kids (r.terms.getD 0 zeroTerm)) (Term.sub (r.terms.getD 0 zeroTerm)) (Term.type (r.terms.getD 0 zeroTerm))]
def r22_Once_c6 (r:Rel):=r22_filter (Rel.mk (Rel.op ((Rel.kids (r.kids.getD 0 zeroRel)).getD 1 zeroRel)) (Rel.table ((Rel.kids (r.kids.getD 0 zeroRel)).getD 1 zeroRel)) (Rel.cols ((Rel.kids (r.kids.getD 0 zeroRel)).getD 1 zeroRel)) (Rel.kids ((Rel.kids (r.kids.getD 0 zeroRel)).getD 1 zeroRel)) (Rel.terms ((Rel.kids (r.kids.getD 0 zeroRel)).getD 1 zeroRel)) (Rel.aggs ((Rel.kids (r.kids.getD 0 zeroRel)).getD 1 zeroRel)) (Rel.keys ((Rel.kids (r.kids.getD 0 zeroRel)).getD 1 zeroRel)) (Rel.limit ((Rel.kids (r.kids.getD 0 zeroRel)).getD 1 zeroRel)) (Rel.skip ((Rel.kids (r.kids.getD 0 zeroRel)).getD 1 zeroRel)) (Rel.all ((Rel.kids (r.kids.getD 0 zeroRel)).getD 1 zeroRel)) (Rel.rows ((Rel.kids (r.kids.getD 0 zeroRel)).getD 1 zeroRel))) [Term.mk (Term.op (r.terms.getD 0 zeroTerm)) (Term.v (r.terms.getD 0 zeroTerm)) (Term.depth (r.terms.getD 0 zeroTerm)) (Term.at_ (r.terms.getD 0 zeroTerm)) (Term.name (r.terms.getD 0 zeroTerm)) (Term.kids (r.terms.getD 0 zeroTerm)) (Term.sub (r.terms.getD 0 zeroTerm)) (Term.type (r.terms.getD 0 zeroTerm))]
def r22_Once_c7 (r:Rel):=r22_group (Term.mk (Term.op (r.terms.getD 0 zeroTerm)) (Term.v (r.terms.getD 0 zeroTerm)) (Term.depth (r.terms.getD 0 zeroTerm)) (Term.at_ (r.terms.getD 0 zeroTerm)) (Term.name (r.terms.getD 0 zeroTerm)) (Term.kids (r.terms.getD 0 zeroTerm)) (Term.sub (r.terms.getD 0 zeroTerm)) (Term.type (r.terms.getD 0 zeroTerm))) (Rel.mk (Rel.op (r.kids.getD 0 zeroRel)) (Rel.table (r.kids.getD 0 zeroRel)) (Rel.cols (r.kids.getD 0 zeroRel)) (Rel.kids (r.kids.getD 0 zeroRel)) (Rel.terms (r.kids.getD 0 zeroRel)) (Rel.aggs (r.kids.getD 0 zeroRel)) (Rel.keys (r.kids.getD 0 zeroRel)) (Rel.limit (r.kids.getD 0 zeroRel)) (Rel.skip (r.kids.getD 0 zeroRel)) (Rel.all (r.kids.getD 0 zeroRel)) (Rel.rows (r.kids.getD 0 zeroRel)))
def r22_Once_c8 (r:Rel):=r22_filter (Rel.mk (Rel.op ((Rel.kids (r.kids.getD 0 zeroRel)).getD 0 zeroRel)) (Rel.table ((Rel.kids (r.kids.getD 0 zeroRel)).getD 0 zeroRel)) (Rel.cols ((Rel.kids (r.kids.getD 0 zeroRel)).getD 0 zeroRel)) (Rel.kids ((Rel.kids (r.kids.getD 0 zeroRel)).getD 0 zeroRel)) (Rel.terms ((Rel.kids (r.kids.getD 0 zeroRel)).getD 0 zeroRel)) (Rel.aggs ((Rel.kids (r.kids.getD 0 zeroRel)).getD 0 zeroRel)) (Rel.keys ((Rel.kids (r.kids.getD 0 zeroRel)).getD 0 zeroRel)) (Rel.limit ((Rel.kids (r.kids.getD 0 zeroRel)).getD 0 zeroRel)) (Rel.skip ((Rel.kids (r.kids.getD 0 zeroRel)).getD 0 zeroRel)) (Rel.all ((Rel.kids (r.kids.getD 0 zeroRel)).getD 0 zeroRel)) (Rel.rows ((Rel.kids (r.kids.getD 0 zeroRel)).getD 0 zeroRel))) [Term.mk (r22_Once_c4 r).op (r22_Once_c4 r).v (r22_Once_c4 r).depth (r22_Once_c4 r).at_ (r22_Once_c4 r).name (r22_Once_c4 r).kids (r22_Once_c4 r).sub (r22_Once_c4 r).type]
def r22_Once_c9 (r:Rel):=r22_over (Rel.mk (Rel.op (r.kids.getD 0 zeroRel)) (Rel.table (r.kids.getD 0 zeroRel)) (Rel.cols (r.kids.getD 0 zeroRel)) (Rel.kids (r.kids.getD 0 zeroRel)) (Rel.terms (r.kids.getD 0 zeroRel)) (Rel.aggs (r.kids.getD 0 zeroRel)) (Rel.keys (r.kids.getD 0 zeroRel)) (Rel.limit (r.kids.getD 0 zeroRel)) (Rel.skip (r.kids.getD 0 zeroRel)) (Rel.all (r.kids.getD 0 zeroRel)) (Rel.rows (r.kids.getD 0 zeroRel))) (Rel.mk (r22_Once_c5 r).op (r22_Once_c5 r).table (r22_Once_c5 r).cols (r22_Once_c5 r).kids (r22_Once_c5 r).terms (r22_Once_c5 r).aggs (r22_Once_c5 r).keys (r22_Once_c5 r).limit (r22_Once_c5 r).skip (r22_Once_c5 r).all (r22_Once_c5 r).rows)
def r22_Once_c10 (r:Rel):=r22_filter (Rel.mk (Rel.op ((Rel.kids (r.kids.getD 0 zeroRel)).getD 0 zeroRel)) (Rel.table ((Rel.kids (r.kids.getD 0 zeroRel)).getD 0 zeroRel)) (Rel.cols ((Rel.kids (r.kids.getD 0 zeroRel)).getD 0 zeroRel)) (Rel.kids ((Rel.kids (r.kids.getD 0 zeroRel)).getD 0 zeroRel)) (Rel.terms ((Rel.kids (r.kids.getD 0 zeroRel)).getD 0 zeroRel)) (Rel.aggs ((Rel.kids (r.kids.getD 0 zeroRel)).getD 0 zeroRel)) (Rel.keys ((Rel.kids (r.kids.getD 0 zeroRel)).getD 0 zeroRel)) (Rel.limit ((Rel.kids (r.kids.getD 0 zeroRel)).getD 0 zeroRel)) (Rel.skip ((Rel.kids (r.kids.getD 0 zeroRel)).getD 0 zeroRel)) (Rel.all ((Rel.kids (r.kids.getD 0 zeroRel)).getD 0 zeroRel)) (Rel.rows ((Rel.kids (r.kids.getD 0 zeroRel)).getD 0 zeroRel))) (r22_Once_c7 r).fst
def r22_Once_c11 (r:Rel):=r22_over (Rel.mk (Rel.op (r.kids.getD 0 zeroRel)) (Rel.table (r.kids.getD 0 zeroRel)) (Rel.cols (r.kids.getD 0 zeroRel)) (Rel.kids (r.kids.getD 0 zeroRel)) (Rel.terms (r.kids.getD 0 zeroRel)) (Rel.aggs (r.kids.getD 0 zeroRel)) (Rel.keys (r.kids.getD 0 zeroRel)) (Rel.limit (r.kids.getD 0 zeroRel)) (Rel.skip (r.kids.getD 0 zeroRel)) (Rel.all (r.kids.getD 0 zeroRel)) (Rel.rows (r.kids.getD 0 zeroRel))) (Rel.mk (r22_Once_c10 r).op (r22_Once_c10 r).table (r22_Once_c10 r).cols (r22_Once_c10 r).kids (r22_Once_c10 r).terms (r22_Once_c10 r).aggs (r22_Once_c10 r).keys (r22_Once_c10 r).limit (r22_Once_c10 r).skip (r22_Once_c10 r).all (r22_Once_c10 r).rows)
def r22_Once_fn (r:Rel) : Option (RF Un):=awf M_r22_Once N_r22_Once (bodyOf Tryz.f9) (entry Tryz.f9.ntmps 0 [.d (.agg (enc Ty.rel r))]) (retF M_r22_Once Tryz.f9.results.toList [.d,.d])
theorem r22_Once_in (r:Rel) : r22_Once_fn r=cndO (r.op != 3) (some (R_r22_Once (r,false))) (cndO ((↑r.kids.length:Int) != (1:Int)) (some (R_r22_Once (r,false))) (cndO ((↑r.terms.length:Int) != (1:Int)) (some (R_r22_Once (r,false))) (obO ((0:Int)≤(0:Int)∧(0:Int)<(↑r.terms.length:Int)) (obO ((0:Int)≤(0:Int)∧(0:Int)<(↑r.kids.length:Int)) (cndO (Rel.op (r.kids.getD 0 zeroRel) == 3) (obO ((0:Int)≤(0:Int)∧(0:Int)<(↑(Rel.terms (r.kids.getD 0 zeroRel)).length:Int)) (obO ((Term.ids ((Rel.terms (r.kids.getD 0 zeroRel)).getD 0 zeroTerm)).sz≤(2000000:Nat)) (obO ((0+(r22_Once_c1 r).length)*(128:Nat)≤roomB) (obO ((Term.ids (r.terms.getD 0 zeroTerm)).sz≤(2000000:Nat)) (obO (((r22_Once_c1 r).length+(r22_Once_c2 r).length)*(128:Nat)≤roomB) (obO ((0:Int)≤(0:Int)∧(0:Int)<(↑(Rel.kids (r.kids.getD 0 zeroRel)).length:Int)) (some (R_r22_Once (r22_filter (Rel.ids ((Rel.kids (r.kids.getD 0 zeroRel)).getD 0 zeroRel)) (r21_Split (Term.ids ((Rel.terms (r.kids.getD 0 zeroRel)).getD 0 zeroTerm))++r21_Split (Term.ids (r.terms.getD 0 zeroTerm))),true))))))))) (cndO (Rel.op (r.kids.getD 0 zeroRel) == 5) (obO (refJoinOK (Term.ids (r.terms.getD 0 zeroTerm)) (Rel.ids (r.kids.getD 0 zeroRel))) (some (R_r22_Once (r22_join (Term.ids (r.terms.getD 0 zeroTerm)) (Rel.ids (r.kids.getD 0 zeroRel)),true)))) (cndO (Rel.op (r.kids.getD 0 zeroRel) == 6) (obO ((Term.ids (r.terms.getD 0 zeroTerm)).sz≤(2000000:Nat)) (obO ((0:Int)≤(0:Int)∧(0:Int)<(↑(Rel.kids (r.kids.getD 0 zeroRel)).length:Int)) (obO (partsOK (r22_Once_c2 r)) (cndO ((↑(r22_parted (r22_Once_c2 r) (0:Int) (r22_Once_c3 r)).fst.length:Int) == (0:Int)) (some (R_r22_Once (r,false))) (obO ((0:Int)≤(0:Int)∧(0:Int)<(↑(Rel.kids (r.kids.getD 0 zeroRel)).length:Int)) (obO ((0:Int)≤(1:Int)∧(1:Int)<(↑(Rel.kids (r.kids.getD 0 zeroRel)).length:Int)) (some (R_r22_Once (r22_filter (Rel.mk (Rel.op (r.kids.getD 0 zeroRel)) (Rel.table (r.kids.getD 0 zeroRel)) (Rel.cols (r.kids.getD 0 zeroRel)) [(Rel.ids (r22_filter (Rel.ids ((Rel.kids (r.kids.getD 0 zeroRel)).getD 0 zeroRel)) (r22_parted (r22_Once_c2 r) (0:Int) (r22_Once_c3 r)).fst)),(Rel.ids ((Rel.kids (r.kids.getD 0 zeroRel)).getD 1 zeroRel))] (Rel.terms (r.kids.getD 0 zeroRel)) (Rel.aggs (r.kids.getD 0 zeroRel)) (Rel.keys (r.kids.getD 0 zeroRel)) (Rel.limit (r.kids.getD 0 zeroRel)) (Rel.skip (r.kids.getD 0 zeroRel)) (Rel.all (r.kids.getD 0 zeroRel)) (Rel.rows (r.kids.getD 0 zeroRel))) (r22_parted (r22_Once_c2 r) (0:Int) (r22_Once_c3 r)).snd,true))))))))) (cndO (Rel.op (r.kids.getD 0 zeroRel) == 4) (obO ((Term.ids (r.terms.getD 0 zeroTerm)).sz≤(2000000:Nat)) (obO (posT (Term.ids (r.terms.getD 0 zeroTerm))) (cndO (!r22_plain (Term.ids (r.terms.getD 0 zeroTerm)) (Rel.terms (r.kids.getD 0 zeroRel))) (some (R_r22_Once (r,false))) (obO ((0:Int)≤(0:Int)∧(0:Int)<(↑(Rel.kids (r.kids.getD 0 zeroRel)).length:Int)) (obO (putRk (Rel.terms (r.kids.getD 0 zeroRel)) (Term.ids (r.terms.getD 0 zeroTerm))) (some (R_r22_Once (r22_over (Rel.ids (r.kids.getD 0 zeroRel)) (Rel.ids (r22_Once_c8 r)),true)))))))) (cndO (Rel.op (r.kids.getD 0 zeroRel) == 8) (obO ((0:Int)≤(0:Int)∧(0:Int)<(↑(Rel.kids (r.kids.getD 0 zeroRel)).length:Int)) (some (R_r22_Once (r22_Once_c9 r,true)))) (cndO (Rel.op (r.kids.getD 0 zeroRel) == 12) (obO ((0:Int)≤(0:Int)∧(0:Int)<(↑(Rel.kids (r.kids.getD 0 zeroRel)).length:Int)) (some (R_r22_Once (r22_Once_c9 r,true)))) (cndO (Rel.op (r.kids.getD 0 zeroRel) == 9) (obO ((0:Int)≤(0:Int)∧(0:Int)<(↑(Rel.kids (r.kids.getD 0 zeroRel)).length:Int)) (obO ((0:Int)≤(1:Int)∧(1:Int)<(↑(Rel.kids (r.kids.getD 0 zeroRel)).length:Int)) (some (R_r22_Once (Rel.mk (Rel.op (r.kids.getD 0 zeroRel)) (Rel.table (r.kids.getD 0 zeroRel)) (Rel.cols (r.kids.getD 0 zeroRel)) [(Rel.ids (r22_Once_c5 r)),(Rel.ids (r22_Once_c6 r))] (Rel.terms (r.kids.getD 0 zeroRel)) (Rel.aggs (r.kids.getD 0 zeroRel)) (Rel.keys (r.kids.getD 0 zeroRel)) (Rel.limit (r.kids.getD 0 zeroRel)) (Rel.skip (r.kids.getD 0 zeroRel)) (Rel.all (r.kids.getD 0 zeroRel)) (Rel.rows (r.kids.getD 0 zeroRel)),true))))) (cndO (Rel.op (r.kids.getD 0 zeroRel) == 7) (obO (refGroupOK (Term.ids (r.terms.getD 0 zeroTerm)) (Rel.ids (r.kids.getD 0 zeroRel))) (cndO ((↑(Rel.terms (r.kids.getD 0 zeroRel)).length:Int) == (0:Int)) (some (R_r22_Once (r,false))) (cndO ((↑(r22_Once_c7 r).fst.length:Int) == (0:Int)) (some (R_r22_Once (r,false))) (obO ((0:Int)≤(0:Int)∧(0:Int)<(↑(Rel.kids (r.kids.getD 0 zeroRel)).length:Int)) (some (R_r22_Once (r22_filter (Rel.ids (r22_Once_c11 r)) (r22_Once_c7 r).snd,true))))))) (some (R_r22_Once (r,false))))))))))))))):=by kernel_rfl
structure refOK1 (t:Term) (k:Rel) : Prop where
  size : t.sz≤2000000
  merge : k.op=3→1≤k.kids.length∧1≤k.terms.length∧(k.terms.getD 0 zeroTerm).sz≤2000000
  join : k.op=5→refJoinOK t k
  two : k.op=6∨k.op=9→k.kids.length=2
  one : k.op=4∨k.op=8∨k.op=12∨k.op=7→1≤k.kids.length
  pos : k.op=4→posT t
  poss : k.op=7→∀ p∈splitT t,posT p
def refOK (r:Rel) : Prop:=r.op=3→r.kids.length=1→r.terms.length=1→refOK1 (r.terms.getD 0 zeroTerm) (r.kids.getD 0 zeroRel)
def r22_Once (r:Rel) : Rel×Bool:=refOnce r
theorem r22_Once_spec (r:Rel) (_hr:WS .rel r) (h:refOK r) : r22_Once_fn r=some (R_r22_Once (r22_Once r)):=by
  have e7:∀ r l,r22_filter r l=pushFilter r l:=fun _ _=>rfl
  have e8:∀ r k,r22_over r k=pushWith r [k]:=fun _ _=>rfl
  have e9:∀ t l,r22_plain t l=plainR t l:=fun _ _=>rfl
  have e10:∀ t l,r22_put t l=putR l t:=fun _ _=>rfl
  have e11:∀ l a b,(r22_parted l a b).fst=l.filter (fun p=>withinA p a b):=fun _ _ _=>rfl
  have e12:∀ l a b,(r22_parted l a b).snd=l.filter (fun p=>!withinA p a b):=fun _ _ _=>rfl
  rw[r22_Once_in]
  simp only[r22_Once_c1,r22_Once_c2,r22_Once_c3,r22_Once_c4,r22_Once_c5,r22_Once_c6,r22_Once_c7,r22_Once_c8,r22_Once_c9,r22_Once_c10,r22_Once_c11,rel_eta,term_eta,Rel.ids_eq,Term.ids_eq,r21_Split_eq,r15_Width_eq,e7,e8,e9,e10,e11,e12]
  unfold r22_Once refOnce
  by_cases h3 : r.op=3
  rotate_left
  · rw[cndO_eq,if_pos (by simpa using h3),if_neg (fun e=>h3 e.1)]
  by_cases hk : r.kids.length=1
  rotate_left
  · rw[cndO_eq,if_neg (by simp [h3]),cndO_eq,if_pos (by simp;omega),if_neg (fun e=>hk e.2.1)]
  by_cases ht : r.terms.length=1
  rotate_left
  · rw[cndO_eq,if_neg (by simp [h3]),cndO_eq,if_neg (by simp [hk]),cndO_eq,if_pos (by simp;omega),if_neg (fun e=>ht e.2.2)]
  obtain⟨o1,o2,o3,o4,o5,o6,o7⟩:=h h3 hk ht
  rw[cndO_eq,if_neg (by simp [h3]),cndO_eq,if_neg (by simp [hk]),cndO_eq,if_neg (by simp [ht]),obO_pos (by omega),obO_pos (by omega),if_pos ⟨h3,hk,ht⟩]
  generalize r.kids.getD 0 zeroRel=k at o2 o3 o4 o5 o6 o7 ⊢
  generalize r.terms.getD 0 zeroTerm=t at o1 o2 o3 o6 o7 ⊢
  have hsl:=splitT_len t
  unfold ruleR
  simp only[cndO_eq,beq_iff_eq]
  by_cases c3 : k.op=3
  · obtain⟨m1,m2,m3⟩:=o2 c3
    have hsl2:=splitT_len (k.terms.getD 0 zeroTerm)
    rw[if_pos c3,obO_pos (by omega),obO_pos m3,obO_pos (by unfold roomB;omega),obO_pos o1,obO_pos (by unfold roomB;omega),obO_pos (by omega),if_pos c3]
  simp only[if_neg c3]
  by_cases c5 : k.op=5
  · rw[if_pos c5,obO_pos (o3 c5)]
    simp only[if_pos c5]
    rfl
  simp only[if_neg c5]
  by_cases c6 : k.op=6
  · have:=o4 (.inl c6)
    rw[if_pos c6,obO_pos o1,obO_pos (by omega),obO_pos (split_parts o1)]
    simp only[if_pos c6]
    by_cases c : ((splitT t).filter fun p=>withinA p 0 (widthR (k.kids.getD 0 zeroRel))).length=0
    · rw[if_pos (by omega),if_pos c]
    · rw[if_neg (by omega),if_neg c,obO_pos (by omega),obO_pos (by omega)]
      rfl
  simp only[if_neg c6]
  by_cases c4 : k.op=4
  · have:=o5 (.inl c4)
    rw[if_pos c4,obO_pos o1,obO_pos (o6 c4)]
    simp only[if_pos c4]
    by_cases c : plainR t k.terms=true
    · rw[if_neg (by rw[c];decide),if_pos c,obO_pos (by omega),obO_pos (plain_putR c (o6 c4) o1)]
    · rw[if_pos (by simpa using c),if_neg c]
  simp only[if_neg c4]
  by_cases c8 : k.op=8
  · have:=o5 (.inr (.inl c8))
    rw[if_pos c8,obO_pos (by omega)]
    simp only[if_pos (show k.op=8∨k.op=12 from .inl c8)]
  rw[if_neg c8]
  by_cases c12 : k.op=12
  · have:=o5 (.inr (.inr (.inl c12)))
    rw[if_pos c12,obO_pos (by omega)]
    simp only[if_pos (show k.op=8∨k.op=12 from .inr c12)]
  rw[if_neg c12]
  simp only[if_neg (show ¬ (k.op=8∨k.op=12) from fun e=>e.elim c8 c12)]
  by_cases c9 : k.op=9
  · have:=o4 (.inr c9)
    rw[if_pos c9,obO_pos (by omega),obO_pos (by omega)]
    simp only[if_pos c9]
    rfl
  simp only[if_neg c9]
  by_cases c7 : k.op=7
  · have:=o5 (.inr (.inr (.inr c7)))
    have eg:((splitT t).filter fun p=>withinA p 0 (k.terms.length:Int) && plainR p k.terms)=(splitT t).filter (grpSoR k):=rfl
    have eg':((splitT t).filter fun p=>!(withinA p 0 (k.terms.length:Int) && plainR p k.terms))=(splitT t).filter (fun p=>!grpSoR k p):=rfl
    rw[if_pos c7,obO_pos (show refGroupOK t k from ⟨o1,o7 c7⟩)]
    simp only[if_pos c7,eg,eg']
    have f1:(r22_group t k).fst=((splitT t).filter (grpSoR k)).map (putR k.terms):=rfl
    have f2:(r22_group t k).snd=(splitT t).filter (fun p=>!grpSoR k p):=rfl
    rw[f1,f2,List.length_map]
    by_cases d1 : k.terms.length=0
    · rw[if_pos (by omega),if_pos (.inl d1)]
    rw[if_neg (by omega)]
    by_cases d2 : ((splitT t).filter (grpSoR k)).length=0
    · rw[if_pos (by omega),if_pos (.inr d2)]
    rw[if_neg (by omega),if_neg (fun e=>e.elim d1 d2),obO_pos (by omega)]
  · simp only[if_neg c7]
def F_r22_Once : FnC Un:=fun args=>match args with
  | [x0]=>(dS .rel x0).bind fun r=>some ([refOK r],A_r22_Once (r22_Once r),O_r22_Once (r22_Once r))
  | _=>none
theorem ok_r22_Once : FnOK 9 F_r22_Once:=by
  intro args ob rs os h hob
  unfold F_r22_Once at h
  split at h
  · simp only[Option.bind_eq_some_iff,Option.some.injEq,Prod.mk.injEq] at h
    obtain⟨r,e0,rfl,rfl,rfl⟩:=h
    obtain rfl:=dS_eq e0
    exact⟨fn_contractF (M:=M_r22_Once) rfl (tbl_ok (l1:=[(28,F_r21_Split),(29,F_r22_filter),(30,F_r22_join),(19,F_r15_Width),(31,F_r22_parted),(32,F_r22_plain),(34,F_r22_put),(33,F_r22_over),(35,F_r22_group)]) (l2:=[]) (l3:=[]) (l4:=[]) (l5:=[]) ⟨ok_r21_Split,ok_r22_filter,ok_r22_join,ok_r15_Width,ok_r22_parted,ok_r22_plain,ok_r22_put,ok_r22_over,ok_r22_group,trivial⟩ trivial trivial trivial trivial) Tryz.func9 (by kernel_rfl) N_r22_Once 0 [.d,.d] (fun hwf=>(r22_Once_spec r (wfArg hwf (a:=.d (.agg (enc Ty.rel r))) (List.mem_of_getElem? (i:=0) rfl)) (hob _ (List.mem_of_getElem? (i:=0) rfl)))),hasBody_of Tryz.func9 (by kernel_rfl) (by kernel_rfl)⟩
  · simp at h
end
end Go.Proofs.YtolbngdhgcbmgaaGreat.B
