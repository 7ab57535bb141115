/- Part 14 of the proof: Sconj3 Sleavesp Lbulksz BLaw Svnum Svbool. -/
import Derived.Test.YtolbngdhgcbmgaaGreatPonce13
namespace Go.Proofs.YtolbngdhgcbmgaaGreat.B
open Go Go.RowKit
set_option maxRecDepth 100000
noncomputable section
attribute [local irreducible] awp ctxK itersK iterK retQ retGQ awf ctxF loopF
def M_idxf_int : Mc Un:=mach (tbl []) (tbl []) (tbl []) (tbl []) (tbl [])
def A_idxf_int (r:Int) : List (A Un):=[.c (.s (.int .i64 r))]
def O_idxf_int (_r:Int) : List (Ob Un):=[]
def R_idxf_int (r:Int) : RF Un:=(A_idxf_int r,O_idxf_int r)
def N_idxf_int : Nat→NS:=fun l=>(look l [(2,{ ts:=bl 19 403,bs:=bl 19 0,nm:=[] })]).getD ⟨[],[],[],[],[],false⟩
def idxf_int_s2 (s:List Int) (f:Int→Bool) (v0:Int) : S Un:=(st 19 19 76 0 [(0,al .int s),(1,AV.one (A.c (C.fv (fv_i_i64_to_b f)))),(4,ai (0:Int)),(7,ai (↑s.length:Int)),(8,ai v0)] [] [])
def idxf_int_e2_ret (s:List Int) (f:Int→Bool) (v0:Int) (v1:Int) : S Un:=(st 19 19 76 0 [(0,al .int s),(1,AV.one (A.c (C.fv (fv_i_i64_to_b f)))),(4,ai v1),(7,ai (↑s.length:Int)),(8,ai v0)] [] [])
def idxf_int_B2 : Code:=sub (bodyOf Tryz.f172) [1,0,1,2,2]
def idxf_int_L2 : S Un→Option (EX Un):=loopF (N_idxf_int 2) (fun s Q=>awf M_idxf_int N_idxf_int idxf_int_B2 s Q)
def idxf_int_C2 : Exit→S Un→Option (RF Un):=ctxF M_idxf_int N_idxf_int (bodyOf Tryz.f172) [1,0,1,2] (retF M_idxf_int Tryz.f172.results.toList [.d])
def idxf_int_fn (s:List Int) (f:Int→Bool) : Option (RF Un):=awf M_idxf_int N_idxf_int (bodyOf Tryz.f172) (entry Tryz.f172.ntmps 0 [.d (.v (.dat (U:=Un) Ty.int s)),.fn (fv_i_i64_to_b f)]) (retF M_idxf_int Tryz.f172.results.toList [.d])
theorem idxf_int_in (s:List Int) (f:Int→Bool) : idxf_int_fn s f=(idxf_int_L2 (idxf_int_s2 s f (0:Int))).bind (thenX idxf_int_C2):=by kernel_rfl
theorem idxf_int_l2 (s:List Int) (f:Int→Bool) (v0:Int) : idxf_int_L2 (idxf_int_s2 s f v0)=cndO (decide (v0<(↑s.length:Int))) (obO (0≤v0∧v0<(↑s.length:Int)) (cndO (f (s.getD v0.toNat (0:Int))) (some (.ret,(idxf_int_e2_ret s f v0 v0))) (idxf_int_L2 (idxf_int_s2 s f (IntKind.i64.wrap (v0+1)))))) (some (.exit 0,(idxf_int_s2 s f v0))):=(loopF_eq (N_idxf_int 2) idxf_int_B2 _).trans (by kernel_rfl)
theorem idxf_int_a2_ret (s:List Int) (f:Int→Bool) (v0:Int) (v1:Int) : idxf_int_C2 .ret (idxf_int_e2_ret s f v0 v1)=some (R_idxf_int (v1)):=by kernel_rfl
theorem idxf_int_a2_x0 (s:List Int) (f:Int→Bool) (v0:Int) : idxf_int_C2 (.exit 0) (idxf_int_s2 s f v0)=some (R_idxf_int ((-1:Int))):=by kernel_rfl
def idxf_int (s:List Int) (f:Int→Bool) : Int:=match s.findIdx? f with | some i=>(i:Int) | none=>-1
theorem idxf_int_nonneg (s:List Int) (f:Int→Bool) : 0≤idxf_int s f↔s.any f=true:=by
  unfold idxf_int
  cases h : s.findIdx? f with
  | none =>
    have:=List.findIdx?_eq_none_iff.1 h
    simp only[List.any_eq_true]
    constructor
    · intro h1;exact absurd h1 (by decide)
    · rintro ⟨x,hx,hf⟩;rw[this x hx] at hf;simp at hf
  | some i =>
    obtain⟨h1,h2,_⟩:=List.findIdx?_eq_some_iff_getElem.1 h
    simp only[List.any_eq_true]
    exact⟨fun _=>⟨s[i],List.getElem_mem h1,h2⟩,fun _=>by omega⟩
theorem idxf_int_spec (s:List Int) (f:Int→Bool) (hs:WL .int s) : idxf_int_fn s f=some (R_idxf_int (idxf_int s f)):=by
  have key:∀ (r:List Int) (i:Nat),s.drop i=r→i≤s.length→(idxf_int_L2 (idxf_int_s2 s f i)).bind (thenX idxf_int_C2)=some (R_idxf_int (match r.findIdx? f with | some k=>((i+k:Nat):Int) | none=>-1)):=by
    intro r
    induction r with
    | nil =>
      intro i hr hi
      have : s.length≤i:=by rw[← List.drop_eq_nil_iff];exact hr
      have e:idxf_int_L2 (idxf_int_s2 s f i)=some (.exit 0,idxf_int_s2 s f i):=by rw[idxf_int_l2,cndO_eq,if_neg (by simp;omega)]
      rw[loop_end e,idxf_int_a2_x0];rfl
    | cons x r ih =>
      intro i hr hi
      obtain⟨a1,a2,a3,_⟩:=drop_cons hr
      have hx:s.getD i 0=x:=a2 0
      by_cases hf : f x=true
      · have e:idxf_int_L2 (idxf_int_s2 s f i)=some (.ret,idxf_int_e2_ret s f i i):=by
          rw[idxf_int_l2,cndO_eq,if_pos (by simp;omega),obO_pos (by omega),Int.toNat_natCast,hx,cndO_eq,if_pos hf]
        rw[loop_end e,idxf_int_a2_ret]
        simp [List.findIdx?_cons,hf]
      · have e:idxf_int_L2 (idxf_int_s2 s f i)=idxf_int_L2 (idxf_int_s2 s f ((i+1:Nat):Int)):=by
          rw[idxf_int_l2,cndO_eq,if_pos (by simp;omega),obO_pos (by omega),Int.toNat_natCast,hx,cndO_eq,if_neg hf,wrap_next a1 hs.len]
        rw[e,ih (i+1) a3 (by omega)]
        congr 2
        simp only[List.findIdx?_cons,hf]
        cases r.findIdx? f with
        | none=>rfl
        | some k=>simp;omega
  rw[idxf_int_in]
  have:=key s 0 rfl (Nat.zero_le _)
  refine Eq.trans this ?_
  unfold idxf_int
  cases s.findIdx? f<;>simp
def F_idxf_int : FnC Un:=fun args=>match args with
  | [x0,x1]=>(dL .int x0).bind fun s=>(dF x1).bind fun f=>some ([f=(fv_i_i64_to_b (pf_i_i64_to_b f))],A_idxf_int (idxf_int s (pf_i_i64_to_b f)),O_idxf_int (idxf_int s (pf_i_i64_to_b f)))
  | _=>none
theorem ok_idxf_int : FnOK 172 F_idxf_int:=by
  intro args ob rs os h hob
  unfold F_idxf_int at h
  split at h
  · simp only[Option.bind_eq_some_iff,Option.some.injEq,Prod.mk.injEq] at h
    obtain⟨s,e0,f,e1,rfl,rfl,rfl⟩:=h
    obtain rfl:=dL_eq e0
    obtain rfl:=dF_eq e1
    have hfv0:=hob _ (List.mem_of_getElem? (i:=0) rfl)
    generalize pf_i_i64_to_b f=pp0 at *
    subst hfv0
    exact⟨fn_contractF (M:=M_idxf_int) rfl (tbl_ok (l1:=[]) (l2:=[]) (l3:=[]) (l4:=[]) (l5:=[]) trivial trivial trivial trivial trivial) Tryz.func172 (by kernel_rfl) N_idxf_int 0 [.d] (fun hwf=>(idxf_int_spec s pp0 (wfArg hwf (a:=.d (.v (.dat (U:=Un) Ty.int s))) (List.mem_of_getElem? (i:=0) rfl)))),hasBody_of Tryz.func172 (by kernel_rfl) (by kernel_rfl)⟩
  · simp at h
def M_conf_int : Mc Un:=mach (tbl [(172,F_idxf_int)]) (tbl []) (tbl []) (tbl []) (tbl [])
def A_conf_int (r:Bool) : List (A Un):=[.c (.s (.bool r))]
def O_conf_int (_r:Bool) : List (Ob Un):=[]
def R_conf_int (r:Bool) : RF Un:=(A_conf_int r,O_conf_int r)
def N_conf_int : Nat→NS:=fun l=>(look l []).getD ⟨[],[],[],[],[],false⟩
def conf_int_fn (s:List Int) (f:Int→Bool) : Option (RF Un):=awf M_conf_int N_conf_int (bodyOf Tryz.f157) (entry Tryz.f157.ntmps 0 [.d (.v (.dat (U:=Un) Ty.int s)),.fn (fv_i_i64_to_b f)]) (retF M_conf_int Tryz.f157.results.toList [.d])
theorem conf_int_in (s:List Int) (f:Int→Bool) : conf_int_fn s f=obO (fv_i_i64_to_b f=fv_i_i64_to_b (pf_i_i64_to_b (fv_i_i64_to_b f))) (some (R_conf_int (decide (idxf_int s (pf_i_i64_to_b (fv_i_i64_to_b f))≥0)))):=by kernel_rfl
def conf_int (s:List Int) (f:Int→Bool) : Bool:=s.any f
@[simp] theorem conf_int_eq (s:List Int) (f:Int→Bool) : conf_int s f=s.any f:=by unfold conf_int;rfl
theorem conf_int_spec (s:List Int) (f:Int→Bool) (_hs:WL .int s) : conf_int_fn s f=some (R_conf_int (conf_int s f)):=by
  rw[conf_int_in]
  simp only[pfv_i_i64_to_b]
  rw[obO_pos trivial]
  unfold conf_int
  congr 2
  have:=idxf_int_nonneg s f
  cases h : s.any f with
  | true=>simp;exact this.2 h
  | false =>
    have : ¬ 0≤idxf_int s f:=fun e=>by rw[this.1 e] at h;simp at h
    simpa using this
def F_conf_int : FnC Un:=fun args=>match args with
  | [x0,x1]=>(dL .int x0).bind fun s=>(dF x1).bind fun f=>some ([f=(fv_i_i64_to_b (pf_i_i64_to_b f))],A_conf_int (conf_int s (pf_i_i64_to_b f)),O_conf_int (conf_int s (pf_i_i64_to_b f)))
  | _=>none
theorem ok_conf_int : FnOK 157 F_conf_int:=by
  intro args ob rs os h hob
  unfold F_conf_int at h
  split at h
  · simp only[Option.bind_eq_some_iff,Option.some.injEq,Prod.mk.injEq] at h
    obtain⟨s,e0,f,e1,rfl,rfl,rfl⟩:=h
    obtain rfl:=dL_eq e0
    obtain rfl:=dF_eq e1
    have hfv0:=hob _ (List.mem_of_getElem? (i:=0) rfl)
    generalize pf_i_i64_to_b f=pp0 at *
    subst hfv0
    exact⟨fn_contractF (M:=M_conf_int) rfl (tbl_ok (l1:=[(172,F_idxf_int)]) (l2:=[]) (l3:=[]) (l4:=[]) (l5:=[]) ⟨ok_idxf_int,trivial⟩ trivial trivial trivial trivial) Tryz.func157 (by kernel_rfl) N_conf_int 0 [.d] (fun hwf=>(conf_int_spec s pp0 (wfArg hwf (a:=.d (.v (.dat (U:=Un) Ty.int s))) (List.mem_of_getElem? (i:=0) rfl)))),hasBody_of Tryz.func157 (by kernel_rfl) (by kernel_rfl)⟩
  · simp at h
mutual
def splitT : Term→List Term
  | .mk op v depth at_ name kids sub type=>if op=17∧kids.length=2 then splitTs kids else [.mk op v depth at_ name kids sub type]
def splitTs : List Term→List Term
  | []=>[]
  | t::r=>splitT t++splitTs r
end
theorem splitT_eq (t:Term) : splitT t=if t.op=17∧t.kids.length=2 then splitTs t.kids else [t]:=by cases t;simp only[splitT];rfl
mutual
theorem splitT_len : ∀ t : Term,(splitT t).length≤t.sz
  | .mk op v depth at_ name kids sub type=>by
    have:=splitTs_len kids
    simp only[splitT,Term.sz]
    split
    · omega
    · simp
theorem splitTs_len : ∀ l : List Term,(splitTs l).length≤szTs l
  | []=>by simp [splitTs,szTs]
  | t::r=>by have:=splitT_len t;have:=splitTs_len r;simp only[splitTs,szTs,List.length_append];omega
end
def conj_Split (t:Term) : List Term:=splitT t
@[simp] theorem conj_Split_eq (t:Term) : conj_Split t=splitT t:=by unfold conj_Split;rfl
def A_conj_Split (r:List Term) : List (A Un):=[.c (.ob 0 0)]
def O_conj_Split (r:List Term) : List (Ob Un):=[⟨0,Ty.term,r,none,true⟩]
def Fm_conj_Split (m:Nat) : FnC Un:=fun args=>match args with
  | [x0]=>(dS .term x0).bind fun t=>some ([t.ht<m,t.sz≤2000000],A_conj_Split (conj_Split t),O_conj_Split (conj_Split t))
  | _=>none
def M_conj_Split (m:Nat) : Mc Un:=mach (tbl [(123,Fm_conj_Split m)]) (tbl []) (tbl []) (tbl []) (tbl [])
def R_conj_Split (r:List Term) : RF Un:=(A_conj_Split r,O_conj_Split r)
def N_conj_Split : Nat→NS:=fun l=>(look l []).getD ⟨[],[],[],[],[],false⟩
def conj_Split_fn (m:Nat) (t:Term) : Option (RF Un):=awf (M_conj_Split m) N_conj_Split (bodyOf Tryz.f123) (entry Tryz.f123.ntmps 0 [.d (.agg (enc Ty.term t))]) (retF (M_conj_Split m) Tryz.f123.results.toList [.o])
theorem conj_Split_in (m:Nat) (t:Term) : conj_Split_fn m t=cndO (t.op != 17) (some (R_conj_Split ([(Term.ids t)]))) (cndO ((↑t.kids.length:Int) != (2:Int)) (some (R_conj_Split ([(Term.ids t)]))) (obO ((0:Int)≤(0:Int)∧(0:Int)<(↑t.kids.length:Int)) (obO ((Term.ids (t.kids.getD 0 zeroTerm)).ht<m) (obO ((Term.ids (t.kids.getD 0 zeroTerm)).sz≤(2000000:Nat)) (obO ((0:Int)≤(1:Int)∧(1:Int)<(↑t.kids.length:Int)) (obO ((Term.ids (t.kids.getD 1 zeroTerm)).ht<m) (obO ((Term.ids (t.kids.getD 1 zeroTerm)).sz≤(2000000:Nat)) (obO (((conj_Split (Term.ids (t.kids.getD 0 zeroTerm))).length+(conj_Split (Term.ids (t.kids.getD 1 zeroTerm))).length)*(128:Nat)≤roomB) (some (R_conj_Split (conj_Split (Term.ids (t.kids.getD 0 zeroTerm))++conj_Split (Term.ids (t.kids.getD 1 zeroTerm))))))))))))):=by kernel_rfl
theorem conj_Split_spec (m:Nat) (t:Term) (_ht:WS .term t) (hm:t.ht<m+1) (h:t.sz≤2000000) : conj_Split_fn m t=some (R_conj_Split (conj_Split t)):=by
  rw[conj_Split_in]
  simp only[conj_Split_eq,Term.ids_eq,cndO_eq]
  conv=>rhs;rw[splitT_eq]
  by_cases h1 : t.op=17
  · by_cases h2 : t.kids.length=2
    · obtain⟨a,b,hab⟩ : ∃ a b,t.kids=[a,b]:=by
        match hk : t.kids,h2 with
        | [a,b],_=>exact⟨a,b,rfl⟩
      have ha:a∈t.kids:=by rw[hab];simp
      have hb:b∈t.kids:=by rw[hab];simp
      have hta:=Term.ht_kid ha
      have htb:=Term.ht_kid hb
      have hsz:=t.sz_eq
      have hs:szTs t.kids=a.sz+b.sz:=by rw[hab];simp [szTs]
      have la:=splitT_len a
      have lb:=splitT_len b
      rw[if_neg (by simp [h1]),if_neg (by simp [h2]),if_pos ⟨h1,h2⟩,hab]
      have e0:[a,b].getD 0 zeroTerm=a:=rfl
      have e1:[a,b].getD 1 zeroTerm=b:=rfl
      rw[e0,e1,obO_pos (by simp),obO_pos (by omega),obO_pos (by omega),obO_pos (by simp),obO_pos (by omega),obO_pos (by omega),obO_pos (by unfold roomB;omega)]
      simp [splitTs]
    · rw[if_neg (by simp [h1]),if_pos (by simp;omega),if_neg (fun e=>h2 e.2)]
  · rw[if_pos (by simpa using h1),if_neg (fun e=>h1 e.1)]
theorem okm_conj_Split (m:Nat) (h_conj_Split:FnOK 123 (Fm_conj_Split m)) : FnOK 123 (Fm_conj_Split (m+1)):=by
  intro args ob rs os h hob
  unfold Fm_conj_Split at h
  split at h
  · simp only[Option.bind_eq_some_iff,Option.some.injEq,Prod.mk.injEq] at h
    obtain⟨t,e0,rfl,rfl,rfl⟩:=h
    obtain rfl:=dS_eq e0
    exact⟨fn_contractF (M:=(M_conj_Split m)) rfl (tbl_ok (l1:=[(123,Fm_conj_Split m)]) (l2:=[]) (l3:=[]) (l4:=[]) (l5:=[]) ⟨h_conj_Split,trivial⟩ trivial trivial trivial trivial) Tryz.func123 (by kernel_rfl) N_conj_Split 0 [.o] (fun hwf=>(conj_Split_spec m t (wfArg hwf (a:=.d (.agg (enc Ty.term t))) (List.mem_of_getElem? (i:=0) rfl)) (hob _ (List.mem_of_getElem? (i:=0) rfl)) (hob _ (List.mem_of_getElem? (i:=1) rfl)))),hasBody_of Tryz.func123 (by kernel_rfl) (by kernel_rfl)⟩
  · simp at h
theorem okAll_splitG : ∀ m,FnOK 123 (Fm_conj_Split m)
  | 0=>by
    skip
    intro args ob rs os h hob
    unfold Fm_conj_Split at h
    split at h
    · simp only[Option.bind_eq_some_iff,Option.some.injEq,Prod.mk.injEq] at h
      obtain⟨_,_,rfl,_,_⟩:=h
      exact absurd (hob _ (List.mem_of_getElem? (i:=0) rfl)) (Nat.not_lt_zero _)
    · simp at h
  | m+1=>by
    have ih:=okAll_splitG m
    exact okm_conj_Split m ih
def F_conj_Split : FnC Un:=fun args=>match args with
  | [x0]=>(dS .term x0).bind fun t=>some ([t.sz≤2000000],A_conj_Split (conj_Split t),O_conj_Split (conj_Split t))
  | _=>none
theorem ok_conj_Split : FnOK 123 F_conj_Split:=by
  intro args ob rs os h hob
  unfold F_conj_Split at h
  split at h
  · simp only[Option.bind_eq_some_iff,Option.some.injEq,Prod.mk.injEq] at h
    obtain⟨t,e0,rfl,rfl,rfl⟩:=h
    refine ((okAll_splitG (t.ht+1))) _ [t.ht<t.ht+1,t.sz≤2000000] _ _ (?_ : Fm_conj_Split (t.ht+1) _=some _) ?_
    · unfold Fm_conj_Split
      simp only[e0,Option.bind_some]
    · intro p hp
      simp only[List.mem_cons,List.not_mem_nil,or_false] at hp
      rcases hp with rfl | rfl
      · exact Nat.lt_succ_self _
      · exact hob _ (List.mem_of_getElem? (i:=0) rfl)
  · simp at h
end
end Go.Proofs.YtolbngdhgcbmgaaGreat.B
namespace Go.Proofs.YtolbngdhgcbmgaaGreat.B
open Go Go.RowKit
set_option maxRecDepth 100000
noncomputable section
attribute [local irreducible] awp ctxK itersK iterK retQ retGQ awf ctxF loopF
def kidsN (op:Int) : Int:=if op=1∨op=2 then 0 else if op=3∨op=4∨op=7∨op=8∨op=12∨op=13 then 1 else if op=5∨op=6∨op=9∨op=10∨op=11 then 2 else -1
mutual
def widthR : Rel→Int
  | .mk op _ cols kids terms aggs _ _ _ _ _ =>
    if kidsN op<0∨(kids.length:Int)<kidsN op then 0
    else if op=1∨op=2 then cols.length
    else if op=4 then terms.length
    else if op=7 then IntKind.i64.wrap ((terms.length:Int)+aggs.length)
    else if op=5∨op=6 then IntKind.i64.wrap ((widthsR kids).getD 0 0+(widthsR kids).getD 1 0)
    else (widthsR kids).getD 0 0
def widthsR : List Rel→List Int
  | []=>[]
  | r::l=>widthR r::widthsR l
end
mutual
theorem splitT_sz : ∀ t : Term,szTs (splitT t)≤t.sz
  | .mk op v depth at_ name kids sub type=>by
    have:=splitTs_sz kids
    simp only[splitT]
    split
    · simp only[Term.sz];omega
    · simp only[szTs,Nat.add_zero];exact Nat.le_refl _
theorem splitTs_sz : ∀ l : List Term,szTs (splitTs l)≤szTs l
  | []=>by simp [splitTs]
  | t::r=>by
    have h1:=splitT_sz t
    have h2:=splitTs_sz r
    simp only[splitTs,szTs,szTs_append];omega
end
section
variable {mv:Term→List Int→Term}
end
section
variable {p q:Term→Int→Term} {D:Int}
end
section
variable {ma mb:Term→List Int→Term} {B:Nat}
end
mutual
def csR : Rel→Nat
  | .mk _ _ cols kids terms aggs _ _ _ _ _=>cols.length+terms.length+aggs.length+csRs kids
def csRs : List Rel→Nat
  | []=>0
  | r::l=>csR r+csRs l
end
mutual
theorem width_cs : ∀ r : Rel,csR r≤2000000→0≤widthR r∧widthR r≤csR r
  | .mk op table cols kids terms aggs keys limit skip all rows,h=>by
    simp only[csR] at h
    obtain⟨k1,k2,k3,k4,k5⟩:=widths_cs kids (by omega)
    simp only[widthR,csR]
    split
    · omega
    · split
      · omega
      · split
        · omega
        · split
          · rw[wrap_id (by omega)];omega
          · split
            · rw[wrap_id (by omega)];omega
            · omega
theorem widths_cs : ∀ l : List Rel,csRs l≤2000000→0≤(widthsR l).getD 0 0∧0≤(widthsR l).getD 1 0∧(widthsR l).getD 0 0≤csRs l∧(widthsR l).getD 1 0≤csRs l∧(widthsR l).getD 0 0+(widthsR l).getD 1 0≤csRs l
  | [],_=>by simp [widthsR,csRs]
  | r::l,h=>by
    simp only[csRs] at h
    obtain⟨h1,h2⟩:=width_cs r (by omega)
    obtain⟨k1,_,k3,_,_⟩:=widths_cs l (by omega)
    simp only[widthsR,List.getD_cons_zero,List.getD_cons_succ,csRs]
    omega
end
theorem widthR_eq (r:Rel) : widthR r=if kidsN r.op<0∨(r.kids.length:Int)<kidsN r.op then 0 else if r.op=1∨r.op=2 then (r.cols.length:Int) else if r.op=4 then (r.terms.length:Int) else if r.op=7 then IntKind.i64.wrap ((r.terms.length:Int)+r.aggs.length) else if r.op=5∨r.op=6 then IntKind.i64.wrap ((widthsR r.kids).getD 0 0+(widthsR r.kids).getD 1 0) else (widthsR r.kids).getD 0 0:=by cases r;simp only[widthR];rfl
theorem widthsR_get : ∀ (l:List Rel) (i:Nat),i<l.length→(widthsR l).getD i 0=widthR (l.getD i zeroRel)
  | r::l,0,_=>rfl
  | r::l,i+1,h=>by
    simp only[widthsR,List.getD_cons_succ]
    exact widthsR_get l i (by simpa using h)
theorem kidsN_one {op:Int} (h:¬ kidsN op<0) (h1:¬ (op=1∨op=2)) : 1≤kidsN op:=by
  unfold kidsN at h ⊢
  rw[if_neg h1] at h ⊢
  split
  · omega
  · rename_i h2
    rw[if_neg h2] at h
    split
    · omega
    · rename_i h3
      rw[if_neg h3] at h
      omega
theorem kidsN_two {op:Int} (h:op=5∨op=6) : kidsN op=2:=by
  rcases h with rfl | rfl<;>rfl
end
end Go.Proofs.YtolbngdhgcbmgaaGreat.B
namespace Go.Proofs.YtolbngdhgcbmgaaGreat.B
open Go Go.RowKit
set_option linter.unusedVariables false
mutual
theorem bkC : ∀ (r:Rel) (n:Nat),BKS (enc .rel r) n→csR r≤n
  | .mk op table cols kids terms aggs keys limit skip all rows,n,h=>by
    obtain⟨_,_,_,h,_⟩:=h.cons_inv
    obtain⟨_,_,_,h,_⟩:=h.cons_inv
    obtain⟨_,_,k0,h,_⟩:=h.cons_inv
    obtain⟨_,_,k1,h,_⟩:=h.cons_inv
    obtain⟨_,_,k2,h,_⟩:=h.cons_inv
    obtain⟨_,_,k3,h,_⟩:=h.cons_inv
    have e0:(cols:List Col).length≤_:=(BK.dat_inv k0).len
    have e1:=bkCs kids _ k1.dat_inv
    have e2:(terms:List Term).length≤_:=(BK.dat_inv k2).len
    have e3:(aggs:List Agg).length≤_:=(BK.dat_inv k3).len
    simp only[csR];omega
theorem bkCs : ∀ (l:List Rel) (n:Nat),BKL .rel l n→csRs l≤n
  | [],_,_=>Nat.zero_le _
  | t::r,n,h=>by
    obtain⟨_,_,h1,h2,_⟩:=h.cons_inv
    have e1:=bkC t _ h1
    have e2:=bkCs r _ h2
    simp only[csRs];omega
end
end Go.Proofs.YtolbngdhgcbmgaaGreat.B
namespace Go.Proofs.YtolbngdhgcbmgaaGreat.B
open Go Go.RowKit Go.ChangeShapes
set_option maxRecDepth 1000000
theorem tot_int {vs:List (V Un)} (h:vs.map flOf=(fls .int).map some) : ∃ x,dec .int vs=some x:=by
  have h0:vs.map flOf=([.int] : List Fl).map some:=h
  clear h
  obtain⟨a0,r0,rfl,h1⟩:=fl_int h0;clear h0
  obtain rfl:=fl_nil h1
  exact⟨_,rfl⟩
theorem tot_str {vs:List (V Un)} (h:vs.map flOf=(fls .str).map some) : ∃ x,dec .str vs=some x:=by
  have h0:vs.map flOf=([.str] : List Fl).map some:=h
  clear h
  obtain⟨a0,r0,rfl,h1⟩:=fl_str h0;clear h0
  obtain rfl:=fl_nil h1
  exact⟨_,rfl⟩
theorem tot_row {vs:List (V Un)} (h:vs.map flOf=(fls .row).map some) : ∃ x,dec .row vs=some x:=by
  have h0:vs.map flOf=([.sl .val] : List Fl).map some:=h
  clear h
  obtain⟨a0,r0,rfl,h1⟩:=fl_sl h0;clear h0
  obtain rfl:=fl_nil h1
  exact⟨_,rfl⟩
theorem tot_ints {vs:List (V Un)} (h:vs.map flOf=(fls .ints).map some) : ∃ x,dec .ints vs=some x:=by
  have h0:vs.map flOf=([.sl .int] : List Fl).map some:=h
  clear h
  obtain⟨a0,r0,rfl,h1⟩:=fl_sl h0;clear h0
  obtain rfl:=fl_nil h1
  exact⟨_,rfl⟩
theorem tot_trms {vs:List (V Un)} (h:vs.map flOf=(fls .trms).map some) : ∃ x,dec .trms vs=some x:=by
  have h0:vs.map flOf=([.sl .term] : List Fl).map some:=h
  clear h
  obtain⟨a0,r0,rfl,h1⟩:=fl_sl h0;clear h0
  obtain rfl:=fl_nil h1
  exact⟨_,rfl⟩
theorem tot_colss {vs:List (V Un)} (h:vs.map flOf=(fls .colss).map some) : ∃ x,dec .colss vs=some x:=by
  have h0:vs.map flOf=([.sl .col] : List Fl).map some:=h
  clear h
  obtain⟨a0,r0,rfl,h1⟩:=fl_sl h0;clear h0
  obtain rfl:=fl_nil h1
  exact⟨_,rfl⟩
theorem tot_pair {vs:List (V Un)} (h:vs.map flOf=(fls .pair).map some) : ∃ x,dec .pair vs=some x:=by
  have h0:vs.map flOf=([.int,.int] : List Fl).map some:=h
  clear h
  obtain⟨a0,r0,rfl,h1⟩:=fl_int h0;clear h0
  obtain⟨a1,r1,rfl,h2⟩:=fl_int h1;clear h1
  obtain rfl:=fl_nil h2
  exact⟨_,rfl⟩
theorem tot_val {vs:List (V Un)} (h:vs.map flOf=(fls .val).map some) : ∃ x,dec .val vs=some x:=by
  have h0:vs.map flOf=([.int,.int,.str] : List Fl).map some:=h
  clear h
  obtain⟨a0,r0,rfl,h1⟩:=fl_int h0;clear h0
  obtain⟨a1,r1,rfl,h2⟩:=fl_int h1;clear h1
  obtain⟨a2,r2,rfl,h3⟩:=fl_str h2;clear h2
  obtain rfl:=fl_nil h3
  exact⟨_,rfl⟩
theorem tot_col {vs:List (V Un)} (h:vs.map flOf=(fls .col).map some) : ∃ x,dec .col vs=some x:=by
  have h0:vs.map flOf=([.str,.str,.int] : List Fl).map some:=h
  clear h
  obtain⟨a0,r0,rfl,h1⟩:=fl_str h0;clear h0
  obtain⟨a1,r1,rfl,h2⟩:=fl_str h1;clear h1
  obtain⟨a2,r2,rfl,h3⟩:=fl_int h2;clear h2
  obtain rfl:=fl_nil h3
  exact⟨_,rfl⟩
theorem tot_by_ {vs:List (V Un)} (h:vs.map flOf=(fls .by_).map some) : ∃ x,dec .by_ vs=some x:=by
  have h0:vs.map flOf=([.int,.bool] : List Fl).map some:=h
  clear h
  obtain⟨a0,r0,rfl,h1⟩:=fl_int h0;clear h0
  obtain⟨a1,r1,rfl,h2⟩:=fl_bool h1;clear h1
  obtain rfl:=fl_nil h2
  exact⟨_,rfl⟩
theorem tot_bound {vs:List (V Un)} (h:vs.map flOf=(fls .bound).map some) : ∃ x,dec .bound vs=some x:=by
  have h0:vs.map flOf=([.bool,.bool,.sl .val] : List Fl).map some:=h
  clear h
  obtain⟨a0,r0,rfl,h1⟩:=fl_bool h0;clear h0
  obtain⟨a1,r1,rfl,h2⟩:=fl_bool h1;clear h1
  obtain⟨a2,r2,rfl,h3⟩:=fl_sl h2;clear h2
  obtain rfl:=fl_nil h3
  exact⟨_,rfl⟩
theorem tot_often {vs:List (V Un)} (h:vs.map flOf=(fls .often).map some) : ∃ x,dec .often vs=some x:=by
  have h0:vs.map flOf=([.int,.int,.str,.int] : List Fl).map some:=h
  clear h
  obtain⟨a0,r0,rfl,h1⟩:=fl_int h0;clear h0
  obtain⟨a1,r1,rfl,h2⟩:=fl_int h1;clear h1
  obtain⟨a2,r2,rfl,h3⟩:=fl_str h2;clear h2
  obtain⟨a3,r3,rfl,h4⟩:=fl_int h3;clear h3
  obtain rfl:=fl_nil h4
  exact⟨_,rfl⟩
theorem tot_colStat {vs:List (V Un)} (h:vs.map flOf=(fls .colStat).map some) : ∃ x,dec .colStat vs=some x:=by
  have h0:vs.map flOf=([.int,.int,.sl .val,.sl .often] : List Fl).map some:=h
  clear h
  obtain⟨a0,r0,rfl,h1⟩:=fl_int h0;clear h0
  obtain⟨a1,r1,rfl,h2⟩:=fl_int h1;clear h1
  obtain⟨a2,r2,rfl,h3⟩:=fl_sl h2;clear h2
  obtain⟨a3,r3,rfl,h4⟩:=fl_sl h3;clear h3
  obtain rfl:=fl_nil h4
  exact⟨_,rfl⟩
theorem tot_data {vs:List (V Un)} (h:vs.map flOf=(fls .data).map some) : ∃ x,dec .data vs=some x:=by
  have h0:vs.map flOf=([.str,.sl .row] : List Fl).map some:=h
  clear h
  obtain⟨a0,r0,rfl,h1⟩:=fl_str h0;clear h0
  obtain⟨a1,r1,rfl,h2⟩:=fl_sl h1;clear h1
  obtain rfl:=fl_nil h2
  exact⟨_,rfl⟩
theorem tot_acc {vs:List (V Un)} (h:vs.map flOf=(fls .acc).map some) : ∃ x,dec .acc vs=some x:=by
  have h0:vs.map flOf=([.str,.bool,.int,.int,.int,.int,.int,.str,.sl .val] : List Fl).map some:=h
  clear h
  obtain⟨a0,r0,rfl,h1⟩:=fl_str h0;clear h0
  obtain⟨a1,r1,rfl,h2⟩:=fl_bool h1;clear h1
  obtain⟨a2,r2,rfl,h3⟩:=fl_int h2;clear h2
  obtain⟨a3,r3,rfl,h4⟩:=fl_int h3;clear h3
  obtain⟨a4,r4,rfl,h5⟩:=fl_int h4;clear h4
  obtain⟨a5,r5,rfl,h6⟩:=fl_int h5;clear h5
  obtain⟨a6,r6,rfl,h7⟩:=fl_int h6;clear h6
  obtain⟨a7,r7,rfl,h8⟩:=fl_str h7;clear h7
  obtain⟨a8,r8,rfl,h9⟩:=fl_sl h8;clear h8
  obtain rfl:=fl_nil h9
  exact⟨_,rfl⟩
theorem tot_stat {vs:List (V Un)} (h:vs.map flOf=(fls .stat).map some) : ∃ x,dec .stat vs=some x:=by
  have h0:vs.map flOf=([.str,.int,.int,.sl .colStat] : List Fl).map some:=h
  clear h
  obtain⟨a0,r0,rfl,h1⟩:=fl_str h0;clear h0
  obtain⟨a1,r1,rfl,h2⟩:=fl_int h1;clear h1
  obtain⟨a2,r2,rfl,h3⟩:=fl_int h2;clear h2
  obtain⟨a3,r3,rfl,h4⟩:=fl_sl h3;clear h3
  obtain rfl:=fl_nil h4
  exact⟨_,rfl⟩
theorem tot_column {vs:List (V Un)} (h:vs.map flOf=(fls .column).map some) : ∃ x,dec .column vs=some x:=by
  have h0:vs.map flOf=([.int,.int,.sl .val,.sl .often,.int,.int,.int] : List Fl).map some:=h
  clear h
  obtain⟨a0,r0,rfl,h1⟩:=fl_int h0;clear h0
  obtain⟨a1,r1,rfl,h2⟩:=fl_int h1;clear h1
  obtain⟨a2,r2,rfl,h3⟩:=fl_sl h2;clear h2
  obtain⟨a3,r3,rfl,h4⟩:=fl_sl h3;clear h3
  obtain⟨a4,r4,rfl,h5⟩:=fl_int h4;clear h4
  obtain⟨a5,r5,rfl,h6⟩:=fl_int h5;clear h5
  obtain⟨a6,r6,rfl,h7⟩:=fl_int h6;clear h6
  obtain rfl:=fl_nil h7
  exact⟨_,rfl⟩
theorem tot_term {vs:List (V Un)} (h:vs.map flOf=(fls .term).map some) : ∃ x,dec .term vs=some x:=by
  have h0:vs.map flOf=([.int,.int,.int,.str,.int,.int,.str,.sl .term,.sl .rel,.int] : List Fl).map some:=h
  clear h
  obtain⟨a0,r0,rfl,h1⟩:=fl_int h0;clear h0
  obtain⟨a1,r1,rfl,h2⟩:=fl_int h1;clear h1
  obtain⟨a2,r2,rfl,h3⟩:=fl_int h2;clear h2
  obtain⟨a3,r3,rfl,h4⟩:=fl_str h3;clear h3
  obtain⟨a4,r4,rfl,h5⟩:=fl_int h4;clear h4
  obtain⟨a5,r5,rfl,h6⟩:=fl_int h5;clear h5
  obtain⟨a6,r6,rfl,h7⟩:=fl_str h6;clear h6
  obtain⟨a7,r7,rfl,h8⟩:=fl_sl h7;clear h7
  obtain⟨a8,r8,rfl,h9⟩:=fl_sl h8;clear h8
  obtain⟨a9,r9,rfl,h10⟩:=fl_int h9;clear h9
  obtain rfl:=fl_nil h10
  exact⟨_,rfl⟩
theorem tot_agg {vs:List (V Un)} (h:vs.map flOf=(fls .agg).map some) : ∃ x,dec .agg vs=some x:=by
  have h0:vs.map flOf=([.str,.bool,.sl .term] : List Fl).map some:=h
  clear h
  obtain⟨a0,r0,rfl,h1⟩:=fl_str h0;clear h0
  obtain⟨a1,r1,rfl,h2⟩:=fl_bool h1;clear h1
  obtain⟨a2,r2,rfl,h3⟩:=fl_sl h2;clear h2
  obtain rfl:=fl_nil h3
  exact⟨_,rfl⟩
theorem tot_rel {vs:List (V Un)} (h:vs.map flOf=(fls .rel).map some) : ∃ x,dec .rel vs=some x:=by
  have h0:vs.map flOf=([.int,.str,.sl .col,.sl .rel,.sl .term,.sl .agg,.sl .by_,.int,.int,.bool,.sl .row] : List Fl).map some:=h
  clear h
  obtain⟨a0,r0,rfl,h1⟩:=fl_int h0;clear h0
  obtain⟨a1,r1,rfl,h2⟩:=fl_str h1;clear h1
  obtain⟨a2,r2,rfl,h3⟩:=fl_sl h2;clear h2
  obtain⟨a3,r3,rfl,h4⟩:=fl_sl h3;clear h3
  obtain⟨a4,r4,rfl,h5⟩:=fl_sl h4;clear h4
  obtain⟨a5,r5,rfl,h6⟩:=fl_sl h5;clear h5
  obtain⟨a6,r6,rfl,h7⟩:=fl_sl h6;clear h6
  obtain⟨a7,r7,rfl,h8⟩:=fl_int h7;clear h7
  obtain⟨a8,r8,rfl,h9⟩:=fl_int h8;clear h8
  obtain⟨a9,r9,rfl,h10⟩:=fl_bool h9;clear h9
  obtain⟨a10,r10,rfl,h11⟩:=fl_sl h10;clear h10
  obtain rfl:=fl_nil h11
  exact⟨_,rfl⟩
theorem tot_plan {vs:List (V Un)} (h:vs.map flOf=(fls .plan).map some) : ∃ x,dec .plan vs=some x:=by
  have h0:vs.map flOf=([.int,.str,.str,.sl .col,.sl .plan,.sl .term,.sl .term,.sl .term,.sl .agg,.sl .by_,.sl .int,.bool,.bool,.sl .val,.bool,.bool,.sl .val,.int,.int,.bool,.sl .row,.int,.int] : List Fl).map some:=h
  clear h
  obtain⟨a0,r0,rfl,h1⟩:=fl_int h0;clear h0
  obtain⟨a1,r1,rfl,h2⟩:=fl_str h1;clear h1
  obtain⟨a2,r2,rfl,h3⟩:=fl_str h2;clear h2
  obtain⟨a3,r3,rfl,h4⟩:=fl_sl h3;clear h3
  obtain⟨a4,r4,rfl,h5⟩:=fl_sl h4;clear h4
  obtain⟨a5,r5,rfl,h6⟩:=fl_sl h5;clear h5
  obtain⟨a6,r6,rfl,h7⟩:=fl_sl h6;clear h6
  obtain⟨a7,r7,rfl,h8⟩:=fl_sl h7;clear h7
  obtain⟨a8,r8,rfl,h9⟩:=fl_sl h8;clear h8
  obtain⟨a9,r9,rfl,h10⟩:=fl_sl h9;clear h9
  obtain⟨a10,r10,rfl,h11⟩:=fl_sl h10;clear h10
  obtain⟨a11,r11,rfl,h12⟩:=fl_bool h11;clear h11
  obtain⟨a12,r12,rfl,h13⟩:=fl_bool h12;clear h12
  obtain⟨a13,r13,rfl,h14⟩:=fl_sl h13;clear h13
  obtain⟨a14,r14,rfl,h15⟩:=fl_bool h14;clear h14
  obtain⟨a15,r15,rfl,h16⟩:=fl_bool h15;clear h15
  obtain⟨a16,r16,rfl,h17⟩:=fl_sl h16;clear h16
  obtain⟨a17,r17,rfl,h18⟩:=fl_int h17;clear h17
  obtain⟨a18,r18,rfl,h19⟩:=fl_int h18;clear h18
  obtain⟨a19,r19,rfl,h20⟩:=fl_bool h19;clear h19
  obtain⟨a20,r20,rfl,h21⟩:=fl_sl h20;clear h20
  obtain⟨a21,r21,rfl,h22⟩:=fl_int h21;clear h21
  obtain⟨a22,r22,rfl,h23⟩:=fl_int h22;clear h22
  obtain rfl:=fl_nil h23
  exact⟨_,rfl⟩
theorem tot_span {vs:List (V Un)} (h:vs.map flOf=(fls .span).map some) : ∃ x,dec .span vs=some x:=by
  have h0:vs.map flOf=([.sl .val,.bool,.bool,.sl .val,.bool,.bool,.sl .val,.int,.sl .term] : List Fl).map some:=h
  clear h
  obtain⟨a0,r0,rfl,h1⟩:=fl_sl h0;clear h0
  obtain⟨a1,r1,rfl,h2⟩:=fl_bool h1;clear h1
  obtain⟨a2,r2,rfl,h3⟩:=fl_bool h2;clear h2
  obtain⟨a3,r3,rfl,h4⟩:=fl_sl h3;clear h3
  obtain⟨a4,r4,rfl,h5⟩:=fl_bool h4;clear h4
  obtain⟨a5,r5,rfl,h6⟩:=fl_bool h5;clear h5
  obtain⟨a6,r6,rfl,h7⟩:=fl_sl h6;clear h6
  obtain⟨a7,r7,rfl,h8⟩:=fl_int h7;clear h7
  obtain⟨a8,r8,rfl,h9⟩:=fl_sl h8;clear h8
  obtain rfl:=fl_nil h9
  exact⟨_,rfl⟩
theorem tot_u8 {vs:List (V Un)} (h:vs.map flOf=(fls .u8).map some) : ∃ x,dec .u8 vs=some x:=by
  have h0:vs.map flOf=([.num .u8] : List Fl).map some:=h
  clear h
  obtain⟨a0,r0,rfl,h1⟩:=fl_num h0;clear h0
  obtain rfl:=fl_nil h1
  exact⟨_,rfl⟩
theorem tot_bol {vs:List (V Un)} (h:vs.map flOf=(fls .bol).map some) : ∃ x,dec .bol vs=some x:=by
  have h0:vs.map flOf=([.bool] : List Fl).map some:=h
  clear h
  obtain⟨a0,r0,rfl,h1⟩:=fl_bool h0;clear h0
  obtain rfl:=fl_nil h1
  exact⟨_,rfl⟩
theorem tot_sign {vs:List (V Un)} (h:vs.map flOf=(fls .sign).map some) : ∃ x,dec .sign vs=some x:=by
  have h0:vs.map flOf=([.int,.num .u8] : List Fl).map some:=h
  clear h
  obtain⟨a0,r0,rfl,h1⟩:=fl_int h0;clear h0
  obtain⟨a1,r1,rfl,h2⟩:=fl_num h1;clear h1
  obtain rfl:=fl_nil h2
  exact⟨_,rfl⟩
theorem tot_bunch {vs:List (V Un)} (h:vs.map flOf=(fls .bunch).map some) : ∃ x,dec .bunch vs=some x:=by
  have h0:vs.map flOf=([.sl .val,.sl .row] : List Fl).map some:=h
  clear h
  obtain⟨a0,r0,rfl,h1⟩:=fl_sl h0;clear h0
  obtain⟨a1,r1,rfl,h2⟩:=fl_sl h1;clear h1
  obtain rfl:=fl_nil h2
  exact⟨_,rfl⟩
theorem tot_wld {vs:List (V Un)} (h:vs.map flOf=(fls .wld).map some) : ∃ x,dec .wld vs=some x:=by
  have h0:vs.map flOf=([.sl .row,.sl .data] : List Fl).map some:=h
  clear h
  obtain⟨a0,r0,rfl,h1⟩:=fl_sl h0;clear h0
  obtain⟨a1,r1,rfl,h2⟩:=fl_sl h1;clear h1
  obtain rfl:=fl_nil h2
  exact⟨_,rfl⟩
theorem decTot : DecTot:=by
  intro τ vs h
  cases τ with
  | int=>exact tot_int h
  | str=>exact tot_str h
  | row=>exact tot_row h
  | ints=>exact tot_ints h
  | trms=>exact tot_trms h
  | colss=>exact tot_colss h
  | pair=>exact tot_pair h
  | u8=>exact tot_u8 h
  | bol=>exact tot_bol h
  | val=>exact tot_val h
  | col=>exact tot_col h
  | by_=>exact tot_by_ h
  | bound=>exact tot_bound h
  | often=>exact tot_often h
  | colStat=>exact tot_colStat h
  | data=>exact tot_data h
  | acc=>exact tot_acc h
  | stat=>exact tot_stat h
  | column=>exact tot_column h
  | term=>exact tot_term h
  | agg=>exact tot_agg h
  | rel=>exact tot_rel h
  | plan=>exact tot_plan h
  | sign=>exact tot_sign h
  | bunch=>exact tot_bunch h
  | wld=>exact tot_wld h
  | span=>exact tot_span h
theorem enc_fl : ∀ (τ:Ty) (x:Den τ),(B.enc τ x).map flOf=(fls τ).map some:=by intro τ x;cases τ<;>rfl
theorem inj_val {x y:Val} (h:B.enc .val x=B.enc .val y) : x=y:=by
  cases x;cases y
  simp only[B.enc,List.cons.injEq,V.s.injEq,V.dat.injEq,Value.int.injEq,Value.bool.injEq,Value.string.injEq,heq_eq_eq,true_and,and_true,ci,cb,cs] at h
  simp only[Val.mk.injEq]
  exact h
theorem inj_col {x y:Col} (h:B.enc .col x=B.enc .col y) : x=y:=by
  cases x;cases y
  simp only[B.enc,List.cons.injEq,V.s.injEq,V.dat.injEq,Value.int.injEq,Value.bool.injEq,Value.string.injEq,heq_eq_eq,true_and,and_true,ci,cb,cs] at h
  simp only[Col.mk.injEq]
  exact h
theorem inj_by_ {x y:By} (h:B.enc .by_ x=B.enc .by_ y) : x=y:=by
  cases x;cases y
  simp only[B.enc,List.cons.injEq,V.s.injEq,V.dat.injEq,Value.int.injEq,Value.bool.injEq,Value.string.injEq,heq_eq_eq,true_and,and_true,ci,cb,cs] at h
  simp only[By.mk.injEq]
  exact h
theorem inj_bound {x y:Bound} (h:B.enc .bound x=B.enc .bound y) : x=y:=by
  cases x;cases y
  simp only[B.enc,List.cons.injEq,V.s.injEq,V.dat.injEq,Value.int.injEq,Value.bool.injEq,Value.string.injEq,heq_eq_eq,true_and,and_true,ci,cb,cs] at h
  simp only[Bound.mk.injEq]
  exact h
theorem inj_often {x y:Often} (h:B.enc .often x=B.enc .often y) : x=y:=by
  cases x;cases y
  simp only[B.enc,List.cons.injEq,V.s.injEq,V.dat.injEq,Value.int.injEq,Value.bool.injEq,Value.string.injEq,heq_eq_eq,true_and,and_true,ci,cb,cs] at h
  simp only[Often.mk.injEq]
  obtain⟨e0,e1,e2,e3⟩:=h
  exact⟨inj_val (by simp only[B.enc,ci,cb,cs];simp only[e0,e1,e2]),e3⟩
theorem inj_colStat {x y:ColStat} (h:B.enc .colStat x=B.enc .colStat y) : x=y:=by
  cases x;cases y
  simp only[B.enc,List.cons.injEq,V.s.injEq,V.dat.injEq,Value.int.injEq,Value.bool.injEq,Value.string.injEq,heq_eq_eq,true_and,and_true,ci,cb,cs] at h
  simp only[ColStat.mk.injEq]
  exact h
theorem inj_data {x y:Data} (h:B.enc .data x=B.enc .data y) : x=y:=by
  cases x;cases y
  simp only[B.enc,List.cons.injEq,V.s.injEq,V.dat.injEq,Value.int.injEq,Value.bool.injEq,Value.string.injEq,heq_eq_eq,true_and,and_true,ci,cb,cs] at h
  simp only[Data.mk.injEq]
  exact h
theorem inj_acc {x y:Acc} (h:B.enc .acc x=B.enc .acc y) : x=y:=by
  cases x;cases y
  simp only[B.enc,List.cons.injEq,V.s.injEq,V.dat.injEq,Value.int.injEq,Value.bool.injEq,Value.string.injEq,heq_eq_eq,true_and,and_true,ci,cb,cs] at h
  simp only[Acc.mk.injEq]
  obtain⟨e0,e1,e2,e3,e4,e5,e6,e7,e8⟩:=h
  exact⟨e0,e1,e2,e3,e4,inj_val (by simp only[B.enc,ci,cb,cs];simp only[e5,e6,e7]),e8⟩
theorem inj_stat {x y:Stat} (h:B.enc .stat x=B.enc .stat y) : x=y:=by
  cases x;cases y
  simp only[B.enc,List.cons.injEq,V.s.injEq,V.dat.injEq,Value.int.injEq,Value.bool.injEq,Value.string.injEq,heq_eq_eq,true_and,and_true,ci,cb,cs] at h
  simp only[Stat.mk.injEq]
  exact h
theorem inj_column {x y:Column} (h:B.enc .column x=B.enc .column y) : x=y:=by
  cases x;cases y
  simp only[B.enc,List.cons.injEq,V.s.injEq,V.dat.injEq,Value.int.injEq,Value.bool.injEq,Value.string.injEq,heq_eq_eq,true_and,and_true,ci,cb,cs] at h
  simp only[Column.mk.injEq]
  obtain⟨e0,e1,e2,e3,e4,e5,e6⟩:=h
  exact⟨inj_colStat (by simp only[B.enc,ci,cb,cs];simp only[e0,e1,e2,e3]),e4,e5,e6⟩
theorem inj_term {x y:Term} (h:B.enc .term x=B.enc .term y) : x=y:=by
  cases x;cases y
  simp only[B.enc,Term.op_mk,Term.v_mk,Term.depth_mk,Term.at__mk,Term.name_mk,Term.kids_mk,Term.sub_mk,Term.type_mk,List.cons.injEq,V.s.injEq,V.dat.injEq,Value.int.injEq,Value.bool.injEq,Value.string.injEq,heq_eq_eq,true_and,and_true,ci,cb,cs] at h
  simp only[Term.mk.injEq]
  obtain⟨e0,e1,e2,e3,e4,e5,e6,e7,e8,e9⟩:=h
  exact⟨e0,inj_val (by simp only[B.enc,ci,cb,cs];simp only[e1,e2,e3]),e4,e5,e6,e7,e8,e9⟩
theorem inj_agg {x y:Agg} (h:B.enc .agg x=B.enc .agg y) : x=y:=by
  cases x;cases y
  simp only[B.enc,Agg.name_mk,Agg.distinct_mk,Agg.t_mk,List.cons.injEq,V.s.injEq,V.dat.injEq,Value.int.injEq,Value.bool.injEq,Value.string.injEq,heq_eq_eq,true_and,and_true,ci,cb,cs] at h
  simp only[Agg.mk.injEq]
  exact h
theorem inj_rel {x y:Rel} (h:B.enc .rel x=B.enc .rel y) : x=y:=by
  cases x;cases y
  simp only[B.enc,Rel.op_mk,Rel.table_mk,Rel.cols_mk,Rel.kids_mk,Rel.terms_mk,Rel.aggs_mk,Rel.keys_mk,Rel.limit_mk,Rel.skip_mk,Rel.all_mk,Rel.rows_mk,List.cons.injEq,V.s.injEq,V.dat.injEq,Value.int.injEq,Value.bool.injEq,Value.string.injEq,heq_eq_eq,true_and,and_true,ci,cb,cs] at h
  simp only[Rel.mk.injEq]
  exact h
theorem inj_plan {x y:Plan} (h:B.enc .plan x=B.enc .plan y) : x=y:=by
  cases x;cases y
  simp only[B.enc,Plan.op_mk,Plan.table_mk,Plan.index_mk,Plan.cols_mk,Plan.kids_mk,Plan.terms_mk,Plan.lkeys_mk,Plan.rkeys_mk,Plan.aggs_mk,Plan.keys_mk,Plan.out_mk,Plan.lo_mk,Plan.hi_mk,Plan.limit_mk,Plan.skip_mk,Plan.all_mk,Plan.rows_mk,Plan.est_mk,Plan.cost_mk,List.cons.injEq,V.s.injEq,V.dat.injEq,Value.int.injEq,Value.bool.injEq,Value.string.injEq,heq_eq_eq,true_and,and_true,ci,cb,cs] at h
  simp only[Plan.mk.injEq]
  obtain⟨e0,e1,e2,e3,e4,e5,e6,e7,e8,e9,e10,e11,e12,e13,e14,e15,e16,e17,e18,e19,e20,e21,e22⟩:=h
  exact⟨e0,e1,e2,e3,e4,e5,e6,e7,e8,e9,e10,inj_bound (by simp only[B.enc,ci,cb,cs];simp only[e11,e12,e13]),inj_bound (by simp only[B.enc,ci,cb,cs];simp only[e14,e15,e16]),e17,e18,e19,e20,e21,e22⟩
theorem inj_span {x y:Span} (h:B.enc .span x=B.enc .span y) : x=y:=by
  cases x;cases y
  simp only[B.enc,List.cons.injEq,V.s.injEq,V.dat.injEq,Value.int.injEq,Value.bool.injEq,Value.string.injEq,heq_eq_eq,true_and,and_true,ci,cb,cs] at h
  simp only[Span.mk.injEq]
  obtain⟨e0,e1,e2,e3,e4,e5,e6,e7,e8⟩:=h
  exact⟨e0,inj_bound (by simp only[B.enc,ci,cb,cs];simp only[e1,e2,e3]),inj_bound (by simp only[B.enc,ci,cb,cs];simp only[e4,e5,e6]),e7,e8⟩
theorem inj_sign {x y:Sign} (h:B.enc .sign x=B.enc .sign y) : x=y:=by
  cases x;cases y
  simp only[B.enc,List.cons.injEq,V.s.injEq,V.dat.injEq,Value.int.injEq,Value.bool.injEq,Value.string.injEq,heq_eq_eq,true_and,and_true,ci,cu8,cb,cs] at h
  simp only[Sign.mk.injEq]
  exact h
theorem inj_bunch {x y:Bunch} (h:B.enc .bunch x=B.enc .bunch y) : x=y:=by
  cases x;cases y
  simp only[B.enc,List.cons.injEq,V.s.injEq,V.dat.injEq,Value.int.injEq,Value.bool.injEq,Value.string.injEq,heq_eq_eq,true_and,and_true,ci,cu8,cb,cs] at h
  simp only[Bunch.mk.injEq]
  exact h
theorem inj_wld {x y:Wld} (h:B.enc .wld x=B.enc .wld y) : x=y:=by
  cases x;cases y
  simp only[B.enc,List.cons.injEq,V.s.injEq,V.dat.injEq,Value.int.injEq,Value.bool.injEq,Value.string.injEq,heq_eq_eq,true_and,and_true,ci,cu8,cb,cs] at h
  simp only[Wld.mk.injEq]
  exact h
theorem enc_inj : ∀ {τ:Ty} {x y:Den τ},B.enc τ x=B.enc τ y→x=y:=by
  intro τ x y h
  cases τ with
  | int=>simp [B.enc,ci,cs] at h;exact h
  | str=>simp [B.enc,ci,cs] at h;exact h
  | row=>simp [B.enc,ci,cs] at h;exact h
  | ints=>simp [B.enc,ci,cs] at h;exact h
  | trms=>simp [B.enc,ci,cs] at h;exact h
  | colss=>simp [B.enc,ci,cs] at h;exact h
  | pair=>obtain⟨x1,x2⟩:=x;obtain⟨y1,y2⟩:=y;simp [B.enc,ci] at h;simp [h]
  | u8=>simp [B.enc,cu8] at h;exact h
  | bol=>simp [B.enc,cb] at h;exact h
  | val=>exact inj_val h
  | col=>exact inj_col h
  | by_=>exact inj_by_ h
  | bound=>exact inj_bound h
  | often=>exact inj_often h
  | colStat=>exact inj_colStat h
  | data=>exact inj_data h
  | acc=>exact inj_acc h
  | stat=>exact inj_stat h
  | column=>exact inj_column h
  | term=>exact inj_term h
  | agg=>exact inj_agg h
  | rel=>exact inj_rel h
  | plan=>exact inj_plan h
  | sign=>exact inj_sign h
  | bunch=>exact inj_bunch h
  | wld=>exact inj_wld h
  | span=>exact inj_span h
theorem sz_pos : ∀ τ,0<sz τ:=by intro τ;cases τ<;>decide
def byt : Ty→Nat
  | .int=>8
  | .str=>16
  | .row=>24
  | .ints=>24
  | .trms=>24
  | .colss=>24
  | .pair=>16
  | .u8=>1
  | .bol=>1
  | .sign=>16
  | .bunch=>48
  | .wld=>48
  | .val=>32
  | .col=>40
  | .by_=>16
  | .bound=>32
  | .often=>40
  | .colStat=>64
  | .data=>40
  | .acc=>104
  | .stat=>56
  | .column=>88
  | .term=>128
  | .agg=>48
  | .rel=>192
  | .plan=>360
  | .span=>120
def tl : Option (TI Un)→TI Un
  | some (.sl _ .pair _)=>.oth
  | some x=>x
  | none=>.oth
theorem tl_sl {x:TI Un} {e:TypeId} {τ:Ty} {b:Nat} (h:tl (some x)=.sl e τ b) : x=.sl e τ b∧τ≠.pair:=by
  cases x with
  | sl e' τ' b' =>
    cases τ'<;>simp [tl] at h<;>(obtain⟨rfl,rfl,rfl⟩:=h;exact⟨rfl,by simp⟩)
  | _=>simp [tl] at h
def tiL (t:TypeId) : TI Un:=tl (look t tab)
noncomputable def lay1 : TI Un→Bool
  | .sl _ .pair _=>true
  | .sl e τ b=>lay Tryz.prog tiL 8 e == some (fls τ) && Tryz.prog.cellsOf e == sz τ && Tryz.prog.bytesOf e == byt τ && b == byt τ
  | _=>true
theorem lay1_sl {e:TypeId} {τ:Ty} {b:Nat} (h:lay1 (.sl e τ b)=true) (hp:τ≠.pair)   : (lay Tryz.prog tiL 8 e=some (fls τ)∧Tryz.prog.cellsOf e=sz τ)∧Tryz.prog.bytesOf e=byt τ:=by
  cases τ<;>first | exact absurd rfl hp | (simp only[lay1,Bool.and_eq_true,beq_iff_eq] at h;exact h.1)
noncomputable def layB : Bool:=tab.all fun x=>lay1 x.2
theorem layB_true : layB=true:=by kernel_rfl
theorem layOf {t e:TypeId} {τ:Ty} {b:Nat} (h:tiL t=.sl e τ b) : (lay Tryz.prog tiL 8 e=some (fls τ)∧Tryz.prog.cellsOf e=sz τ)∧Tryz.prog.underlying t=some (.slice e):=by
  have hb:=layB_true
  unfold layB at hb
  rw[List.all_eq_true] at hb
  unfold tiL at h
  cases hl : look t tab with
  | none=>rw[hl] at h;simp [tl] at h
  | some x =>
    rw[hl] at h
    have hm:=hb _ (look_mem hl)
    obtain⟨rfl,hp⟩:=tl_sl h
    have ht:=(tabOK (fun _=>none) (fun _=>none) (fun _=>none) (fun _=>none) (fun _=>none)).ti t
    have hti:(mach (fun _=>none) (fun _=>none) (fun _=>none) (fun _=>none) (fun _=>none)).ti t=.sl e τ b:=by
      unfold Mc.ti mach;simp only[hl]
    rw[hti] at ht
    exact⟨(lay1_sl hm hp).1,ht.2.1⟩
theorem bytOf {t e:TypeId} {τ:Ty} {b:Nat} (h:tiL t=.sl e τ b) : Tryz.prog.bytesOf e=byt τ:=by
  have hb:=layB_true
  unfold layB at hb
  rw[List.all_eq_true] at hb
  unfold tiL at h
  cases hl : look t tab with
  | none=>rw[hl] at h;simp [tl] at h
  | some x =>
    rw[hl] at h
    have hm:=hb _ (look_mem hl)
    obtain⟨rfl,hp⟩:=tl_sl h
    exact (lay1_sl hm hp).2
section
variable {H:Type} {enc':TypeId×Value→H} {w:World} {spare:Nat→Bool} {held:Bool} {base:Nat} {r:Reach} {b0:Nat}
theorem trod_lawU {t:TypeId} {cs:List Value} {d:DataW H} {ps:List MemPlace} {k:Nat} {fl:List Fl} (h:∃ n,DataW.trod enc' Tryz.prog w 0 spare held n t cs=some (d,ps)) (hl:lay Tryz.prog tiL k t=some fl) :
    ∃ vs,All2 (VRel En (StA w) w) cs vs∧vs.map flOf=fl.map some∧((∀ q∈d.weights Tryz.prog t,q≤reachBytes)→∀ v∈vs,VB byt v)∧BKS vs (Rows.uptoBulk d - 1):=by
  obtain⟨n,h⟩:=h
  exact trod_data (fun t e τ b ht=>bytOf ht) (fun t e τ b ht=>⟨8,(layOf ht).1.1⟩) decTot sz_pos (fun t e τ b ht=>(layOf ht).1.2) n t cs _ k fl h hl
theorem arg_slU {t e:TypeId} {τ:Ty} {b:Nat} (ht:tiL t=.sl e τ b) {v:Value} {d:DataW H} {ps:List MemPlace} (hval:Value.okWide Tryz.prog w r b0 t v) (hd:DataW.Trod enc' Tryz.prog w 0 spare held t v d ps) :
    ∃ l : List (Den τ),DRel Tryz.prog En (StA w) w v (.d (.v (.dat (U:=Un) τ l)))∧((∀ q∈d.weights Tryz.prog t,q≤reachBytes)→VB byt (.dat (U:=Un) τ l))∧BKL τ l (Rows.uptoBulk d - 1):=by
  have hu:=(layOf ht).2
  obtain⟨a,len,cap,rfl⟩:=Go.WideShapes.okWide_slice hu hval
  obtain⟨vs,h1,h2,h4,h5⟩:=trod_lawU (k:=1) (fl:=[.sl τ]) hd (by simp only[lay,hu,ht,if_true])
  obtain⟨l,rs,rfl,h3⟩:=fl_sl h2
  refine⟨l,h1.1,fun hq=>h4 hq _ List.mem_cons_self,?_⟩
  cases h5 with
  | cons _ _ a c _ g1 g2 hn =>
    cases g1 with
    | dat _ _ _ g3=>exact g3.mono (by omega)
theorem arg_stU {t:TypeId} (τ:Ty) {fs:Array Field} (hu:Tryz.prog.underlying t=some (.struct fs)) (hl:lay Tryz.prog tiL 8 t=some (fls τ)) {v:Value} {d:DataW H} {ps:List MemPlace} (hval:Value.okWide Tryz.prog w r b0 t v) (hd:DataW.Trod enc' Tryz.prog w 0 spare held t v d ps) :
    ∃ x : Den τ,DRel Tryz.prog En (StA w) w v (.d (.agg (B.enc τ x)))∧((∀ q∈d.weights Tryz.prog t,q≤reachBytes)→∀ c∈B.enc τ x,VB byt c)∧BKS (B.enc τ x) (Rows.uptoBulk d - 1):=by
  obtain⟨cs,rfl,_⟩:=Go.WideShapes.okWide_struct hu hval
  obtain⟨vs,h1,h2,h4,h5⟩:=trod_lawU hd hl
  obtain⟨x,hx⟩:=decTot τ vs h2
  refine⟨x,?_⟩
  rw[enc_back τ vs x hx]
  exact⟨⟨cs,rfl,h1⟩,h4,h5⟩
end
def isSl (τ:Ty) : TI Un→Bool
  | .sl _ τ' _=>decide (τ'=τ)
  | _=>false
theorem tiL_sl {t:TypeId} {τ:Ty} (h:isSl τ (tiL t)=true) : tiL t=.sl (match tiL t with | .sl e _ _=>e | _=>0) τ (match tiL t with | .sl _ _ b=>b | _=>0):=by
  cases hx : tiL t with
  | sl e τ' b =>
    rw[hx] at h
    have : τ'=τ:=of_decide_eq_true h
    subst this;rfl
  | _=>rw[hx] at h;simp [isSl] at h
def isSt : Option TypeDesc→Bool
  | some (.struct _)=>true
  | _=>false
theorem und_st {t:TypeId} (h:isSt (Tryz.prog.underlying t)=true) : ∃ fs,Tryz.prog.underlying t=some (.struct fs):=by
  unfold isSt at h;split at h
  · rename_i hx;exact⟨_,hx⟩
  · simp at h
theorem dS_mk (τ:Ty) (x:Den τ) : dS τ (.d (.agg (B.enc τ x)))=some x:=by
  obtain⟨y,hy⟩:=decTot τ (B.enc τ x) (enc_fl τ x)
  show dec τ (B.enc τ x)=some x
  rw[hy]
  exact congrArg some (enc_inj (enc_back τ _ y hy))
theorem law_calls {f:FuncId} {F:FnC Un} (hok:FnOK f F) {args:List (D Un)} {ob:List Prop} (hF:F args=some (ob,[.c (.s (.bool true))],[])) (hob:∀ p∈ob,p) {w:World} {vs:List Value} (hrel:All2 (DRel Tryz.prog En (StA w) w) vs args) :
    Calls Tryz.prog f vs.toArray w fun e w'=>e=.returned (.bool true)∧Ext w w':=by
  refine ((hok args ob _ [] hF hob).1 w (StA w) vs (fun b o h=>h) hrel).mono ?_
  rintro e w' ⟨v,rfl,hx,g,-,-,-,hr,-⟩
  exact⟨by rw[show v=.bool true from hr.1],hx⟩
end Go.Proofs.YtolbngdhgcbmgaaGreat.B
namespace Go.Proofs.YtolbngdhgcbmgaaGreat.B
open Go Go.RowKit
set_option maxRecDepth 100000
noncomputable section
attribute [local irreducible] awp ctxK itersK iterK retQ retGQ awf ctxF loopF
def M_value_Num : Mc Un:=mach (tbl []) (tbl []) (tbl []) (tbl []) (tbl [])
def A_value_Num (r:Val) : List (A Un):=[.agg (encC Ty.val r)]
def O_value_Num (_r:Val) : List (Ob Un):=[]
def R_value_Num (r:Val) : RF Un:=(A_value_Num r,O_value_Num r)
def N_value_Num : Nat→NS:=fun l=>(look l []).getD ⟨[],[],[],[],[],false⟩
def value_Num_fn (n:Int) : Option (RF Un):=awf M_value_Num N_value_Num (bodyOf Tryz.f82) (entry Tryz.f82.ntmps 0 [.d (.v (.s (.int .i64 n)))]) (retF M_value_Num Tryz.f82.results.toList [.d])
theorem value_Num_in (n:Int) : value_Num_fn n=some (R_value_Num ({ kind:=(2:Int),n:=n,s:=(ByteArray.mk #[]) })):=by kernel_rfl
def value_Num (n:Int) : Val :=
  ({ kind:=(2:Int),n:=n,s:=(ByteArray.mk #[]) })
theorem value_Num_eq (n:Int) : value_Num_fn n=some (R_value_Num (value_Num n)):=by rw[value_Num_in];unfold value_Num;simp only[cndO_eq];repeat (first | rfl | split)
def F_value_Num : FnC Un:=fun args=>match args with
  | [x0]=>(dI .i64 x0).bind fun n=>some ([],A_value_Num (value_Num n),O_value_Num (value_Num n))
  | _=>none
theorem ok_value_Num : FnOK 82 F_value_Num:=by
  intro args ob rs os h hob
  unfold F_value_Num at h
  split at h
  · simp only[Option.bind_eq_some_iff,Option.some.injEq,Prod.mk.injEq] at h
    obtain⟨n,e0,rfl,rfl,rfl⟩:=h
    obtain rfl:=dI_eq e0
    exact⟨fn_contractF (M:=M_value_Num) rfl (tbl_ok (l1:=[]) (l2:=[]) (l3:=[]) (l4:=[]) (l5:=[]) trivial trivial trivial trivial trivial) Tryz.func82 (by kernel_rfl) N_value_Num 0 [.d] (fun hwf=>(value_Num_eq n)),hasBody_of Tryz.func82 (by kernel_rfl) (by kernel_rfl)⟩
  · simp at h
end
end Go.Proofs.YtolbngdhgcbmgaaGreat.B
namespace Go.Proofs.YtolbngdhgcbmgaaGreat.B
open Go Go.RowKit
set_option maxRecDepth 100000
noncomputable section
attribute [local irreducible] awp ctxK itersK iterK retQ retGQ awf ctxF loopF
def M_value_Bool : Mc Un:=mach (tbl []) (tbl []) (tbl []) (tbl []) (tbl [])
def A_value_Bool (r:Val) : List (A Un):=[.agg (encC Ty.val r)]
def O_value_Bool (_r:Val) : List (Ob Un):=[]
def R_value_Bool (r:Val) : RF Un:=(A_value_Bool r,O_value_Bool r)
def N_value_Bool : Nat→NS:=fun l=>(look l []).getD ⟨[],[],[],[],[],false⟩
def value_Bool_fn (b:Bool) : Option (RF Un):=awf M_value_Bool N_value_Bool (bodyOf Tryz.f161) (entry Tryz.f161.ntmps 0 [.d (.v (cb b))]) (retF M_value_Bool Tryz.f161.results.toList [.d])
theorem value_Bool_in (b:Bool) : value_Bool_fn b=cndO (b) (some (R_value_Bool ({ kind:=(1:Int),n:=(1:Int),s:=(ByteArray.mk #[]) }))) (some (R_value_Bool ({ kind:=(1:Int),n:=(0:Int),s:=(ByteArray.mk #[]) }))):=by kernel_rfl
def value_Bool (b:Bool) : Val :=
  if (b)=true then
   ({ kind:=(1:Int),n:=(1:Int),s:=(ByteArray.mk #[]) })
  else
   ({ kind:=(1:Int),n:=(0:Int),s:=(ByteArray.mk #[]) })
theorem value_Bool_eq (b:Bool) : value_Bool_fn b=some (R_value_Bool (value_Bool b)):=by rw[value_Bool_in];unfold value_Bool;simp only[cndO_eq];repeat (first | rfl | split)
def F_value_Bool : FnC Un:=fun args=>match args with
  | [x0]=>(dB x0).bind fun b=>some ([],A_value_Bool (value_Bool b),O_value_Bool (value_Bool b))
  | _=>none
theorem ok_value_Bool : FnOK 161 F_value_Bool:=by
  intro args ob rs os h hob
  unfold F_value_Bool at h
  split at h
  · simp only[Option.bind_eq_some_iff,Option.some.injEq,Prod.mk.injEq] at h
    obtain⟨b,e0,rfl,rfl,rfl⟩:=h
    obtain rfl:=dB_eq e0
    exact⟨fn_contractF (M:=M_value_Bool) rfl (tbl_ok (l1:=[]) (l2:=[]) (l3:=[]) (l4:=[]) (l5:=[]) trivial trivial trivial trivial trivial) Tryz.func161 (by kernel_rfl) N_value_Bool 0 [.d] (fun hwf=>(value_Bool_eq b)),hasBody_of Tryz.func161 (by kernel_rfl) (by kernel_rfl)⟩
  · simp at h
def boolV (b:Bool) : Val:=⟨1,if b=true then 1 else 0,⟨#[]⟩⟩
@[simp] theorem value_Bool_spec (b:Bool) : value_Bool b=boolV b:=by unfold value_Bool boolV;cases b<;>rfl
end
end Go.Proofs.YtolbngdhgcbmgaaGreat.B
