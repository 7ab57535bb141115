/- Part 21 of the proof: Sref21 Sref21i. -/
import Derived.Test.YtolbngdhgcbmgaaGreatPonce20
namespace Go.Proofs.YtolbngdhgcbmgaaGreat.B
open Go Go.RowKit
set_option maxRecDepth 100000
noncomputable section
attribute [local irreducible] awp ctxK itersK iterK retQ retGQ awf ctxF loopF
def inOK (depth:Int) (n:Nat) : Prop:=-2000000≤depth∧depth+n≤10000000∧n≤2000000
theorem foldl_snoc {α β:Type} (f:α→β) : ∀ (l:List α) (o:List β),l.foldl (fun o x=>o++[f x]) o=o++l.map f
  | [],o=>by simp
  | x::l,o=>by rw[List.foldl_cons,foldl_snoc f l];simp
def r21_Split (t:Term) : List Term:=splitT t
@[simp] theorem r21_Split_eq (t:Term) : r21_Split t=splitT t:=by unfold r21_Split;rfl
def A_r21_Split (r:List Term) : List (A Un):=[.c (.ob 0 0)]
def O_r21_Split (r:List Term) : List (Ob Un):=[⟨0,Ty.term,r,none,true⟩]
def Fm_r21_Split (m:Nat) : FnC Un:=fun args=>match args with
  | [x0]=>(dS .term x0).bind fun t=>some ([t.ht<m,t.sz≤2000000],A_r21_Split (r21_Split t),O_r21_Split (r21_Split t))
  | _=>none
def M_r21_Split (m:Nat) : Mc Un:=mach (tbl [(28,Fm_r21_Split m)]) (tbl []) (tbl []) (tbl []) (tbl [])
def R_r21_Split (r:List Term) : RF Un:=(A_r21_Split r,O_r21_Split r)
def N_r21_Split : Nat→NS:=fun l=>(look l []).getD ⟨[],[],[],[],[],false⟩
def r21_Split_fn (m:Nat) (t:Term) : Option (RF Un):=awf (M_r21_Split m) N_r21_Split (bodyOf Tryz.f28) (entry Tryz.f28.ntmps 0 [.d (.agg (enc Ty.term t))]) (retF (M_r21_Split m) Tryz.f28.results.toList [.o])
theorem r21_Split_in (m:Nat) (t:Term) : r21_Split_fn m t=cndO (t.op != 17) (some (R_r21_Split ([(Term.ids t)]))) (cndO ((↑t.kids.length:Int) != (2:Int)) (some (R_r21_Split ([(Term.ids t)]))) (obO ((0:Int)≤(0:Int)∧(0:Int)<(↑t.kids.length:Int)) (obO ((Term.ids (t.kids.getD 0 zeroTerm)).ht<m) (obO ((Term.ids (t.kids.getD 0 zeroTerm)).sz≤(2000000:Nat)) (obO ((0+(r21_Split (Term.ids (t.kids.getD 0 zeroTerm))).length)*(128:Nat)≤roomB) (obO ((0:Int)≤(1:Int)∧(1:Int)<(↑t.kids.length:Int)) (obO ((Term.ids (t.kids.getD 1 zeroTerm)).ht<m) (obO ((Term.ids (t.kids.getD 1 zeroTerm)).sz≤(2000000:Nat)) (obO (((r21_Split (Term.ids (t.kids.getD 0 zeroTerm))).length+(r21_Split (Term.ids (t.kids.getD 1 zeroTerm))).length)*(128:Nat)≤roomB) (some (R_r21_Split (r21_Split (Term.ids (t.kids.getD 0 zeroTerm))++r21_Split (Term.ids (t.kids.getD 1 zeroTerm)))))))))))))):=by kernel_rfl
theorem r21_Split_spec (m:Nat) (t:Term) (_ht:WS .term t) (hm:t.ht<m+1) (h:t.sz≤2000000) : r21_Split_fn m t=some (R_r21_Split (r21_Split t)):=by
  rw[r21_Split_in]
  simp only[r21_Split_eq,Term.ids_eq,cndO_eq]
  conv=>rhs;rw[splitT_eq]
  by_cases h1 : t.op=17
  · by_cases h2 : t.kids.length=2
    · obtain⟨a,b,hab⟩ : ∃ a b,t.kids=[a,b]:=by
        match hk : t.kids,h2 with
        | [a,b],_=>exact⟨a,b,rfl⟩
      have ha:a∈t.kids:=by rw[hab];simp
      have hb:b∈t.kids:=by rw[hab];simp
      have hta:=Term.ht_kid ha
      have htb:=Term.ht_kid hb
      have hsz:=t.sz_eq
      have hs:szTs t.kids=a.sz+b.sz:=by rw[hab];simp [szTs]
      have la:=splitT_len a
      have lb:=splitT_len b
      rw[if_neg (by simp [h1]),if_neg (by simp [h2]),if_pos ⟨h1,h2⟩,hab]
      have e0:[a,b].getD 0 zeroTerm=a:=rfl
      have e1:[a,b].getD 1 zeroTerm=b:=rfl
      rw[e0,e1,obO_pos (by simp),obO_pos (by omega),obO_pos (by omega),obO_pos (by unfold roomB;omega),obO_pos (by simp),obO_pos (by omega),obO_pos (by omega),obO_pos (by unfold roomB;omega)]
      simp [splitTs]
    · rw[if_neg (by simp [h1]),if_pos (by simp;omega),if_neg (fun e=>h2 e.2)]
  · rw[if_pos (by simpa using h1),if_neg (fun e=>h1 e.1)]
theorem okm_r21_Split (m:Nat) (h_r21_Split:FnOK 28 (Fm_r21_Split m)) : FnOK 28 (Fm_r21_Split (m+1)):=by
  intro args ob rs os h hob
  unfold Fm_r21_Split at h
  split at h
  · simp only[Option.bind_eq_some_iff,Option.some.injEq,Prod.mk.injEq] at h
    obtain⟨t,e0,rfl,rfl,rfl⟩:=h
    obtain rfl:=dS_eq e0
    exact⟨fn_contractF (M:=(M_r21_Split m)) rfl (tbl_ok (l1:=[(28,Fm_r21_Split m)]) (l2:=[]) (l3:=[]) (l4:=[]) (l5:=[]) ⟨h_r21_Split,trivial⟩ trivial trivial trivial trivial) Tryz.func28 (by kernel_rfl) N_r21_Split 0 [.o] (fun hwf=>(r21_Split_spec m t (wfArg hwf (a:=.d (.agg (enc Ty.term t))) (List.mem_of_getElem? (i:=0) rfl)) (hob _ (List.mem_of_getElem? (i:=0) rfl)) (hob _ (List.mem_of_getElem? (i:=1) rfl)))),hasBody_of Tryz.func28 (by kernel_rfl) (by kernel_rfl)⟩
  · simp at h
theorem okAll_r21SplitG : ∀ m,FnOK 28 (Fm_r21_Split m)
  | 0=>by
    skip
    intro args ob rs os h hob
    unfold Fm_r21_Split at h
    split at h
    · simp only[Option.bind_eq_some_iff,Option.some.injEq,Prod.mk.injEq] at h
      obtain⟨_,_,rfl,_,_⟩:=h
      exact absurd (hob _ (List.mem_of_getElem? (i:=0) rfl)) (Nat.not_lt_zero _)
    · simp at h
  | m+1=>by
    have ih:=okAll_r21SplitG m
    exact okm_r21_Split m ih
def F_r21_Split : FnC Un:=fun args=>match args with
  | [x0]=>(dS .term x0).bind fun t=>some ([t.sz≤2000000],A_r21_Split (r21_Split t),O_r21_Split (r21_Split t))
  | _=>none
theorem ok_r21_Split : FnOK 28 F_r21_Split:=by
  intro args ob rs os h hob
  unfold F_r21_Split at h
  split at h
  · simp only[Option.bind_eq_some_iff,Option.some.injEq,Prod.mk.injEq] at h
    obtain⟨t,e0,rfl,rfl,rfl⟩:=h
    refine ((okAll_r21SplitG (t.ht+1))) _ [t.ht<t.ht+1,t.sz≤2000000] _ _ (?_ : Fm_r21_Split (t.ht+1) _=some _) ?_
    · unfold Fm_r21_Split
      simp only[e0,Option.bind_some]
    · intro p hp
      simp only[List.mem_cons,List.not_mem_nil,or_false] at hp
      rcases hp with rfl | rfl
      · exact Nat.lt_succ_self _
      · exact hob _ (List.mem_of_getElem? (i:=0) rfl)
  · simp at h
def M_r03_Bool : Mc Un:=mach (tbl []) (tbl []) (tbl []) (tbl []) (tbl [])
def A_r03_Bool (r:Val) : List (A Un):=[.agg (encC Ty.val r)]
def O_r03_Bool (_r:Val) : List (Ob Un):=[]
def R_r03_Bool (r:Val) : RF Un:=(A_r03_Bool r,O_r03_Bool r)
def N_r03_Bool : Nat→NS:=fun l=>(look l []).getD ⟨[],[],[],[],[],false⟩
def r03_Bool_fn (b:Bool) : Option (RF Un):=awf M_r03_Bool N_r03_Bool (bodyOf Tryz.f135) (entry Tryz.f135.ntmps 0 [.d (.v (cb b))]) (retF M_r03_Bool Tryz.f135.results.toList [.d])
theorem r03_Bool_in (b:Bool) : r03_Bool_fn b=cndO (b) (some (R_r03_Bool ({ kind:=(1:Int),n:=(1:Int),s:=(ByteArray.mk #[]) }))) (some (R_r03_Bool ({ kind:=(1:Int),n:=(0:Int),s:=(ByteArray.mk #[]) }))):=by kernel_rfl
def r03_Bool (b:Bool) : Val :=
  if (b)=true then
   ({ kind:=(1:Int),n:=(1:Int),s:=(ByteArray.mk #[]) })
  else
   ({ kind:=(1:Int),n:=(0:Int),s:=(ByteArray.mk #[]) })
theorem r03_Bool_eq (b:Bool) : r03_Bool_fn b=some (R_r03_Bool (r03_Bool b)):=by rw[r03_Bool_in];unfold r03_Bool;simp only[cndO_eq];repeat (first | rfl | split)
def F_r03_Bool : FnC Un:=fun args=>match args with
  | [x0]=>(dB x0).bind fun b=>some ([],A_r03_Bool (r03_Bool b),O_r03_Bool (r03_Bool b))
  | _=>none
theorem ok_r03_Bool : FnOK 135 F_r03_Bool:=by
  intro args ob rs os h hob
  unfold F_r03_Bool at h
  split at h
  · simp only[Option.bind_eq_some_iff,Option.some.injEq,Prod.mk.injEq] at h
    obtain⟨b,e0,rfl,rfl,rfl⟩:=h
    obtain rfl:=dB_eq e0
    exact⟨fn_contractF (M:=M_r03_Bool) rfl (tbl_ok (l1:=[]) (l2:=[]) (l3:=[]) (l4:=[]) (l5:=[]) trivial trivial trivial trivial trivial) Tryz.func135 (by kernel_rfl) N_r03_Bool 0 [.d] (fun hwf=>(r03_Bool_eq b)),hasBody_of Tryz.func135 (by kernel_rfl) (by kernel_rfl)⟩
  · simp at h
@[simp] theorem r03_Bool_spec (b:Bool) : r03_Bool b=boolV b:=by unfold r03_Bool boolV;cases b<;>rfl
def M_r21_Join : Mc Un:=mach (tbl [(135,F_r03_Bool)]) (tbl []) (tbl []) (tbl []) (tbl [])
def A_r21_Join (r:Term) : List (A Un):=[.agg (encC Ty.term r)]
def O_r21_Join (_r:Term) : List (Ob Un):=[]
def R_r21_Join (r:Term) : RF Un:=(A_r21_Join r,O_r21_Join r)
def N_r21_Join : Nat→NS:=fun l=>(look l [(5,{ ts:=bl 27 29,bs:=bl 27 12,nm:=[],gb:=[2,3] })]).getD ⟨[],[],[],[],[],false⟩
def r21_Join_s5 (l:List Term) (b2:Term) (b3:Term) (v0:Int) : S Un:=(st 27 27 108 0 [(0,al .term l),(2,ax 2),(3,ax 3),(4,ai v0)] [(2,bg .term b2),(3,bg .term b3)] [])
def r21_Join_B5 : Code:=sub (bodyOf Tryz.f89) [1,1,1,0,1,2,2]
def r21_Join_L5 : S Un→Option (EX Un):=loopF (N_r21_Join 5) (fun s Q=>awf M_r21_Join N_r21_Join r21_Join_B5 s Q)
def r21_Join_C5 : Exit→S Un→Option (RF Un):=ctxF M_r21_Join N_r21_Join (bodyOf Tryz.f89) [1,1,1,0,1,2] (retF M_r21_Join Tryz.f89.results.toList [.d])
def r21_Join_fn (l:List Term) : Option (RF Un):=awf M_r21_Join N_r21_Join (bodyOf Tryz.f89) (entry Tryz.f89.ntmps 0 [.d (.v (.dat (U:=Un) Ty.term l))]) (retF M_r21_Join Tryz.f89.results.toList [.d])
theorem r21_Join_in (l:List Term) : r21_Join_fn l=cndO ((↑l.length:Int) == (0:Int)) (some (R_r21_Join (Term.mk (1:Int) { kind:=(1:Int),n:=(1:Int),s:=(r03_Bool true).s } (0:Int) (0:Int) (ByteArray.mk #[]) [] [] (1:Int)))) (obO ((0:Int)≤(0:Int)∧(0:Int)<(↑l.length:Int)) ((r21_Join_L5 (r21_Join_s5 l zeroTerm (l.getD 0 zeroTerm) (1:Int))).bind (thenX r21_Join_C5))):=by kernel_rfl
theorem r21_Join_l5 (l:List Term) (b2:Term) (b3:Term) (v0:Int) : r21_Join_L5 (r21_Join_s5 l b2 b3 v0)=cndO (decide (v0<(↑l.length:Int))) (obO (0≤v0∧v0<(↑l.length:Int)) (r21_Join_L5 (r21_Join_s5 l b2 (Term.mk (17:Int) zeroVal (0:Int) (0:Int) (ByteArray.mk #[]) [(Term.ids b3),(Term.ids (l.getD v0.toNat zeroTerm))] [] (1:Int)) (IntKind.i64.wrap (v0+1))))) (some (.exit 0,(r21_Join_s5 l b2 b3 v0))):=(loopF_eq (N_r21_Join 5) r21_Join_B5 _).trans (by kernel_rfl)
theorem r21_Join_a5_x0 (l:List Term) (b2:Term) (b3:Term) (v0:Int) : r21_Join_C5 (.exit 0) (r21_Join_s5 l b2 b3 v0)=some (R_r21_Join (b3)):=by kernel_rfl
def r21_Join (l:List Term) : Term:=joinT l
@[simp] theorem r21_Join_eq (l:List Term) : r21_Join l=joinT l:=by unfold r21_Join;rfl
theorem r21_Join_spec (l:List Term) (hl:WL .term l) : r21_Join_fn l=some (R_r21_Join (r21_Join l)):=by
  rw[r21_Join_in]
  unfold r21_Join
  cases l with
  | nil=>simp only[cndO_eq,joinT,r03_Bool_spec];rfl
  | cons x r =>
    have hlen:=hl.len
    have hg:(x::r).getD 0 zeroTerm=x:=rfl
    have key:∀ (r':List Term) (i:Nat) (b:Term),(x::r).drop i=r'→r21_Join_L5 (r21_Join_s5 (x::r) zeroTerm b i)=some (.exit 0,r21_Join_s5 (x::r) zeroTerm (r'.foldl and2 b) (((x::r).length:Nat):Int))∨(x::r).length<i:=by
      intro r'
      induction r' with
      | nil =>
        intro i b hr
        have : (x::r).length≤i:=by rw[← List.drop_eq_nil_iff];exact hr
        rcases Nat.lt_or_ge (x::r).length i with e | e
        · exact .inr e
        · left
          have e2:i=(x::r).length:=by omega
          rw[r21_Join_l5,cndO_eq,if_neg (by rw[decide_eq_true_eq];omega),e2]
          rfl
      | cons y r' ih =>
        intro i b hr
        obtain⟨a1,a2,a3,_⟩:=drop_cons hr
        left
        rw[r21_Join_l5,cndO_eq,if_pos (by rw[decide_eq_true_eq];omega),obO_pos (by omega),Int.toNat_natCast,a2,wrap_next a1 hlen,Term.ids_eq,Term.ids_eq]
        rcases ih (i+1) (and2 b y) a3 with e | e
        · exact e
        · omega
    have lp:r21_Join_L5 (r21_Join_s5 (x::r) zeroTerm x (1:Int))=some (.exit 0,r21_Join_s5 (x::r) zeroTerm (r.foldl and2 x) (((x::r).length:Nat):Int)):=by
      rcases key r 1 x rfl with e | e
      · exact e
      · rw[List.length_cons] at e;omega
    rw[cndO_eq,if_neg (by rw[List.length_cons,beq_iff_eq];omega),obO_pos (by rw[List.length_cons];omega),hg,loop_end lp,r21_Join_a5_x0]
    rfl
def F_r21_Join : FnC Un:=fun args=>match args with
  | [x0]=>(dL .term x0).bind fun l=>some ([],A_r21_Join (r21_Join l),O_r21_Join (r21_Join l))
  | _=>none
theorem ok_r21_Join : FnOK 89 F_r21_Join:=by
  intro args ob rs os h hob
  unfold F_r21_Join at h
  split at h
  · simp only[Option.bind_eq_some_iff,Option.some.injEq,Prod.mk.injEq] at h
    obtain⟨l,e0,rfl,rfl,rfl⟩:=h
    obtain rfl:=dL_eq e0
    exact⟨fn_contractF (M:=M_r21_Join) rfl (tbl_ok (l1:=[(135,F_r03_Bool)]) (l2:=[]) (l3:=[]) (l4:=[]) (l5:=[]) ⟨ok_r03_Bool,trivial⟩ trivial trivial trivial trivial) Tryz.func89 (by kernel_rfl) N_r21_Join 0 [.d] (fun hwf=>(r21_Join_spec l (wfArg hwf (a:=.d (.v (.dat (U:=Un) Ty.term l))) (List.mem_of_getElem? (i:=0) rfl)))),hasBody_of Tryz.func89 (by kernel_rfl) (by kernel_rfl)⟩
  · simp at h
def M_r21_Terms : Mc Un:=mach (tbl []) (tbl []) (tbl []) (tbl []) (tbl [])
def A_r21_Terms (r:List Term) : List (A Un):=[.c (.ob 0 0)]
def O_r21_Terms (r:List Term) : List (Ob Un):=[⟨0,Ty.term,r,none,true⟩]
def R_r21_Terms (r:List Term) : RF Un:=(A_r21_Terms r,O_r21_Terms r)
def N_r21_Terms : Nat→NS:=fun l=>(look l [(3,{ ts:=bl 25 26,bs:=bl 25 2,nm:=[(.sl 3,100)] })]).getD ⟨[],[],[],[],[],false⟩
def r21_Terms_s3 (r:Rel) (v0:Int) (v1:List Term) : S Un:=(st 25 25 101 0 [(1,ax 1),(3,ao 100),(4,ai v0)] [(1,bg .rel r)] [(100,some ⟨(0:Nat),Ty.term,v1,some (0:Nat),true⟩)])
def r21_Terms_B3 : Code:=sub (bodyOf Tryz.f179) [1,1,0,1,2,2]
def r21_Terms_L3 : S Un→Option (EX Un):=loopF (N_r21_Terms 3) (fun s Q=>awf M_r21_Terms N_r21_Terms r21_Terms_B3 s Q)
def r21_Terms_C3 : Exit→S Un→Option (RF Un):=ctxF M_r21_Terms N_r21_Terms (bodyOf Tryz.f179) [1,1,0,1,2] (retF M_r21_Terms Tryz.f179.results.toList [.o])
def r21_Terms_fn (r:Rel) : Option (RF Un):=awf M_r21_Terms N_r21_Terms (bodyOf Tryz.f179) (entry Tryz.f179.ntmps 1 [.d (.agg (enc Ty.rel r))]) (retF M_r21_Terms Tryz.f179.results.toList [.o])
theorem r21_Terms_in (r:Rel) : r21_Terms_fn r=obO ((0+r.terms.length)*(128:Nat)≤roomB) ((r21_Terms_L3 (r21_Terms_s3 r (0:Int) r.terms)).bind (thenX r21_Terms_C3)):=by kernel_rfl
theorem r21_Terms_l3 (r:Rel) (v0:Int) (v1:List Term) : r21_Terms_L3 (r21_Terms_s3 r v0 v1)=cndO (decide (v0<(↑r.aggs.length:Int))) (obO (0≤v0∧v0<(↑r.aggs.length:Int)) (obO ((v1.length+(Agg.t (r.aggs.getD v0.toNat zeroAgg)).length)*(128:Nat)≤roomB) (r21_Terms_L3 (r21_Terms_s3 r (IntKind.i64.wrap (v0+1)) (v1++Agg.t (r.aggs.getD v0.toNat zeroAgg)))))) (some (.exit 0,(r21_Terms_s3 r v0 v1))):=(loopF_eq (N_r21_Terms 3) r21_Terms_B3 _).trans (by kernel_rfl)
theorem r21_Terms_a3_x0 (r:Rel) (v0:Int) (v1:List Term) : r21_Terms_C3 (.exit 0) (r21_Terms_s3 r v0 v1)=some (R_r21_Terms (v1)):=by kernel_rfl
def aggTs : List Agg→List Term
  | []=>[]
  | a::r=>a.t++aggTs r
theorem aggTs_fold : ∀ (l:List Agg) (o:List Term),l.foldl (fun o x=>o++x.t) o=o++aggTs l
  | [],o=>by simp [aggTs]
  | x::l,o=>by rw[List.foldl_cons,aggTs_fold l];simp [aggTs]
theorem aggTs_sz : ∀ l : List Agg,szTs (aggTs l)≤szAs l
  | []=>by simp [aggTs,szTs]
  | x::l=>by have:=aggTs_sz l;have h:=x.sz_eq;simp only[aggTs,szAs,szTs_append];omega
theorem htTs_append : ∀ (a b:List Term),htTs (a++b)=max (htTs a) (htTs b)
  | [],b=>by simp [htTs]
  | x::a,b=>by simp only[List.cons_append,htTs,htTs_append a b];omega
theorem aggTs_ht : ∀ l : List Agg,htTs (aggTs l)≤htAs l
  | []=>by simp [aggTs,htTs]
  | x::l=>by
    have:=aggTs_ht l
    have hxh:htTs x.t<x.ht:=by cases x;simp only[Agg.ht,Agg.t_mk];omega
    simp only[aggTs,htAs,htTs_append];omega
def r21_Terms (r:Rel) : List Term:=r.terms++aggTs r.aggs
theorem r21_Terms_spec (r:Rel) (hr:WS .rel r) (h:r.sz≤2000000) : r21_Terms_fn r=some (R_r21_Terms (r21_Terms r)):=by
  have hsz:=r.sz_eq
  have htl:=szTs_len r.terms
  have lp:=(loop_fold (e:=.exit 0) (L:=r21_Terms_L3) (st:=fun o i=>r21_Terms_s3 r i o) (l:=r.aggs) (d:=zeroAgg) (g:=fun o x=>o++x.t) (fun i o=>o.length+szAs (r.aggs.drop i)≤2000000) (hr.rel_aggs).len
    (fun o i x hi hx hI=>by
      have hil:i<r.aggs.length:=by omega
      have hd:=drop_getD (d:=zeroAgg) hil
      have hI':o.length+szAs (r.aggs.drop i)≤2000000:=hI
      have hxs:=x.sz_eq
      have hxl:=szTs_len x.t
      rw[hd,hx] at hI'
      simp only[szAs] at hI'
      refine⟨by show (o++x.t).length+szAs (r.aggs.drop (i+1))≤2000000;rw[List.length_append];omega,?_⟩
      rw[r21_Terms_l3]
      simp only[cndO_eq,hi,decide_true,if_true,and_true,Int.toNat_natCast,hx]
      rw[obO_pos (by omega),obO_pos (by unfold roomB;omega)])
    (fun o _=>by rw[r21_Terms_l3];simp [cndO_eq]) r.terms (by show r.terms.length+szAs (r.aggs.drop 0)≤2000000;rw[List.drop_zero];omega)).1
  rw[aggTs_fold] at lp
  rw[r21_Terms_in,obO_pos (by unfold roomB;omega),loop_end lp,r21_Terms_a3_x0]
  rfl
def F_r21_Terms : FnC Un:=fun args=>match args with
  | [x0]=>(dS .rel x0).bind fun r=>some ([r.sz≤2000000],A_r21_Terms (r21_Terms r),O_r21_Terms (r21_Terms r))
  | _=>none
theorem ok_r21_Terms : FnOK 179 F_r21_Terms:=by
  intro args ob rs os h hob
  unfold F_r21_Terms at h
  split at h
  · simp only[Option.bind_eq_some_iff,Option.some.injEq,Prod.mk.injEq] at h
    obtain⟨r,e0,rfl,rfl,rfl⟩:=h
    obtain rfl:=dS_eq e0
    exact⟨fn_contractF (M:=M_r21_Terms) rfl (tbl_ok (l1:=[]) (l2:=[]) (l3:=[]) (l4:=[]) (l5:=[]) trivial trivial trivial trivial trivial) Tryz.func179 (by kernel_rfl) N_r21_Terms 1 [.o] (fun hwf=>(r21_Terms_spec r (wfArg hwf (a:=.d (.agg (enc Ty.rel r))) (List.mem_of_getElem? (i:=0) rfl)) (hob _ (List.mem_of_getElem? (i:=0) rfl)))),hasBody_of Tryz.func179 (by kernel_rfl) (by kernel_rfl)⟩
  · simp at h
end
end Go.Proofs.YtolbngdhgcbmgaaGreat.B
namespace Go.Proofs.YtolbngdhgcbmgaaGreat.B
open Go Go.RowKit
set_option maxRecDepth 100000
noncomputable section
attribute [local irreducible] awp ctxK itersK iterK retQ retGQ awf ctxF loopF
def r21_inRel (r:Rel) (depth:Int) : List Int:=inR depth r
def r21_in (t:Term) (depth:Int) : List Int:=inT depth t
theorem inTs_append (d:Int) : ∀ (a b:List Term),inTs d (a++b)=inTs d a++inTs d b
  | [],b=>by simp [inTs]
  | x::a,b=>by simp only[List.cons_append,inTs,inTs_append d a b,List.append_assoc]
theorem inTs_agg (d:Int) : ∀ l : List Agg,inTs d (aggTs l)=inAs d l
  | []=>rfl
  | x::l=>by simp only[aggTs,inAs,inTs_append,inTs_agg d l,inA_eq]
def A_r21_inRel (r:List Int) : List (A Un):=[.c (.ob 0 0)]
def O_r21_inRel (r:List Int) : List (Ob Un):=[⟨0,Ty.int,r,none,true⟩]
def Fm_r21_inRel (m:Nat) : FnC Un:=fun args=>match args with
  | [x0,x1]=>(dS .rel x0).bind fun r=>(dI .i64 x1).bind fun depth=>some ([r.ht<m,inOK depth r.sz],A_r21_inRel (r21_inRel r depth),O_r21_inRel (r21_inRel r depth))
  | _=>none
def A_r21_in (r:List Int) : List (A Un):=[.c (.ob 0 0)]
def O_r21_in (r:List Int) : List (Ob Un):=[⟨0,Ty.int,r,none,true⟩]
def Fm_r21_in (m:Nat) : FnC Un:=fun args=>match args with
  | [x0,x1]=>(dS .term x0).bind fun t=>(dI .i64 x1).bind fun depth=>some ([t.ht<m,inOK depth t.sz],A_r21_in (r21_in t depth),O_r21_in (r21_in t depth))
  | _=>none
def M_r21_inRel (m:Nat) : Mc Un:=mach (tbl [(179,F_r21_Terms),(137,Fm_r21_in m),(166,Fm_r21_inRel m)]) (tbl []) (tbl []) (tbl []) (tbl [])
def R_r21_inRel (r:List Int) : RF Un:=(A_r21_inRel r,O_r21_inRel r)
def N_r21_inRel : Nat→NS:=fun l=>(look l [(4,{ ts:=bl 43 230,bs:=bl 43 4,nm:=[(.sl 5,172),(.sl 6,173)] }),(8,{ ts:=bl 43 294,bs:=bl 43 4,nm:=[(.sl 5,174)] })]).getD ⟨[],[],[],[],[],false⟩
def r21_inRel_c1 (r:Rel):=r21_Terms (Rel.mk r.op r.table r.cols r.kids r.terms r.aggs r.keys r.limit r.skip r.all r.rows)
def r21_inRel_s4 (r:Rel) (depth:Int) (v0:Int) (v1:List Int) : S Un:=(st 43 43 175 0 [(1,ai depth),(2,ax 2),(5,ao 172),(6,ao 173),(7,ai v0)] [(2,bg .rel r)] [(172,some ⟨(0:Nat),Ty.int,v1,some (0:Nat),true⟩),(173,some ⟨(0:Nat),Ty.term,r21_Terms (Rel.ids r),none,true⟩)])
def r21_inRel_s8 (r:Rel) (depth:Int) (v1:List Int) (v2:Int) : S Un:=(st 43 43 175 0 [(1,ai depth),(2,ax 2),(5,ao 174),(8,ai v2)] [(2,bg .rel r)] [(174,some ⟨(0:Nat),Ty.int,v1,some (0:Nat),true⟩)])
def r21_inRel_B4 : Code:=sub (bodyOf Tryz.f166) [1,1,1,0,1,2,2]
def r21_inRel_L4 (m:Nat) : S Un→Option (EX Un):=loopF (N_r21_inRel 4) (fun s Q=>awf (M_r21_inRel m) N_r21_inRel r21_inRel_B4 s Q)
def r21_inRel_B8 : Code:=sub (bodyOf Tryz.f166) [1,1,1,1,0,1,2,2]
def r21_inRel_L8 (m:Nat) : S Un→Option (EX Un):=loopF (N_r21_inRel 8) (fun s Q=>awf (M_r21_inRel m) N_r21_inRel r21_inRel_B8 s Q)
def r21_inRel_C4 (m:Nat) : Exit→S Un→Option (RF Un):=ctxF (M_r21_inRel m) N_r21_inRel (bodyOf Tryz.f166) [1,1,1,0,1,2] (retF (M_r21_inRel m) Tryz.f166.results.toList [.o])
def r21_inRel_C8 (m:Nat) : Exit→S Un→Option (RF Un):=ctxF (M_r21_inRel m) N_r21_inRel (bodyOf Tryz.f166) [1,1,1,1,0,1,2] (retF (M_r21_inRel m) Tryz.f166.results.toList [.o])
def r21_inRel_fn (m:Nat) (r:Rel) (depth:Int) : Option (RF Un):=awf (M_r21_inRel m) N_r21_inRel (bodyOf Tryz.f166) (entry Tryz.f166.ntmps 3 [.d (.agg (enc Ty.rel r)),.d (.v (.s (.int .i64 depth)))]) (retF (M_r21_inRel m) Tryz.f166.results.toList [.o])
theorem r21_inRel_in (m:Nat) (r:Rel) (depth:Int) : r21_inRel_fn m r depth=obO ((Rel.ids r).sz≤(2000000:Nat)) ((r21_inRel_L4 m (r21_inRel_s4 r depth (0:Int) ([]))).bind (thenX (r21_inRel_C4 m))):=by kernel_rfl
theorem r21_inRel_l4 (m:Nat) (r:Rel) (depth:Int) (v0:Int) (v1:List Int) : r21_inRel_L4 m (r21_inRel_s4 r depth v0 v1)=cndO (decide (v0<(↑(r21_inRel_c1 r).length:Int))) (obO (0≤v0∧v0<(↑(r21_inRel_c1 r).length:Int)) (obO ((Term.ids ((r21_inRel_c1 r).getD v0.toNat zeroTerm)).ht<m) (obO (inOK depth (Term.ids ((r21_inRel_c1 r).getD v0.toNat zeroTerm)).sz) (obO ((v1.length+(r21_in (Term.ids ((r21_inRel_c1 r).getD v0.toNat zeroTerm)) depth).length)*(8:Nat)≤roomB) (r21_inRel_L4 m (r21_inRel_s4 r depth (IntKind.i64.wrap (v0+1)) (v1++r21_in (Term.ids ((r21_inRel_c1 r).getD v0.toNat zeroTerm)) depth))))))) (some (.exit 0,(r21_inRel_s4 r depth v0 v1))):=(loopF_eq (N_r21_inRel 4) r21_inRel_B4 _).trans (by kernel_rfl)
theorem r21_inRel_a4_x0 (m:Nat) (r:Rel) (depth:Int) (v0:Int) (v1:List Int) : r21_inRel_C4 m (.exit 0) (r21_inRel_s4 r depth v0 v1)=(r21_inRel_L8 m (r21_inRel_s8 r depth v1 (0:Int))).bind (thenX (r21_inRel_C8 m)):=by kernel_rfl
theorem r21_inRel_l8 (m:Nat) (r:Rel) (depth:Int) (v1:List Int) (v2:Int) : r21_inRel_L8 m (r21_inRel_s8 r depth v1 v2)=cndO (decide (v2<(↑r.kids.length:Int))) (obO (0≤v2∧v2<(↑r.kids.length:Int)) (obO ((Rel.ids (r.kids.getD v2.toNat zeroRel)).ht<m) (obO (inOK depth (Rel.ids (r.kids.getD v2.toNat zeroRel)).sz) (obO ((v1.length+(r21_inRel (Rel.ids (r.kids.getD v2.toNat zeroRel)) depth).length)*(8:Nat)≤roomB) (r21_inRel_L8 m (r21_inRel_s8 r depth (v1++r21_inRel (Rel.ids (r.kids.getD v2.toNat zeroRel)) depth) (IntKind.i64.wrap (v2+1)))))))) (some (.exit 2,(r21_inRel_s8 r depth v1 v2))):=(loopF_eq (N_r21_inRel 8) r21_inRel_B8 _).trans (by kernel_rfl)
theorem r21_inRel_a8_x2 (m:Nat) (r:Rel) (depth:Int) (v1:List Int) (v2:Int) : r21_inRel_C8 m (.exit 2) (r21_inRel_s8 r depth v1 v2)=some (R_r21_inRel (v1)):=by kernel_rfl
theorem r21_inRel_spec (m:Nat) (r:Rel) (depth:Int) (hr:WS .rel r) (_hd:WI depth) (hm:r.ht<m+1) (h:inOK depth r.sz) : r21_inRel_fn m r depth=some (R_r21_inRel (r21_inRel r depth)):=by
  obtain⟨h1,h2,h3⟩:=h
  have hsz:=r.sz_eq
  have hk:htTs r.terms<r.ht∧htAs r.aggs<r.ht∧htRs r.kids<r.ht:=by cases r;simp only[Rel.ht,Rel.kids_mk,Rel.terms_mk,Rel.aggs_mk];omega
  have hTs:szTs (r21_Terms r)≤szTs r.terms+szAs r.aggs:=by unfold r21_Terms;rw[szTs_append];have:=aggTs_sz r.aggs;omega
  have hTh:htTs (r21_Terms r)<r.ht:=by unfold r21_Terms;rw[htTs_append];have:=aggTs_ht r.aggs;omega
  have hTl:=szTs_len (r21_Terms r)
  have htl:=inTs_len depth (r21_Terms r)
  have l4:=(loop_fold (e:=.exit 0) (L:=r21_inRel_L4 m) (st:=fun o i=>r21_inRel_s4 r depth i o) (l:=r21_Terms r) (d:=zeroTerm) (g:=fun o x=>o++inT depth x) (fun i o=>o.length+szTs ((r21_Terms r).drop i)≤2000000) (by omega)
    (fun o i x hi hx hI=>by
      have hil:i<(r21_Terms r).length:=by omega
      have hd:=drop_getD (d:=zeroTerm) hil
      have hI':o.length+szTs ((r21_Terms r).drop i)≤2000000:=hI
      have hmem:x∈r21_Terms r:=by rw[← hx];exact getD_mem hil
      have hsz:=szTs_mem hmem
      have hht:=htTs_mem hmem
      have hlen:=inT_len depth x
      rw[hd,hx] at hI'
      simp only[szTs] at hI'
      refine⟨by show (o++inT depth x).length+szTs ((r21_Terms r).drop (i+1))≤2000000;rw[List.length_append];omega,?_⟩
      rw[r21_inRel_l4]
      simp only[r21_inRel_c1,rel_eta,Term.ids_eq,cndO_eq,hi,decide_true,if_true,and_true,Int.toNat_natCast,hx,r21_in]
      rw[obO_pos (by omega),obO_pos (by omega),obO_pos (show inOK _ _ from ⟨h1,by omega,by omega⟩),obO_pos (by unfold roomB;omega)])
    (fun o _=>by rw[r21_inRel_l4];simp [cndO_eq,r21_inRel_c1,rel_eta]) [] (by show 0+szTs ((r21_Terms r).drop 0)≤2000000;rw[List.drop_zero];omega)).1
  rw[inTs_fold,List.nil_append] at l4
  have l8:=(loop_fold (e:=.exit 2) (L:=r21_inRel_L8 m) (st:=fun o i=>r21_inRel_s8 r depth o i) (l:=r.kids) (d:=zeroRel) (g:=fun o x=>o++inR depth x) (fun i o=>o.length+szRs (r.kids.drop i)≤2000000) (hr.rel_kids).len
    (fun o i x hi hx hI=>by
      have hil:i<r.kids.length:=by omega
      have hd:=drop_getD (d:=zeroRel) hil
      have hI':o.length+szRs (r.kids.drop i)≤2000000:=hI
      have hmem:x∈r.kids:=by rw[← hx];exact getD_mem hil
      have hsz:=szRs_mem hmem
      have hht:=htRs_mem hmem
      have hlen:=inR_len depth x
      rw[hd,hx] at hI'
      simp only[szRs] at hI'
      refine⟨by show (o++inR depth x).length+szRs (r.kids.drop (i+1))≤2000000;rw[List.length_append];omega,?_⟩
      rw[r21_inRel_l8]
      simp only[Rel.ids_eq,cndO_eq,hi,decide_true,if_true,and_true,Int.toNat_natCast,hx,r21_inRel]
      rw[obO_pos (by omega),obO_pos (by omega),obO_pos (show inOK _ _ from ⟨h1,by omega,by omega⟩),obO_pos (by unfold roomB;omega)])
    (fun o _=>by rw[r21_inRel_l8];simp [cndO_eq]) (inTs depth (r21_Terms r)) (by show (inTs depth (r21_Terms r)).length+szRs (r.kids.drop 0)≤2000000;rw[List.drop_zero];omega)).1
  rw[inRs_fold] at l8
  rw[r21_inRel_in,Rel.ids_eq,obO_pos (by omega),loop_end l4,r21_inRel_a4_x0,loop_end l8,r21_inRel_a8_x2]
  unfold r21_inRel
  rw[inR_eq,r21_Terms,inTs_append,inTs_agg]
theorem okm_r21_inRel (m:Nat) (h_r21_inRel:FnOK 166 (Fm_r21_inRel m)) (h_r21_in:FnOK 137 (Fm_r21_in m)) : FnOK 166 (Fm_r21_inRel (m+1)):=by
  intro args ob rs os h hob
  unfold Fm_r21_inRel at h
  split at h
  · simp only[Option.bind_eq_some_iff,Option.some.injEq,Prod.mk.injEq] at h
    obtain⟨r,e0,depth,e1,rfl,rfl,rfl⟩:=h
    obtain rfl:=dS_eq e0
    obtain rfl:=dI_eq e1
    exact⟨fn_contractF (M:=(M_r21_inRel m)) rfl (tbl_ok (l1:=[(179,F_r21_Terms),(137,Fm_r21_in m),(166,Fm_r21_inRel m)]) (l2:=[]) (l3:=[]) (l4:=[]) (l5:=[]) ⟨ok_r21_Terms,h_r21_in,h_r21_inRel,trivial⟩ trivial trivial trivial trivial) Tryz.func166 (by kernel_rfl) N_r21_inRel 3 [.o] (fun hwf=>(r21_inRel_spec m r depth (wfArg hwf (a:=.d (.agg (enc Ty.rel r))) (List.mem_of_getElem? (i:=0) rfl)) (wfArg hwf (a:=.d (.v (.s (.int .i64 depth)))) (List.mem_of_getElem? (i:=1) rfl)) (hob _ (List.mem_of_getElem? (i:=0) rfl)) (hob _ (List.mem_of_getElem? (i:=1) rfl)))),hasBody_of Tryz.func166 (by kernel_rfl) (by kernel_rfl)⟩
  · simp at h
def M_r21_in (m:Nat) : Mc Un:=mach (tbl [(137,Fm_r21_in m),(166,Fm_r21_inRel m)]) (tbl []) (tbl []) (tbl []) (tbl [])
def R_r21_in (r:List Int) : RF Un:=(A_r21_in r,O_r21_in r)
def N_r21_in : Nat→NS:=fun l=>(look l [(5,{ ts:=bl 57 102,bs:=bl 57 4,nm:=[(.sl 5,228)] }),(9,{ ts:=bl 57 166,bs:=bl 57 4,nm:=[(.sl 5,229)] })]).getD ⟨[],[],[],[],[],false⟩
def r21_in_s5 (t:Term) (depth:Int) (v0:List Int) (v1:Int) : S Un:=(st 57 57 230 0 [(1,ai depth),(2,ax 2),(5,ao 228),(6,ai v1)] [(2,bg .term t)] [(228,some ⟨(0:Nat),Ty.int,v0,some (0:Nat),true⟩)])
def r21_in_s9 (t:Term) (depth:Int) (v0:List Int) (v2:Int) : S Un:=(st 57 57 230 0 [(1,ai depth),(2,ax 2),(5,ao 229),(7,ai v2)] [(2,bg .term t)] [(229,some ⟨(0:Nat),Ty.int,v0,some (0:Nat),true⟩)])
def r21_in_B5 : Code:=sub (bodyOf Tryz.f137) [1,1,1,0,1,2,2]
def r21_in_L5 (m:Nat) : S Un→Option (EX Un):=loopF (N_r21_in 5) (fun s Q=>awf (M_r21_in m) N_r21_in r21_in_B5 s Q)
def r21_in_B9 : Code:=sub (bodyOf Tryz.f137) [1,1,1,1,0,1,2,2]
def r21_in_L9 (m:Nat) : S Un→Option (EX Un):=loopF (N_r21_in 9) (fun s Q=>awf (M_r21_in m) N_r21_in r21_in_B9 s Q)
def r21_in_C5 (m:Nat) : Exit→S Un→Option (RF Un):=ctxF (M_r21_in m) N_r21_in (bodyOf Tryz.f137) [1,1,1,0,1,2] (retF (M_r21_in m) Tryz.f137.results.toList [.o])
def r21_in_C9 (m:Nat) : Exit→S Un→Option (RF Un):=ctxF (M_r21_in m) N_r21_in (bodyOf Tryz.f137) [1,1,1,1,0,1,2] (retF (M_r21_in m) Tryz.f137.results.toList [.o])
def r21_in_fn (m:Nat) (t:Term) (depth:Int) : Option (RF Un):=awf (M_r21_in m) N_r21_in (bodyOf Tryz.f137) (entry Tryz.f137.ntmps 2 [.d (.agg (enc Ty.term t)),.d (.v (.s (.int .i64 depth)))]) (retF (M_r21_in m) Tryz.f137.results.toList [.o])
theorem r21_in_in (m:Nat) (t:Term) (depth:Int) : r21_in_fn m t depth=cndO (t.op == 2) (cndO (t.depth == depth) (obO ((0+[t.at_].length)*(8:Nat)≤roomB) ((r21_in_L5 m (r21_in_s5 t depth ([t.at_]) (0:Int))).bind (thenX (r21_in_C5 m)))) ((r21_in_L5 m (r21_in_s5 t depth ([]) (0:Int))).bind (thenX (r21_in_C5 m)))) ((r21_in_L5 m (r21_in_s5 t depth ([]) (0:Int))).bind (thenX (r21_in_C5 m))):=by kernel_rfl
theorem r21_in_l5 (m:Nat) (t:Term) (depth:Int) (v0:List Int) (v1:Int) : r21_in_L5 m (r21_in_s5 t depth v0 v1)=cndO (decide (v1<(↑t.kids.length:Int))) (obO (0≤v1∧v1<(↑t.kids.length:Int)) (obO ((Term.ids (t.kids.getD v1.toNat zeroTerm)).ht<m) (obO (inOK depth (Term.ids (t.kids.getD v1.toNat zeroTerm)).sz) (obO ((v0.length+(r21_in (Term.ids (t.kids.getD v1.toNat zeroTerm)) depth).length)*(8:Nat)≤roomB) (r21_in_L5 m (r21_in_s5 t depth (v0++r21_in (Term.ids (t.kids.getD v1.toNat zeroTerm)) depth) (IntKind.i64.wrap (v1+1)))))))) (some (.exit 0,(r21_in_s5 t depth v0 v1))):=(loopF_eq (N_r21_in 5) r21_in_B5 _).trans (by kernel_rfl)
theorem r21_in_a5_x0 (m:Nat) (t:Term) (depth:Int) (v0:List Int) (v1:Int) : r21_in_C5 m (.exit 0) (r21_in_s5 t depth v0 v1)=(r21_in_L9 m (r21_in_s9 t depth v0 (0:Int))).bind (thenX (r21_in_C9 m)):=by kernel_rfl
theorem r21_in_l9 (m:Nat) (t:Term) (depth:Int) (v0:List Int) (v2:Int) : r21_in_L9 m (r21_in_s9 t depth v0 v2)=cndO (decide (v2<(↑t.sub.length:Int))) (obO (0≤v2∧v2<(↑t.sub.length:Int)) (obO ((Rel.ids (t.sub.getD v2.toNat zeroRel)).ht<m) (obO (inOK (IntKind.i64.wrap (depth+1)) (Rel.ids (t.sub.getD v2.toNat zeroRel)).sz) (obO ((v0.length+(r21_inRel (Rel.ids (t.sub.getD v2.toNat zeroRel)) (IntKind.i64.wrap (depth+1))).length)*(8:Nat)≤roomB) (r21_in_L9 m (r21_in_s9 t depth (v0++r21_inRel (Rel.ids (t.sub.getD v2.toNat zeroRel)) (IntKind.i64.wrap (depth+1))) (IntKind.i64.wrap (v2+1)))))))) (some (.exit 2,(r21_in_s9 t depth v0 v2))):=(loopF_eq (N_r21_in 9) r21_in_B9 _).trans (by kernel_rfl)
theorem r21_in_a9_x2 (m:Nat) (t:Term) (depth:Int) (v0:List Int) (v2:Int) : r21_in_C9 m (.exit 2) (r21_in_s9 t depth v0 v2)=some (R_r21_in (v0)):=by kernel_rfl
theorem r21_in_spec (m:Nat) (t:Term) (depth:Int) (ht:WS .term t) (_hd:WI depth) (hm:t.ht<m+1) (h:inOK depth t.sz) : r21_in_fn m t depth=some (R_r21_in (r21_in t depth)):=by
  obtain⟨h1,h2,h3⟩:=h
  have hsz:=t.sz_eq
  have hk:htTs t.kids<t.ht∧htRs t.sub<t.ht:=by cases t;simp only[Term.ht,Term.kids_mk,Term.sub_mk];omega
  have hkl:=inTs_len depth t.kids
  have hsl:=szRs_len t.sub
  have hw:IntKind.i64.wrap (depth+1)=depth+1:=wrap_id (by omega)
  have key:∀ o0 : List Int,o0.length≤1→(r21_in_L5 m (r21_in_s5 t depth o0 (0:Int))).bind (thenX (r21_in_C5 m))=some (R_r21_in (o0++inTs depth t.kids++inRs (depth+1) t.sub)):=by
    intro o0 ho
    have l5:=(loop_fold (e:=.exit 0) (L:=r21_in_L5 m) (st:=fun o i=>r21_in_s5 t depth o i) (l:=t.kids) (d:=zeroTerm) (g:=fun o x=>o++inT depth x) (fun i o=>o.length+szTs (t.kids.drop i)≤2000000) (ht.term_kids).len
      (fun o i x hi hx hI=>by
        have hil:i<t.kids.length:=by omega
        have hd:=drop_getD (d:=zeroTerm) hil
        have hI':o.length+szTs (t.kids.drop i)≤2000000:=hI
        have hmem:x∈t.kids:=by rw[← hx];exact getD_mem hil
        have hsz:=szTs_mem hmem
        have hht:=htTs_mem hmem
        have hlen:=inT_len depth x
        rw[hd,hx] at hI'
        simp only[szTs] at hI'
        refine⟨by show (o++inT depth x).length+szTs (t.kids.drop (i+1))≤2000000;rw[List.length_append];omega,?_⟩
        rw[r21_in_l5]
        simp only[Term.ids_eq,cndO_eq,hi,decide_true,if_true,and_true,Int.toNat_natCast,hx,r21_in]
        rw[obO_pos (by omega),obO_pos (by omega),obO_pos (show inOK _ _ from ⟨h1,by omega,by omega⟩),obO_pos (by unfold roomB;omega)])
      (fun o _=>by rw[r21_in_l5];simp [cndO_eq]) o0 (by show o0.length+szTs (t.kids.drop 0)≤2000000;rw[List.drop_zero];omega)).1
    rw[inTs_fold] at l5
    have l9:=(loop_fold (e:=.exit 2) (L:=r21_in_L9 m) (st:=fun o i=>r21_in_s9 t depth o i) (l:=t.sub) (d:=zeroRel) (g:=fun o x=>o++inR (depth+1) x) (fun i o=>o.length+szRs (t.sub.drop i)≤2000000) (by omega)
      (fun o i x hi hx hI=>by
        have hil:i<t.sub.length:=by omega
        have hd:=drop_getD (d:=zeroRel) hil
        have hI':o.length+szRs (t.sub.drop i)≤2000000:=hI
        have hmem:x∈t.sub:=by rw[← hx];exact getD_mem hil
        have hsz:=szRs_mem hmem
        have hht:=htRs_mem hmem
        have hlen:=inR_len (depth+1) x
        rw[hd,hx] at hI'
        simp only[szRs] at hI'
        refine⟨by show (o++inR (depth+1) x).length+szRs (t.sub.drop (i+1))≤2000000;rw[List.length_append];omega,?_⟩
        rw[r21_in_l9]
        simp only[Rel.ids_eq,cndO_eq,hi,decide_true,if_true,and_true,Int.toNat_natCast,hx,r21_inRel,hw]
        rw[obO_pos (by omega),obO_pos (by omega),obO_pos (show inOK _ _ from ⟨by omega,by omega,by omega⟩),obO_pos (by unfold roomB;omega)])
      (fun o _=>by rw[r21_in_l9];simp [cndO_eq]) (o0++inTs depth t.kids) (by show (o0++inTs depth t.kids).length+szRs (t.sub.drop 0)≤2000000;rw[List.drop_zero,List.length_append];omega)).1
    rw[inRs_fold] at l9
    rw[loop_end l5,r21_in_a5_x0,loop_end l9,r21_in_a9_x2]
  rw[r21_in_in]
  simp only[cndO_eq,beq_iff_eq]
  unfold r21_in
  rw[inT_eq]
  by_cases e1 : t.op=2
  · by_cases e2 : t.depth=depth
    · rw[if_pos e1,if_pos e2,if_pos (show t.op=2∧t.depth=depth from ⟨e1,e2⟩),obO_pos (by unfold roomB;simp),key _ (by simp)]
    · rw[if_pos e1,if_neg e2,if_neg (fun e=>e2 e.2),key _ (by simp)]
  · rw[if_neg e1,if_neg (fun e=>e1 e.1),key _ (by simp)]
theorem okm_r21_in (m:Nat) (h_r21_inRel:FnOK 166 (Fm_r21_inRel m)) (h_r21_in:FnOK 137 (Fm_r21_in m)) : FnOK 137 (Fm_r21_in (m+1)):=by
  intro args ob rs os h hob
  unfold Fm_r21_in at h
  split at h
  · simp only[Option.bind_eq_some_iff,Option.some.injEq,Prod.mk.injEq] at h
    obtain⟨t,e0,depth,e1,rfl,rfl,rfl⟩:=h
    obtain rfl:=dS_eq e0
    obtain rfl:=dI_eq e1
    exact⟨fn_contractF (M:=(M_r21_in m)) rfl (tbl_ok (l1:=[(137,Fm_r21_in m),(166,Fm_r21_inRel m)]) (l2:=[]) (l3:=[]) (l4:=[]) (l5:=[]) ⟨h_r21_in,h_r21_inRel,trivial⟩ trivial trivial trivial trivial) Tryz.func137 (by kernel_rfl) N_r21_in 2 [.o] (fun hwf=>(r21_in_spec m t depth (wfArg hwf (a:=.d (.agg (enc Ty.term t))) (List.mem_of_getElem? (i:=0) rfl)) (wfArg hwf (a:=.d (.v (.s (.int .i64 depth)))) (List.mem_of_getElem? (i:=1) rfl)) (hob _ (List.mem_of_getElem? (i:=0) rfl)) (hob _ (List.mem_of_getElem? (i:=1) rfl)))),hasBody_of Tryz.func137 (by kernel_rfl) (by kernel_rfl)⟩
  · simp at h
theorem okAll_r21inG : ∀ m,FnOK 166 (Fm_r21_inRel m)∧FnOK 137 (Fm_r21_in m)
  | 0=>by
    refine⟨?_,?_⟩
    · intro args ob rs os h hob
      unfold Fm_r21_inRel at h
      split at h
      · simp only[Option.bind_eq_some_iff,Option.some.injEq,Prod.mk.injEq] at h
        obtain⟨_,_,_,_,rfl,_,_⟩:=h
        exact absurd (hob _ (List.mem_of_getElem? (i:=0) rfl)) (Nat.not_lt_zero _)
      · simp at h
    · intro args ob rs os h hob
      unfold Fm_r21_in at h
      split at h
      · simp only[Option.bind_eq_some_iff,Option.some.injEq,Prod.mk.injEq] at h
        obtain⟨_,_,_,_,rfl,_,_⟩:=h
        exact absurd (hob _ (List.mem_of_getElem? (i:=0) rfl)) (Nat.not_lt_zero _)
      · simp at h
  | m+1=>by
    have ih:=okAll_r21inG m
    exact⟨okm_r21_inRel m ih.1 ih.2,okm_r21_in m ih.1 ih.2⟩
def F_r21_in : FnC Un:=fun args=>match args with
  | [x0,x1]=>(dS .term x0).bind fun t=>(dI .i64 x1).bind fun depth=>some ([inOK depth t.sz],A_r21_in (r21_in t depth),O_r21_in (r21_in t depth))
  | _=>none
theorem ok_r21_in : FnOK 137 F_r21_in:=by
  intro args ob rs os h hob
  unfold F_r21_in at h
  split at h
  · simp only[Option.bind_eq_some_iff,Option.some.injEq,Prod.mk.injEq] at h
    obtain⟨t,e0,depth,e1,rfl,rfl,rfl⟩:=h
    refine ((okAll_r21inG (t.ht+1)).2) _ [t.ht<t.ht+1,inOK depth t.sz] _ _ (?_ : Fm_r21_in (t.ht+1) _=some _) ?_
    · unfold Fm_r21_in
      simp only[e0,e1,Option.bind_some]
    · intro p hp
      simp only[List.mem_cons,List.not_mem_nil,or_false] at hp
      rcases hp with rfl | rfl
      · exact Nat.lt_succ_self _
      · exact hob _ (List.mem_of_getElem? (i:=0) rfl)
  · simp at h
def M_r21_Uses : Mc Un:=mach (tbl [(137,F_r21_in)]) (tbl []) (tbl []) (tbl []) (tbl [])
def A_r21_Uses (r:List Int) : List (A Un):=[.c (.ob 0 0)]
def O_r21_Uses (r:List Int) : List (Ob Un):=[⟨0,Ty.int,r,none,true⟩]
def R_r21_Uses (r:List Int) : RF Un:=(A_r21_Uses r,O_r21_Uses r)
def N_r21_Uses : Nat→NS:=fun l=>(look l [(4,{ ts:=bl 70 224,bs:=bl 70 0,nm:=[(.sl 5,280),(.sl 6,281)] }),(7,{ ts:=bl 70 480,bs:=bl 70 0,nm:=[(.sl 5,282),(.sl 6,283)] })]).getD ⟨[],[],[],[],[],false⟩
def r21_Uses_s4 (t:Term) (depth:Int) (v0:Int) (v1:List Int) : S Un:=(st 70 70 284 0 [(5,ao 280),(6,ao 281),(7,ai v0)] [] [(280,some ⟨(0:Nat),Ty.int,r21_in (Term.ids t) depth,none,true⟩),(281,some ⟨(0:Nat),Ty.int,v1,some (0:Nat),true⟩)])
def r21_Uses_s7 (t:Term) (depth:Int) (v0:Int) (v1:List Int) (v2:Int) : S Un:=(st 70 70 284 0 [(5,ao 282),(6,ao 283),(7,ai v0),(8,ai v2)] [] [(282,some ⟨(0:Nat),Ty.int,r21_in (Term.ids t) depth,none,true⟩),(283,some ⟨(0:Nat),Ty.int,v1,some (0:Nat),true⟩)])
def r21_Uses_B4 : Code:=sub (bodyOf Tryz.f93) [1,1,1,0,1,2,2]
def r21_Uses_L4 : S Un→Option (EX Un):=loopF (N_r21_Uses 4) (fun s Q=>awf M_r21_Uses N_r21_Uses r21_Uses_B4 s Q)
def r21_Uses_B7 : Code:=sub (sub (bodyOf Tryz.f93) [1,1,1,0,1,2,2]) [1,0,2,1,0,2,2]
def r21_Uses_L7 : S Un→Option (EX Un):=loopF (N_r21_Uses 7) (fun s Q=>awf M_r21_Uses N_r21_Uses r21_Uses_B7 s Q)
def r21_Uses_C4 : Exit→S Un→Option (RF Un):=ctxF M_r21_Uses N_r21_Uses (bodyOf Tryz.f93) [1,1,1,0,1,2] (retF M_r21_Uses Tryz.f93.results.toList [.o])
def r21_Uses_C7 : Exit→S Un→Option (EX Un):=ctxF M_r21_Uses N_r21_Uses r21_Uses_B4 [1,0,2,1,0,2] (roundF (N_r21_Uses 4) r21_Uses_L4)
def r21_Uses_fn (t:Term) (depth:Int) : Option (RF Un):=awf M_r21_Uses N_r21_Uses (bodyOf Tryz.f93) (entry Tryz.f93.ntmps 4 [.d (.agg (enc Ty.term t)),.d (.v (.s (.int .i64 depth)))]) (retF M_r21_Uses Tryz.f93.results.toList [.o])
theorem r21_Uses_in (t:Term) (depth:Int) : r21_Uses_fn t depth=obO (inOK depth (Term.ids t).sz) ((r21_Uses_L4 (r21_Uses_s4 t depth (0:Int) ([]))).bind (thenX r21_Uses_C4)):=by kernel_rfl
theorem r21_Uses_l4 (t:Term) (depth:Int) (v0:Int) (v1:List Int) : r21_Uses_L4 (r21_Uses_s4 t depth v0 v1)=cndO (decide (v0<(↑(r21_in (Term.ids t) depth).length:Int))) ((r21_Uses_L7 (r21_Uses_s7 t depth v0 v1 (0:Int))).bind (thenX r21_Uses_C7)) (some (.exit 0,(r21_Uses_s4 t depth v0 v1))):=(loopF_eq (N_r21_Uses 4) r21_Uses_B4 _).trans (by kernel_rfl)
theorem r21_Uses_a4_x0 (t:Term) (depth:Int) (v0:Int) (v1:List Int) : r21_Uses_C4 (.exit 0) (r21_Uses_s4 t depth v0 v1)=some (R_r21_Uses (v1)):=by kernel_rfl
theorem r21_Uses_l7 (t:Term) (depth:Int) (v0:Int) (v1:List Int) (v2:Int) : r21_Uses_L7 (r21_Uses_s7 t depth v0 v1 v2)=cndO (decide (v2<(↑v1.length:Int))) (obO (0≤v2∧v2<(↑v1.length:Int)) (obO (0≤v0∧v0<(↑(r21_in (Term.ids t) depth).length:Int)) (cndO (decide (v1.getD v2.toNat (0:Int)<(r21_in (Term.ids t) depth).getD v0.toNat (0:Int))) (r21_Uses_L7 (r21_Uses_s7 t depth v0 v1 (IntKind.i64.wrap (v2+1)))) (some (.exit 2,(r21_Uses_s7 t depth v0 v1 v2)))))) (some (.exit 2,(r21_Uses_s7 t depth v0 v1 v2))):=(loopF_eq (N_r21_Uses 7) r21_Uses_B7 _).trans (by kernel_rfl)
def r21_Uses_t1 (t:Term) (depth:Int) (v0:Int) (v1:List Int) (v2:Int) : Option (EX Un):=obO (0≤v2∧v2≤(↑v1.length:Int)) (obO ((0+(List.take v2.toNat v1).length)*(8:Nat)≤roomB) (obO (0≤v0∧v0<(↑(r21_in (Term.ids t) depth).length:Int)) (obO (((List.take v2.toNat v1).length+[(r21_in (Term.ids t) depth).getD v0.toNat (0:Int)].length)*(8:Nat)≤roomB) (obO (0≤v2∧v2≤(↑v1.length:Int)) (obO (((List.take v2.toNat v1++[(r21_in (Term.ids t) depth).getD v0.toNat (0:Int)]).length+(List.drop v2.toNat v1).length)*(8:Nat)≤roomB) (r21_Uses_L4 (r21_Uses_s4 t depth (IntKind.i64.wrap (v0+1)) (List.take v2.toNat v1++[(r21_in (Term.ids t) depth).getD v0.toNat (0:Int)]++List.drop v2.toNat v1))))))))
theorem r21_Uses_a7_x2 (t:Term) (depth:Int) (v0:Int) (v1:List Int) (v2:Int) : r21_Uses_C7 (.exit 2) (r21_Uses_s7 t depth v0 v1 v2)=cndO (decide (v2<(↑v1.length:Int))) (obO (0≤v2∧v2<(↑v1.length:Int)) (obO (0≤v0∧v0<(↑(r21_in (Term.ids t) depth).length:Int)) (cndO (v1.getD v2.toNat (0:Int) == (r21_in (Term.ids t) depth).getD v0.toNat (0:Int)) (r21_Uses_L4 (r21_Uses_s4 t depth (IntKind.i64.wrap (v0+1)) v1)) (r21_Uses_t1 t depth v0 v1 v2)))) (r21_Uses_t1 t depth v0 v1 v2):=by kernel_rfl
theorem tw_take {p:Int→Bool} : ∀ l : List Int,l.take (l.takeWhile p).length=l.takeWhile p
  | []=>rfl
  | y::l=>by
    rw[List.takeWhile_cons]
    cases p y with
    | true=>simp only[if_true,List.length_cons,List.take_succ_cons];rw[tw_take l]
    | false=>simp
theorem tw_drop {p:Int→Bool} : ∀ l : List Int,l.drop (l.takeWhile p).length=l.dropWhile p
  | []=>rfl
  | y::l=>by
    rw[List.takeWhile_cons,List.dropWhile_cons]
    cases p y with
    | true=>simp only[if_true,List.length_cons,List.drop_succ_cons];rw[tw_drop l]
    | false=>simp
theorem ins_at (x:Int) : ∀ {out:List Int},Rises out→(x∈out↔((out.takeWhile fun y=>decide (y<x)).length<out.length∧out.getD (out.takeWhile fun y=>decide (y<x)).length 0=x))
  | [],_=>by simp
  | y::out,h=>by
    obtain⟨h1,h2⟩:=List.pairwise_cons.1 h
    have ih:=ins_at x (out:=out) h2
    by_cases e : y<x
    · rw[List.takeWhile_cons,if_pos (by simpa using e),List.length_cons,List.length_cons,List.getD_cons_succ,List.mem_cons,ih]
      constructor
      · rintro (e2 | e2)
        · omega
        · exact⟨by omega,e2.2⟩
      · rintro ⟨e2,e3⟩;exact .inr ⟨by omega,e3⟩
    · rw[List.takeWhile_cons,if_neg (by simpa using e),List.length_nil,List.length_cons,List.getD_cons_zero,List.mem_cons]
      constructor
      · rintro (e2 | e2)
        · exact⟨by omega,e2.symm⟩
        · have:=h1 x e2;omega
      · rintro ⟨_,e3⟩;exact .inl e3.symm
def r21_Uses (t:Term) (depth:Int) : List Int:=usesA t depth
theorem r21_Uses_find (t:Term) (depth:Int) (out:List Int) (i:Nat) (hi:i<(inT depth t).length) (x:Int) (hx:(inT depth t).getD i 0=x) (hl:out.length≤2000000) : ∀ (r:List Int) (k:Nat),out.drop k=r→k≤out.length →
    r21_Uses_L7 (r21_Uses_s7 t depth (i:Int) out (k:Int))=some (.exit 2,r21_Uses_s7 t depth (i:Int) out ((k+(r.takeWhile fun y=>decide (y<x)).length:Nat):Int)):=by
  intro r
  induction r with
  | nil =>
    intro k hr hk
    have : out.length≤k:=by rw[← List.drop_eq_nil_iff];exact hr
    rw[r21_Uses_l7,cndO_eq,if_neg (by rw[decide_eq_true_eq];omega)]
    rfl
  | cons y r ih =>
    intro k hr hk
    obtain⟨a1,a2,a3,_⟩:=drop_cons hr
    rw[r21_Uses_l7]
    simp only[cndO_eq,decide_eq_true_eq,Term.ids_eq,r21_in,Int.toNat_natCast,hx,a2]
    rw[if_pos (by omega),obO_pos (by omega),obO_pos (by omega),List.takeWhile_cons]
    by_cases e : y<x
    · rw[if_pos e,wrap_next a1 (by omega),ih (k+1) a3 (by omega),if_pos (by simpa using e),List.length_cons]
      congr 4
      omega
    · rw[if_neg e,if_neg (by simpa using e)]
      rfl
theorem r21_Uses_spec (t:Term) (depth:Int) (_ht:WS .term t) (_hd:WI depth) (h:inOK depth t.sz) : r21_Uses_fn t depth=some (R_r21_Uses (r21_Uses t depth)):=by
  obtain⟨h1,h2,h3⟩:=h
  have hin:=inT_len depth t
  have l4:=(loop_fold (e:=.exit 0) (L:=r21_Uses_L4) (st:=fun o i=>r21_Uses_s4 t depth i o) (l:=inT depth t) (d:=(0:Int)) (g:=insI) (fun i o=>Rises o∧o.length≤i) (by omega)
    (fun o i x hi hx hI=>by
      have hil:i<(inT depth t).length:=by omega
      obtain⟨hR,hol⟩ : Rises o∧o.length≤i:=hI
      have hil2:(insI o x).length≤o.length+1:=by
        unfold insI
        split
        · omega
        · have e:=congrArg List.length (List.takeWhile_append_dropWhile (p:=fun z=>decide (z<x)) (l:=o))
          rw[List.length_append] at e
          rw[List.length_append,List.length_cons];omega
      refine⟨(show Rises (insI o x)∧(insI o x).length≤i+1 from ⟨insI_rises hR x,by omega⟩),?_⟩
      have hf:=r21_Uses_find t depth o i hil x hx (by omega) o 0 rfl (by omega)
      rw[Nat.zero_add] at hf
      have hf':r21_Uses_L7 (r21_Uses_s7 t depth (i:Int) o (0:Int))=some (.exit 2,r21_Uses_s7 t depth (i:Int) o (((o.takeWhile fun y=>decide (y<x)).length:Nat):Int)):=hf
      have hat:=ins_at x hR
      have htk:=tw_take (p:=fun y=>decide (y<x)) o
      have hdr:=tw_drop (p:=fun y=>decide (y<x)) o
      have hkl:(o.takeWhile fun y=>decide (y<x)).length≤o.length:=(List.takeWhile_sublist _).length_le
      rw[r21_Uses_l4]
      simp only[Term.ids_eq,r21_in]
      rw[cndO_eq,if_pos (by rw[decide_eq_true_eq];exact hi),loop_end hf',r21_Uses_a7_x2]
      unfold r21_Uses_t1
      simp only[cndO_eq,decide_eq_true_eq,beq_iff_eq,Term.ids_eq,r21_in,Int.toNat_natCast,hx]
      have t1:∀ X : Option (EX Un),obO (0≤(((o.takeWhile fun y=>decide (y<x)).length:Nat):Int)∧(((o.takeWhile fun y=>decide (y<x)).length:Nat):Int)≤(o.length:Int))
          (obO ((0+(o.take (o.takeWhile fun y=>decide (y<x)).length).length)*8≤roomB) (obO (0≤(i:Int)∧(i:Int)<((inT depth t).length:Int))
          (obO (((o.take (o.takeWhile fun y=>decide (y<x)).length).length+[x].length)*8≤roomB) (obO (0≤(((o.takeWhile fun y=>decide (y<x)).length:Nat):Int)∧(((o.takeWhile fun y=>decide (y<x)).length:Nat):Int)≤(o.length:Int))
          (obO (((o.take (o.takeWhile fun y=>decide (y<x)).length++[x]).length+(o.drop (o.takeWhile fun y=>decide (y<x)).length).length)*8≤roomB) X)))))=X:=by
        intro X
        have e1:(o.take (o.takeWhile fun y=>decide (y<x)).length).length≤o.length:=by rw[List.length_take];omega
        have e2:(o.drop (o.takeWhile fun y=>decide (y<x)).length).length≤o.length:=by rw[List.length_drop];omega
        rw[obO_pos (by omega),obO_pos (by unfold roomB;omega),obO_pos (by omega),obO_pos (by unfold roomB;rw[List.length_singleton];omega),obO_pos (by omega),obO_pos (by unfold roomB;rw[List.length_append,List.length_singleton];omega)]
      rw[t1,htk,hdr]
      by_cases hm : x∈o
      · have hm':=hat.1 hm
        rw[if_pos (by omega),obO_pos (by omega),obO_pos (by omega),if_pos hm'.2]
        unfold insI
        rw[if_pos hm]
      · have e:insI o x=(o.takeWhile fun y=>decide (y<x))++[x]++o.dropWhile fun y=>decide (y<x):=by unfold insI;rw[if_neg hm,List.append_assoc];rfl
        rw[e]
        by_cases hk : (o.takeWhile fun y=>decide (y<x)).length<o.length
        · rw[if_pos (by omega),obO_pos (by omega),obO_pos (by omega),if_neg (fun e2=>hm (hat.2 ⟨hk,e2⟩))]
        · rw[if_neg (by omega)])
    (fun o _=>by
      rw[r21_Uses_l4]
      simp only[Term.ids_eq,r21_in]
      rw[cndO_eq,if_neg (by rw[decide_eq_true_eq];omega)]) [] (show Rises []∧([] : List Int).length≤0 from ⟨List.Pairwise.nil,Nat.le_refl _⟩)).1
  rw[r21_Uses_in,Term.ids_eq,obO_pos (show inOK _ _ from ⟨h1,h2,h3⟩),loop_end l4,r21_Uses_a4_x0]
  rfl
def F_r21_Uses : FnC Un:=fun args=>match args with
  | [x0,x1]=>(dS .term x0).bind fun t=>(dI .i64 x1).bind fun depth=>some ([inOK depth t.sz],A_r21_Uses (r21_Uses t depth),O_r21_Uses (r21_Uses t depth))
  | _=>none
theorem ok_r21_Uses : FnOK 93 F_r21_Uses:=by
  intro args ob rs os h hob
  unfold F_r21_Uses at h
  split at h
  · simp only[Option.bind_eq_some_iff,Option.some.injEq,Prod.mk.injEq] at h
    obtain⟨t,e0,depth,e1,rfl,rfl,rfl⟩:=h
    obtain rfl:=dS_eq e0
    obtain rfl:=dI_eq e1
    exact⟨fn_contractF (M:=M_r21_Uses) rfl (tbl_ok (l1:=[(137,F_r21_in)]) (l2:=[]) (l3:=[]) (l4:=[]) (l5:=[]) ⟨ok_r21_in,trivial⟩ trivial trivial trivial trivial) Tryz.func93 (by kernel_rfl) N_r21_Uses 4 [.o] (fun hwf=>(r21_Uses_spec t depth (wfArg hwf (a:=.d (.agg (enc Ty.term t))) (List.mem_of_getElem? (i:=0) rfl)) (wfArg hwf (a:=.d (.v (.s (.int .i64 depth)))) (List.mem_of_getElem? (i:=1) rfl)) (hob _ (List.mem_of_getElem? (i:=0) rfl)))),hasBody_of Tryz.func93 (by kernel_rfl) (by kernel_rfl)⟩
  · simp at h
theorem usesA_len (t:Term) (d:Int) : (usesA t d).length≤t.sz:=by have:=riseI_len (inT d t);have:=inT_len d t;unfold usesA;omega
end
end Go.Proofs.YtolbngdhgcbmgaaGreat.B
