/- Part 18 of the proof: Sref15 Sref15b Sr15w. -/
import Derived.Test.YtolbngdhgcbmgaaGreatPonce17
namespace Go.Proofs.YtolbngdhgcbmgaaGreat.B
open Go Go.RowKit
set_option maxRecDepth 100000
noncomputable section
attribute [local irreducible] awp ctxK itersK iterK retQ retGQ awf ctxF loopF
theorem loop_pre {α β:Type} {L:S Un→Option (EX Un)} {st:Int→S Un} {C:Exit→S Un→Option β} (R:Bool→Option β) {a b:List α} {d:α} {e:Exit} (hl:a.length≤9223372036854775807)
    (step:∀ i : Nat,i<a.length→i<b.length→L (st i)=if deq (a.getD i d) (b.getD i d)=true then L (st (IntKind.i64.wrap ((i:Int)+1))) else some (.ret,st i))
    (stop:∀ i : Nat,¬ (i<a.length∧i<b.length)→L (st i)=some (e,st i)) (cr:∀ i : Nat,C .ret (st i)=R false) (ce:∀ i : Nat,C e (st i)=R ((a.length:Int) == (b.length:Int))) : (L (st (0:Int))).bind (thenX C)=R (deq a b):=by
  have key:∀ (k i:Nat),i+k=a.length→i≤b.length→(L (st i)).bind (thenX C)=R (deq (a.drop i) (b.drop i)):=by
    intro k
    induction k with
    | zero =>
      intro i hi hb
      obtain rfl : i=a.length:=by omega
      rw[loop_end (stop _ (by omega)),ce]
      congr 1
      refine deq_of ?_
      rw[List.drop_length,beq_iff_eq]
      constructor
      · intro h;rw[List.drop_eq_nil_of_le (by omega)]
      · intro h
        have:=congrArg List.length h
        rw[List.length_drop,List.length_nil] at this;omega
    | succ k ih =>
      intro i hi hb
      have h1:i<a.length:=by omega
      by_cases h2 : i<b.length
      · have ga:a.getD i d=a[i]:=by rw[List.getD_eq_getElem?_getD,List.getElem?_eq_getElem h1];rfl
        have gb:b.getD i d=b[i]:=by rw[List.getD_eq_getElem?_getD,List.getElem?_eq_getElem h2];rfl
        have hs:=step i h1 h2
        rw[ga,gb] at hs
        rw[List.drop_eq_getElem_cons h1,List.drop_eq_getElem_cons h2]
        by_cases hq : deq a[i] b[i]=true
        · rw[if_pos hq,wrap_next h1 hl] at hs
          rw[hs,ih (i+1) (by omega) (by omega)]
          rw[deq_iff] at hq
          congr 1
          refine deq_of ?_
          rw[deq_iff,hq]
          exact⟨fun h=>by rw[h],fun h=>(List.cons.inj h).2⟩
        · rw[if_neg hq] at hs
          rw[loop_end hs,cr]
          congr 1
          refine deq_of ?_
          rw[deq_iff] at hq
          exact⟨fun h=>absurd h (by decide),fun h=>absurd (List.cons.inj h).1 hq⟩
      · rw[loop_end (stop _ (by omega)),ce]
        congr 1
        refine deq_of ?_
        rw[beq_iff_eq]
        constructor
        · intro h;omega
        · intro h
          have:=congrArg List.length h
          rw[List.length_drop,List.length_drop] at this;omega
  exact key a.length 0 (by omega) (by omega)
theorem ord_deq (x y:List Val) : (r03_Orders x y != 0)=!deq x y:=by
  rw[Bool.eq_iff_iff,bne_iff_ne,Bool.not_eq_true',← Bool.not_eq_true,deq_iff,r03_Orders_eq,ne_eq,ordR_zero]
def M_r03_List : Mc Un:=mach (tbl [(94,F_r03_Orders)]) (tbl []) (tbl []) (tbl []) (tbl [])
def A_r03_List (r:Bool) : List (A Un):=[.c (.s (.bool r))]
def O_r03_List (_r:Bool) : List (Ob Un):=[]
def R_r03_List (r:Bool) : RF Un:=(A_r03_List r,O_r03_List r)
def N_r03_List : Nat→NS:=fun l=>(look l [(2,{ ts:=bl 33 51,bs:=bl 33 0,nm:=[] })]).getD ⟨[],[],[],[],[],false⟩
def r03_List_s2 (a:List (List Val)) (b:List (List Val)) (v0:Int) : S Un:=(st 33 33 132 0 [(0,al .row a),(1,al .row b),(4,ab false),(5,ai v0)] [] [])
def r03_List_B2 : Code:=sub (bodyOf Tryz.f38) [1,0,1,2,2]
def r03_List_L2 : S Un→Option (EX Un):=loopF (N_r03_List 2) (fun s Q=>awf M_r03_List N_r03_List r03_List_B2 s Q)
def r03_List_C2 : Exit→S Un→Option (RF Un):=ctxF M_r03_List N_r03_List (bodyOf Tryz.f38) [1,0,1,2] (retF M_r03_List Tryz.f38.results.toList [.d])
def r03_List_fn (a:List (List Val)) (b:List (List Val)) : Option (RF Un):=awf M_r03_List N_r03_List (bodyOf Tryz.f38) (entry Tryz.f38.ntmps 0 [.d (.v (.dat (U:=Un) Ty.row a)),.d (.v (.dat (U:=Un) Ty.row b))]) (retF M_r03_List Tryz.f38.results.toList [.d])
theorem r03_List_in (a:List (List Val)) (b:List (List Val)) : r03_List_fn a b=(r03_List_L2 (r03_List_s2 a b (0:Int))).bind (thenX r03_List_C2):=by kernel_rfl
theorem r03_List_l2 (a:List (List Val)) (b:List (List Val)) (v0:Int) : r03_List_L2 (r03_List_s2 a b v0)=cndO (decide (v0<(↑a.length:Int))) (cndO (decide (v0<(↑b.length:Int))) (obO (0≤v0∧v0<(↑a.length:Int)) (obO (0≤v0∧v0<(↑b.length:Int)) (cndO (r03_Orders (a.getD v0.toNat []) (b.getD v0.toNat []) != 0) (some (.ret,(r03_List_s2 a b v0))) (r03_List_L2 (r03_List_s2 a b (IntKind.i64.wrap (v0+1))))))) (some (.exit 0,(r03_List_s2 a b v0)))) (some (.exit 0,(r03_List_s2 a b v0))):=(loopF_eq (N_r03_List 2) r03_List_B2 _).trans (by kernel_rfl)
theorem r03_List_a2_ret (a:List (List Val)) (b:List (List Val)) (v0:Int) : r03_List_C2 .ret (r03_List_s2 a b v0)=some (R_r03_List (false)):=by kernel_rfl
theorem r03_List_a2_x0 (a:List (List Val)) (b:List (List Val)) (v0:Int) : r03_List_C2 (.exit 0) (r03_List_s2 a b v0)=some (R_r03_List ((↑a.length:Int) == (↑b.length:Int))):=by kernel_rfl
noncomputable def r03_List (a b:List (List Val)) : Bool:=deq a b
theorem r03_List_spec (a b:List (List Val)) (ha:WL .row a) (_hb:WL .row b) : r03_List_fn a b=some (R_r03_List (r03_List a b)):=by
  rw[r03_List_in]
  exact loop_pre (L:=r03_List_L2) (st:=fun i=>r03_List_s2 a b i) (fun r=>some (R_r03_List r)) (d:=[]) ha.len
    (fun i hi hj=>by
      rw[r03_List_l2,ord_deq]
      simp only[cndO_eq,Int.toNat_natCast]
      rw[if_pos (by simp;omega),if_pos (by simp;omega),obO_pos (by omega),obO_pos (by omega)]
      cases deq (a.getD i []) (b.getD i [])<;>simp)
    (fun i h=>by
      rw[r03_List_l2]
      simp only[cndO_eq,decide_eq_true_eq]
      by_cases h1 : (i:Int)<(a.length:Int)
      · rw[if_pos h1,if_neg (by omega)]
      · rw[if_neg h1])
    (fun i=>r03_List_a2_ret _ _ _) (fun i=>r03_List_a2_x0 _ _ _)
def F_r03_List : FnC Un:=fun args=>match args with
  | [x0,x1]=>(dL .row x0).bind fun a=>(dL .row x1).bind fun b=>some ([],A_r03_List (r03_List a b),O_r03_List (r03_List a b))
  | _=>none
theorem ok_r03_List : FnOK 38 F_r03_List:=by
  intro args ob rs os h hob
  unfold F_r03_List at h
  split at h
  · simp only[Option.bind_eq_some_iff,Option.some.injEq,Prod.mk.injEq] at h
    obtain⟨a,e0,b,e1,rfl,rfl,rfl⟩:=h
    obtain rfl:=dL_eq e0
    obtain rfl:=dL_eq e1
    exact⟨fn_contractF (M:=M_r03_List) rfl (tbl_ok (l1:=[(94,F_r03_Orders)]) (l2:=[]) (l3:=[]) (l4:=[]) (l5:=[]) ⟨ok_r03_Orders,trivial⟩ trivial trivial trivial trivial) Tryz.func38 (by kernel_rfl) N_r03_List 0 [.d] (fun hwf=>(r03_List_spec a b (wfArg hwf (a:=.d (.v (.dat (U:=Un) Ty.row a))) (List.mem_of_getElem? (i:=0) rfl)) (wfArg hwf (a:=.d (.v (.dat (U:=Un) Ty.row b))) (List.mem_of_getElem? (i:=1) rfl)))),hasBody_of Tryz.func38 (by kernel_rfl) (by kernel_rfl)⟩
  · simp at h
def M_r15_Cols : Mc Un:=mach (tbl []) (tbl []) (tbl []) (tbl []) (tbl [])
def A_r15_Cols (r:Bool) : List (A Un):=[.c (.s (.bool r))]
def O_r15_Cols (_r:Bool) : List (Ob Un):=[]
def R_r15_Cols (r:Bool) : RF Un:=(A_r15_Cols r,O_r15_Cols r)
def N_r15_Cols : Nat→NS:=fun l=>(look l [(2,{ ts:=bl 32 51,bs:=bl 32 0,nm:=[] })]).getD ⟨[],[],[],[],[],false⟩
def r15_Cols_s2 (a:List Col) (b:List Col) (v0:Int) : S Un:=(st 32 32 128 0 [(0,al .col a),(1,al .col b),(4,ab false),(5,ai v0)] [] [])
def r15_Cols_B2 : Code:=sub (bodyOf Tryz.f36) [1,0,1,2,2]
def r15_Cols_L2 : S Un→Option (EX Un):=loopF (N_r15_Cols 2) (fun s Q=>awf M_r15_Cols N_r15_Cols r15_Cols_B2 s Q)
def r15_Cols_C2 : Exit→S Un→Option (RF Un):=ctxF M_r15_Cols N_r15_Cols (bodyOf Tryz.f36) [1,0,1,2] (retF M_r15_Cols Tryz.f36.results.toList [.d])
def r15_Cols_fn (a:List Col) (b:List Col) : Option (RF Un):=awf M_r15_Cols N_r15_Cols (bodyOf Tryz.f36) (entry Tryz.f36.ntmps 0 [.d (.v (.dat (U:=Un) Ty.col a)),.d (.v (.dat (U:=Un) Ty.col b))]) (retF M_r15_Cols Tryz.f36.results.toList [.d])
theorem r15_Cols_in (a:List Col) (b:List Col) : r15_Cols_fn a b=(r15_Cols_L2 (r15_Cols_s2 a b (0:Int))).bind (thenX r15_Cols_C2):=by kernel_rfl
theorem r15_Cols_l2 (a:List Col) (b:List Col) (v0:Int) : r15_Cols_L2 (r15_Cols_s2 a b v0)=cndO (decide (v0<(↑a.length:Int))) (cndO (decide (v0<(↑b.length:Int))) (obO (0≤v0∧v0<(↑a.length:Int)) (obO (0≤v0∧v0<(↑b.length:Int)) (cndO (!andB [EK.str,EK.int IntKind.i64] ((a.getD v0.toNat zeroCol).table.toList == (b.getD v0.toNat zeroCol).table.toList) (andB [EK.int IntKind.i64] ((a.getD v0.toNat zeroCol).name.toList == (b.getD v0.toNat zeroCol).name.toList) (andB [] ((a.getD v0.toNat zeroCol).type == (b.getD v0.toNat zeroCol).type) true))) (some (.ret,(r15_Cols_s2 a b v0))) (r15_Cols_L2 (r15_Cols_s2 a b (IntKind.i64.wrap (v0+1))))))) (some (.exit 0,(r15_Cols_s2 a b v0)))) (some (.exit 0,(r15_Cols_s2 a b v0))):=(loopF_eq (N_r15_Cols 2) r15_Cols_B2 _).trans (by kernel_rfl)
theorem r15_Cols_a2_ret (a:List Col) (b:List Col) (v0:Int) : r15_Cols_C2 .ret (r15_Cols_s2 a b v0)=some (R_r15_Cols (false)):=by kernel_rfl
theorem r15_Cols_a2_x0 (a:List Col) (b:List Col) (v0:Int) : r15_Cols_C2 (.exit 0) (r15_Cols_s2 a b v0)=some (R_r15_Cols ((↑a.length:Int) == (↑b.length:Int))):=by kernel_rfl
noncomputable def r15_Cols (a b:List Col) : Bool:=deq a b
theorem r15_Cols_spec (a b:List Col) (ha:WL .col a) (_hb:WL .col b) : r15_Cols_fn a b=some (R_r15_Cols (r15_Cols a b)):=by
  rw[r15_Cols_in]
  exact loop_pre (L:=r15_Cols_L2) (st:=fun i=>r15_Cols_s2 a b i) (fun r=>some (R_r15_Cols r)) (d:=zeroCol) ha.len
    (fun i hi hj=>by
      rw[r15_Cols_l2,eqCol]
      simp only[cndO_eq,Int.toNat_natCast]
      rw[if_pos (by simp;omega),if_pos (by simp;omega),obO_pos (by omega),obO_pos (by omega)]
      cases deq (a.getD i zeroCol) (b.getD i zeroCol)<;>simp)
    (fun i h=>by
      rw[r15_Cols_l2]
      simp only[cndO_eq,decide_eq_true_eq]
      by_cases h1 : (i:Int)<(a.length:Int)
      · rw[if_pos h1,if_neg (by omega)]
      · rw[if_neg h1])
    (fun i=>r15_Cols_a2_ret _ _ _) (fun i=>r15_Cols_a2_x0 _ _ _)
def F_r15_Cols : FnC Un:=fun args=>match args with
  | [x0,x1]=>(dL .col x0).bind fun a=>(dL .col x1).bind fun b=>some ([],A_r15_Cols (r15_Cols a b),O_r15_Cols (r15_Cols a b))
  | _=>none
theorem ok_r15_Cols : FnOK 36 F_r15_Cols:=by
  intro args ob rs os h hob
  unfold F_r15_Cols at h
  split at h
  · simp only[Option.bind_eq_some_iff,Option.some.injEq,Prod.mk.injEq] at h
    obtain⟨a,e0,b,e1,rfl,rfl,rfl⟩:=h
    obtain rfl:=dL_eq e0
    obtain rfl:=dL_eq e1
    exact⟨fn_contractF (M:=M_r15_Cols) rfl (tbl_ok (l1:=[]) (l2:=[]) (l3:=[]) (l4:=[]) (l5:=[]) trivial trivial trivial trivial trivial) Tryz.func36 (by kernel_rfl) N_r15_Cols 0 [.d] (fun hwf=>(r15_Cols_spec a b (wfArg hwf (a:=.d (.v (.dat (U:=Un) Ty.col a))) (List.mem_of_getElem? (i:=0) rfl)) (wfArg hwf (a:=.d (.v (.dat (U:=Un) Ty.col b))) (List.mem_of_getElem? (i:=1) rfl)))),hasBody_of Tryz.func36 (by kernel_rfl) (by kernel_rfl)⟩
  · simp at h
def M_r15_Keys : Mc Un:=mach (tbl []) (tbl []) (tbl []) (tbl []) (tbl [])
def A_r15_Keys (r:Bool) : List (A Un):=[.c (.s (.bool r))]
def O_r15_Keys (_r:Bool) : List (Ob Un):=[]
def R_r15_Keys (r:Bool) : RF Un:=(A_r15_Keys r,O_r15_Keys r)
def N_r15_Keys : Nat→NS:=fun l=>(look l [(2,{ ts:=bl 32 51,bs:=bl 32 0,nm:=[] })]).getD ⟨[],[],[],[],[],false⟩
def r15_Keys_s2 (a:List By) (b:List By) (v0:Int) : S Un:=(st 32 32 128 0 [(0,al .by_ a),(1,al .by_ b),(4,ab false),(5,ai v0)] [] [])
def r15_Keys_B2 : Code:=sub (bodyOf Tryz.f37) [1,0,1,2,2]
def r15_Keys_L2 : S Un→Option (EX Un):=loopF (N_r15_Keys 2) (fun s Q=>awf M_r15_Keys N_r15_Keys r15_Keys_B2 s Q)
def r15_Keys_C2 : Exit→S Un→Option (RF Un):=ctxF M_r15_Keys N_r15_Keys (bodyOf Tryz.f37) [1,0,1,2] (retF M_r15_Keys Tryz.f37.results.toList [.d])
def r15_Keys_fn (a:List By) (b:List By) : Option (RF Un):=awf M_r15_Keys N_r15_Keys (bodyOf Tryz.f37) (entry Tryz.f37.ntmps 0 [.d (.v (.dat (U:=Un) Ty.by_ a)),.d (.v (.dat (U:=Un) Ty.by_ b))]) (retF M_r15_Keys Tryz.f37.results.toList [.d])
theorem r15_Keys_in (a:List By) (b:List By) : r15_Keys_fn a b=(r15_Keys_L2 (r15_Keys_s2 a b (0:Int))).bind (thenX r15_Keys_C2):=by kernel_rfl
theorem r15_Keys_l2 (a:List By) (b:List By) (v0:Int) : r15_Keys_L2 (r15_Keys_s2 a b v0)=cndO (decide (v0<(↑a.length:Int))) (cndO (decide (v0<(↑b.length:Int))) (obO (0≤v0∧v0<(↑a.length:Int)) (obO (0≤v0∧v0<(↑b.length:Int)) (cndO (!andB [EK.bool] ((a.getD v0.toNat zeroBy).at_ == (b.getD v0.toNat zeroBy).at_) (andB [] ((a.getD v0.toNat zeroBy).down == (b.getD v0.toNat zeroBy).down) true)) (some (.ret,(r15_Keys_s2 a b v0))) (r15_Keys_L2 (r15_Keys_s2 a b (IntKind.i64.wrap (v0+1))))))) (some (.exit 0,(r15_Keys_s2 a b v0)))) (some (.exit 0,(r15_Keys_s2 a b v0))):=(loopF_eq (N_r15_Keys 2) r15_Keys_B2 _).trans (by kernel_rfl)
theorem r15_Keys_a2_ret (a:List By) (b:List By) (v0:Int) : r15_Keys_C2 .ret (r15_Keys_s2 a b v0)=some (R_r15_Keys (false)):=by kernel_rfl
theorem r15_Keys_a2_x0 (a:List By) (b:List By) (v0:Int) : r15_Keys_C2 (.exit 0) (r15_Keys_s2 a b v0)=some (R_r15_Keys ((↑a.length:Int) == (↑b.length:Int))):=by kernel_rfl
noncomputable def r15_Keys (a b:List By) : Bool:=deq a b
theorem r15_Keys_spec (a b:List By) (ha:WL .by_ a) (_hb:WL .by_ b) : r15_Keys_fn a b=some (R_r15_Keys (r15_Keys a b)):=by
  rw[r15_Keys_in]
  exact loop_pre (L:=r15_Keys_L2) (st:=fun i=>r15_Keys_s2 a b i) (fun r=>some (R_r15_Keys r)) (d:=zeroBy) ha.len
    (fun i hi hj=>by
      rw[r15_Keys_l2,eqBy]
      simp only[cndO_eq,Int.toNat_natCast]
      rw[if_pos (by simp;omega),if_pos (by simp;omega),obO_pos (by omega),obO_pos (by omega)]
      cases deq (a.getD i zeroBy) (b.getD i zeroBy)<;>simp)
    (fun i h=>by
      rw[r15_Keys_l2]
      simp only[cndO_eq,decide_eq_true_eq]
      by_cases h1 : (i:Int)<(a.length:Int)
      · rw[if_pos h1,if_neg (by omega)]
      · rw[if_neg h1])
    (fun i=>r15_Keys_a2_ret _ _ _) (fun i=>r15_Keys_a2_x0 _ _ _)
def F_r15_Keys : FnC Un:=fun args=>match args with
  | [x0,x1]=>(dL .by_ x0).bind fun a=>(dL .by_ x1).bind fun b=>some ([],A_r15_Keys (r15_Keys a b),O_r15_Keys (r15_Keys a b))
  | _=>none
theorem ok_r15_Keys : FnOK 37 F_r15_Keys:=by
  intro args ob rs os h hob
  unfold F_r15_Keys at h
  split at h
  · simp only[Option.bind_eq_some_iff,Option.some.injEq,Prod.mk.injEq] at h
    obtain⟨a,e0,b,e1,rfl,rfl,rfl⟩:=h
    obtain rfl:=dL_eq e0
    obtain rfl:=dL_eq e1
    exact⟨fn_contractF (M:=M_r15_Keys) rfl (tbl_ok (l1:=[]) (l2:=[]) (l3:=[]) (l4:=[]) (l5:=[]) trivial trivial trivial trivial trivial) Tryz.func37 (by kernel_rfl) N_r15_Keys 0 [.d] (fun hwf=>(r15_Keys_spec a b (wfArg hwf (a:=.d (.v (.dat (U:=Un) Ty.by_ a))) (List.mem_of_getElem? (i:=0) rfl)) (wfArg hwf (a:=.d (.v (.dat (U:=Un) Ty.by_ b))) (List.mem_of_getElem? (i:=1) rfl)))),hasBody_of Tryz.func37 (by kernel_rfl) (by kernel_rfl)⟩
  · simp at h
end
end Go.Proofs.YtolbngdhgcbmgaaGreat.B
namespace Go.Proofs.YtolbngdhgcbmgaaGreat.B
open Go Go.RowKit
set_option maxRecDepth 100000
noncomputable section
attribute [local irreducible] awp ctxK itersK iterK retQ retGQ awf ctxF loopF
noncomputable def r15_Terms (a b:List Term) : Bool:=deq a b
noncomputable def r15_Rels (a b:List Rel) : Bool:=deq a b
noncomputable def r15_SameTerm (a b:Term) : Bool:=deq a b
noncomputable def r15_Aggs (a b:List Agg) : Bool:=deq a b
noncomputable def r15_SameRel (a b:Rel) : Bool:=deq a b
theorem agg_deqb (x y:Agg) : deq x y=((x.name.toList == y.name.toList) && ((x.distinct == y.distinct) && deq x.t y.t)):=by
  rw[Bool.eq_iff_iff,agg_deq]
  simp only[Bool.and_eq_true,beq_iff_eq,name_eq,deq_iff]
theorem cndO_nand {β:Type} (R:Bool→β) {q x:Bool} : cndO (!q) (some (R false)) (some (R x))=some (R (q && x)):=by cases q<;>rfl
def A_r15_Terms (r:Bool) : List (A Un):=[.c (.s (.bool r))]
def O_r15_Terms (_r:Bool) : List (Ob Un):=[]
def Fm_r15_Terms (m:Nat) : FnC Un:=fun args=>match args with
  | [x0,x1]=>(dL .term x0).bind fun a=>(dL .term x1).bind fun b=>some ([2*htTs a+1<m],A_r15_Terms (r15_Terms a b),O_r15_Terms (r15_Terms a b))
  | _=>none
def A_r15_Rels (r:Bool) : List (A Un):=[.c (.s (.bool r))]
def O_r15_Rels (_r:Bool) : List (Ob Un):=[]
def Fm_r15_Rels (m:Nat) : FnC Un:=fun args=>match args with
  | [x0,x1]=>(dL .rel x0).bind fun a=>(dL .rel x1).bind fun b=>some ([2*htRs a+1<m],A_r15_Rels (r15_Rels a b),O_r15_Rels (r15_Rels a b))
  | _=>none
def A_r15_SameTerm (r:Bool) : List (A Un):=[.c (.s (.bool r))]
def O_r15_SameTerm (_r:Bool) : List (Ob Un):=[]
def Fm_r15_SameTerm (m:Nat) : FnC Un:=fun args=>match args with
  | [x0,x1]=>(dS .term x0).bind fun a=>(dS .term x1).bind fun b=>some ([2*a.ht<m],A_r15_SameTerm (r15_SameTerm a b),O_r15_SameTerm (r15_SameTerm a b))
  | _=>none
def A_r15_Aggs (r:Bool) : List (A Un):=[.c (.s (.bool r))]
def O_r15_Aggs (_r:Bool) : List (Ob Un):=[]
def Fm_r15_Aggs (m:Nat) : FnC Un:=fun args=>match args with
  | [x0,x1]=>(dL .agg x0).bind fun a=>(dL .agg x1).bind fun b=>some ([2*htAs a+1<m],A_r15_Aggs (r15_Aggs a b),O_r15_Aggs (r15_Aggs a b))
  | _=>none
def A_r15_SameRel (r:Bool) : List (A Un):=[.c (.s (.bool r))]
def O_r15_SameRel (_r:Bool) : List (Ob Un):=[]
def Fm_r15_SameRel (m:Nat) : FnC Un:=fun args=>match args with
  | [x0,x1]=>(dS .rel x0).bind fun a=>(dS .rel x1).bind fun b=>some ([2*a.ht<m],A_r15_SameRel (r15_SameRel a b),O_r15_SameRel (r15_SameRel a b))
  | _=>none
def M_r15_Terms (m:Nat) : Mc Un:=mach (tbl [(95,Fm_r15_SameTerm m)]) (tbl []) (tbl []) (tbl []) (tbl [])
def R_r15_Terms (r:Bool) : RF Un:=(A_r15_Terms r,O_r15_Terms r)
def N_r15_Terms : Nat→NS:=fun l=>(look l [(2,{ ts:=bl 33 51,bs:=bl 33 0,nm:=[] })]).getD ⟨[],[],[],[],[],false⟩
def r15_Terms_s2 (a:List Term) (b:List Term) (v0:Int) : S Un:=(st 33 33 132 0 [(0,al .term a),(1,al .term b),(4,ab false),(5,ai v0)] [] [])
def r15_Terms_B2 : Code:=sub (bodyOf Tryz.f39) [1,0,1,2,2]
def r15_Terms_L2 (m:Nat) : S Un→Option (EX Un):=loopF (N_r15_Terms 2) (fun s Q=>awf (M_r15_Terms m) N_r15_Terms r15_Terms_B2 s Q)
def r15_Terms_C2 (m:Nat) : Exit→S Un→Option (RF Un):=ctxF (M_r15_Terms m) N_r15_Terms (bodyOf Tryz.f39) [1,0,1,2] (retF (M_r15_Terms m) Tryz.f39.results.toList [.d])
def r15_Terms_fn (m:Nat) (a:List Term) (b:List Term) : Option (RF Un):=awf (M_r15_Terms m) N_r15_Terms (bodyOf Tryz.f39) (entry Tryz.f39.ntmps 0 [.d (.v (.dat (U:=Un) Ty.term a)),.d (.v (.dat (U:=Un) Ty.term b))]) (retF (M_r15_Terms m) Tryz.f39.results.toList [.d])
theorem r15_Terms_in (m:Nat) (a:List Term) (b:List Term) : r15_Terms_fn m a b=(r15_Terms_L2 m (r15_Terms_s2 a b (0:Int))).bind (thenX (r15_Terms_C2 m)):=by kernel_rfl
theorem r15_Terms_l2 (m:Nat) (a:List Term) (b:List Term) (v0:Int) : r15_Terms_L2 m (r15_Terms_s2 a b v0)=cndO (decide (v0<(↑a.length:Int))) (cndO (decide (v0<(↑b.length:Int))) (obO (0≤v0∧v0<(↑a.length:Int)) (obO (0≤v0∧v0<(↑b.length:Int)) (obO ((2:Nat)*(Term.ids (a.getD v0.toNat zeroTerm)).ht<m) (cndO (!r15_SameTerm (Term.ids (a.getD v0.toNat zeroTerm)) (Term.ids (b.getD v0.toNat zeroTerm))) (some (.ret,(r15_Terms_s2 a b v0))) (r15_Terms_L2 m (r15_Terms_s2 a b (IntKind.i64.wrap (v0+1)))))))) (some (.exit 0,(r15_Terms_s2 a b v0)))) (some (.exit 0,(r15_Terms_s2 a b v0))):=(loopF_eq (N_r15_Terms 2) r15_Terms_B2 _).trans (by kernel_rfl)
theorem r15_Terms_a2_ret (m:Nat) (a:List Term) (b:List Term) (v0:Int) : r15_Terms_C2 m .ret (r15_Terms_s2 a b v0)=some (R_r15_Terms (false)):=by kernel_rfl
theorem r15_Terms_a2_x0 (m:Nat) (a:List Term) (b:List Term) (v0:Int) : r15_Terms_C2 m (.exit 0) (r15_Terms_s2 a b v0)=some (R_r15_Terms ((↑a.length:Int) == (↑b.length:Int))):=by kernel_rfl
theorem r15_Terms_spec (m:Nat) (a b:List Term) (ha:WL .term a) (_hb:WL .term b) (h:2*htTs a+1<m+1) : r15_Terms_fn m a b=some (R_r15_Terms (r15_Terms a b)):=by
  rw[r15_Terms_in]
  exact loop_pre (L:=r15_Terms_L2 m) (st:=fun i=>r15_Terms_s2 a b i) (fun r=>some (R_r15_Terms r)) (d:=zeroTerm) ha.len
    (fun i hi hj=>by
      have hht:=htTs_mem (getD_mem (d:=zeroTerm) hi)
      rw[r15_Terms_l2]
      simp only[Term.ids_eq,cndO_eq,Int.toNat_natCast,r15_SameTerm]
      rw[if_pos (by simp;omega),if_pos (by simp;omega),obO_pos (by omega),obO_pos (by omega),obO_pos (by omega)]
      cases deq (a.getD i zeroTerm) (b.getD i zeroTerm)<;>simp)
    (fun i h=>by
      rw[r15_Terms_l2]
      simp only[cndO_eq,decide_eq_true_eq]
      by_cases h1 : (i:Int)<(a.length:Int)
      · rw[if_pos h1,if_neg (by omega)]
      · rw[if_neg h1])
    (fun i=>r15_Terms_a2_ret _ _ _ _) (fun i=>r15_Terms_a2_x0 _ _ _ _)
theorem okm_r15_Terms (m:Nat) (h_r15_Terms:FnOK 39 (Fm_r15_Terms m)) (h_r15_Rels:FnOK 41 (Fm_r15_Rels m)) (h_r15_SameTerm:FnOK 95 (Fm_r15_SameTerm m)) (h_r15_Aggs:FnOK 40 (Fm_r15_Aggs m)) (h_r15_SameRel:FnOK 10 (Fm_r15_SameRel m)) : FnOK 39 (Fm_r15_Terms (m+1)):=by
  intro args ob rs os h hob
  unfold Fm_r15_Terms at h
  split at h
  · simp only[Option.bind_eq_some_iff,Option.some.injEq,Prod.mk.injEq] at h
    obtain⟨a,e0,b,e1,rfl,rfl,rfl⟩:=h
    obtain rfl:=dL_eq e0
    obtain rfl:=dL_eq e1
    exact⟨fn_contractF (M:=(M_r15_Terms m)) rfl (tbl_ok (l1:=[(95,Fm_r15_SameTerm m)]) (l2:=[]) (l3:=[]) (l4:=[]) (l5:=[]) ⟨h_r15_SameTerm,trivial⟩ trivial trivial trivial trivial) Tryz.func39 (by kernel_rfl) N_r15_Terms 0 [.d] (fun hwf=>(r15_Terms_spec m a b (wfArg hwf (a:=.d (.v (.dat (U:=Un) Ty.term a))) (List.mem_of_getElem? (i:=0) rfl)) (wfArg hwf (a:=.d (.v (.dat (U:=Un) Ty.term b))) (List.mem_of_getElem? (i:=1) rfl)) (hob _ (List.mem_of_getElem? (i:=0) rfl)))),hasBody_of Tryz.func39 (by kernel_rfl) (by kernel_rfl)⟩
  · simp at h
def M_r15_Rels (m:Nat) : Mc Un:=mach (tbl [(10,Fm_r15_SameRel m)]) (tbl []) (tbl []) (tbl []) (tbl [])
def R_r15_Rels (r:Bool) : RF Un:=(A_r15_Rels r,O_r15_Rels r)
def N_r15_Rels : Nat→NS:=fun l=>(look l [(2,{ ts:=bl 33 51,bs:=bl 33 0,nm:=[] })]).getD ⟨[],[],[],[],[],false⟩
def r15_Rels_s2 (a:List Rel) (b:List Rel) (v0:Int) : S Un:=(st 33 33 132 0 [(0,al .rel a),(1,al .rel b),(4,ab false),(5,ai v0)] [] [])
def r15_Rels_B2 : Code:=sub (bodyOf Tryz.f41) [1,0,1,2,2]
def r15_Rels_L2 (m:Nat) : S Un→Option (EX Un):=loopF (N_r15_Rels 2) (fun s Q=>awf (M_r15_Rels m) N_r15_Rels r15_Rels_B2 s Q)
def r15_Rels_C2 (m:Nat) : Exit→S Un→Option (RF Un):=ctxF (M_r15_Rels m) N_r15_Rels (bodyOf Tryz.f41) [1,0,1,2] (retF (M_r15_Rels m) Tryz.f41.results.toList [.d])
def r15_Rels_fn (m:Nat) (a:List Rel) (b:List Rel) : Option (RF Un):=awf (M_r15_Rels m) N_r15_Rels (bodyOf Tryz.f41) (entry Tryz.f41.ntmps 0 [.d (.v (.dat (U:=Un) Ty.rel a)),.d (.v (.dat (U:=Un) Ty.rel b))]) (retF (M_r15_Rels m) Tryz.f41.results.toList [.d])
theorem r15_Rels_in (m:Nat) (a:List Rel) (b:List Rel) : r15_Rels_fn m a b=(r15_Rels_L2 m (r15_Rels_s2 a b (0:Int))).bind (thenX (r15_Rels_C2 m)):=by kernel_rfl
theorem r15_Rels_l2 (m:Nat) (a:List Rel) (b:List Rel) (v0:Int) : r15_Rels_L2 m (r15_Rels_s2 a b v0)=cndO (decide (v0<(↑a.length:Int))) (cndO (decide (v0<(↑b.length:Int))) (obO (0≤v0∧v0<(↑a.length:Int)) (obO (0≤v0∧v0<(↑b.length:Int)) (obO ((2:Nat)*(Rel.ids (a.getD v0.toNat zeroRel)).ht<m) (cndO (!r15_SameRel (Rel.ids (a.getD v0.toNat zeroRel)) (Rel.ids (b.getD v0.toNat zeroRel))) (some (.ret,(r15_Rels_s2 a b v0))) (r15_Rels_L2 m (r15_Rels_s2 a b (IntKind.i64.wrap (v0+1)))))))) (some (.exit 0,(r15_Rels_s2 a b v0)))) (some (.exit 0,(r15_Rels_s2 a b v0))):=(loopF_eq (N_r15_Rels 2) r15_Rels_B2 _).trans (by kernel_rfl)
theorem r15_Rels_a2_ret (m:Nat) (a:List Rel) (b:List Rel) (v0:Int) : r15_Rels_C2 m .ret (r15_Rels_s2 a b v0)=some (R_r15_Rels (false)):=by kernel_rfl
theorem r15_Rels_a2_x0 (m:Nat) (a:List Rel) (b:List Rel) (v0:Int) : r15_Rels_C2 m (.exit 0) (r15_Rels_s2 a b v0)=some (R_r15_Rels ((↑a.length:Int) == (↑b.length:Int))):=by kernel_rfl
theorem r15_Rels_spec (m:Nat) (a b:List Rel) (ha:WL .rel a) (_hb:WL .rel b) (h:2*htRs a+1<m+1) : r15_Rels_fn m a b=some (R_r15_Rels (r15_Rels a b)):=by
  rw[r15_Rels_in]
  exact loop_pre (L:=r15_Rels_L2 m) (st:=fun i=>r15_Rels_s2 a b i) (fun r=>some (R_r15_Rels r)) (d:=zeroRel) ha.len
    (fun i hi hj=>by
      have hht:=htRs_mem (getD_mem (d:=zeroRel) hi)
      rw[r15_Rels_l2]
      simp only[Rel.ids_eq,cndO_eq,Int.toNat_natCast,r15_SameRel]
      rw[if_pos (by simp;omega),if_pos (by simp;omega),obO_pos (by omega),obO_pos (by omega),obO_pos (by omega)]
      cases deq (a.getD i zeroRel) (b.getD i zeroRel)<;>simp)
    (fun i h=>by
      rw[r15_Rels_l2]
      simp only[cndO_eq,decide_eq_true_eq]
      by_cases h1 : (i:Int)<(a.length:Int)
      · rw[if_pos h1,if_neg (by omega)]
      · rw[if_neg h1])
    (fun i=>r15_Rels_a2_ret _ _ _ _) (fun i=>r15_Rels_a2_x0 _ _ _ _)
theorem okm_r15_Rels (m:Nat) (h_r15_Terms:FnOK 39 (Fm_r15_Terms m)) (h_r15_Rels:FnOK 41 (Fm_r15_Rels m)) (h_r15_SameTerm:FnOK 95 (Fm_r15_SameTerm m)) (h_r15_Aggs:FnOK 40 (Fm_r15_Aggs m)) (h_r15_SameRel:FnOK 10 (Fm_r15_SameRel m)) : FnOK 41 (Fm_r15_Rels (m+1)):=by
  intro args ob rs os h hob
  unfold Fm_r15_Rels at h
  split at h
  · simp only[Option.bind_eq_some_iff,Option.some.injEq,Prod.mk.injEq] at h
    obtain⟨a,e0,b,e1,rfl,rfl,rfl⟩:=h
    obtain rfl:=dL_eq e0
    obtain rfl:=dL_eq e1
    exact⟨fn_contractF (M:=(M_r15_Rels m)) rfl (tbl_ok (l1:=[(10,Fm_r15_SameRel m)]) (l2:=[]) (l3:=[]) (l4:=[]) (l5:=[]) ⟨h_r15_SameRel,trivial⟩ trivial trivial trivial trivial) Tryz.func41 (by kernel_rfl) N_r15_Rels 0 [.d] (fun hwf=>(r15_Rels_spec m a b (wfArg hwf (a:=.d (.v (.dat (U:=Un) Ty.rel a))) (List.mem_of_getElem? (i:=0) rfl)) (wfArg hwf (a:=.d (.v (.dat (U:=Un) Ty.rel b))) (List.mem_of_getElem? (i:=1) rfl)) (hob _ (List.mem_of_getElem? (i:=0) rfl)))),hasBody_of Tryz.func41 (by kernel_rfl) (by kernel_rfl)⟩
  · simp at h
def M_r15_SameTerm (m:Nat) : Mc Un:=mach (tbl [(39,Fm_r15_Terms m),(41,Fm_r15_Rels m)]) (tbl []) (tbl []) (tbl []) (tbl [])
def R_r15_SameTerm (r:Bool) : RF Un:=(A_r15_SameTerm r,O_r15_SameTerm r)
def N_r15_SameTerm : Nat→NS:=fun l=>(look l []).getD ⟨[],[],[],[],[],false⟩
def r15_SameTerm_fn (m:Nat) (a:Term) (b:Term) : Option (RF Un):=awf (M_r15_SameTerm m) N_r15_SameTerm (bodyOf Tryz.f95) (entry Tryz.f95.ntmps 0 [.d (.agg (enc Ty.term a)),.d (.agg (enc Ty.term b))]) (retF (M_r15_SameTerm m) Tryz.f95.results.toList [.d])
theorem r15_SameTerm_in (m:Nat) (a:Term) (b:Term) : r15_SameTerm_fn m a b=cndO (a.op == b.op) (cndO (andB [EK.int IntKind.i64,EK.str] (a.v.kind == b.v.kind) (andB [EK.str] (a.v.n == b.v.n) (andB [] (a.v.s.toList == b.v.s.toList) true))) (cndO (a.depth == b.depth) (cndO (a.at_ == b.at_) (cndO (a.name.toList == b.name.toList) (cndO (a.type == b.type) (obO ((2:Nat)*htTs a.kids+(1:Nat)<m) (cndO (r15_Terms a.kids b.kids) (obO ((2:Nat)*htRs a.sub+(1:Nat)<m) (some (R_r15_SameTerm (r15_Rels a.sub b.sub)))) (some (R_r15_SameTerm (false))))) (some (R_r15_SameTerm (false)))) (some (R_r15_SameTerm (false)))) (some (R_r15_SameTerm (false)))) (some (R_r15_SameTerm (false)))) (some (R_r15_SameTerm (false)))) (some (R_r15_SameTerm (false))):=by kernel_rfl
theorem r15_SameTerm_spec (m:Nat) (a b:Term) (_ha:WS .term a) (_hb:WS .term b) (h:2*a.ht<m+1) : r15_SameTerm_fn m a b=some (R_r15_SameTerm (r15_SameTerm a b)):=by
  have hk:htTs a.kids<a.ht∧htRs a.sub<a.ht:=by cases a;simp only[Term.ht,Term.kids_mk,Term.sub_mk];omega
  rw[r15_SameTerm_in,eqVal,obO_pos (by omega),obO_pos (by omega)]
  simp only[cndO_and R_r15_SameTerm]
  congr 2
  unfold r15_SameTerm r15_Terms r15_Rels
  rw[Bool.eq_iff_iff,term_deq]
  simp only[Bool.and_eq_true,beq_iff_eq,name_eq,deq_iff]
theorem okm_r15_SameTerm (m:Nat) (h_r15_Terms:FnOK 39 (Fm_r15_Terms m)) (h_r15_Rels:FnOK 41 (Fm_r15_Rels m)) (h_r15_SameTerm:FnOK 95 (Fm_r15_SameTerm m)) (h_r15_Aggs:FnOK 40 (Fm_r15_Aggs m)) (h_r15_SameRel:FnOK 10 (Fm_r15_SameRel m)) : FnOK 95 (Fm_r15_SameTerm (m+1)):=by
  intro args ob rs os h hob
  unfold Fm_r15_SameTerm at h
  split at h
  · simp only[Option.bind_eq_some_iff,Option.some.injEq,Prod.mk.injEq] at h
    obtain⟨a,e0,b,e1,rfl,rfl,rfl⟩:=h
    obtain rfl:=dS_eq e0
    obtain rfl:=dS_eq e1
    exact⟨fn_contractF (M:=(M_r15_SameTerm m)) rfl (tbl_ok (l1:=[(39,Fm_r15_Terms m),(41,Fm_r15_Rels m)]) (l2:=[]) (l3:=[]) (l4:=[]) (l5:=[]) ⟨h_r15_Terms,h_r15_Rels,trivial⟩ trivial trivial trivial trivial) Tryz.func95 (by kernel_rfl) N_r15_SameTerm 0 [.d] (fun hwf=>(r15_SameTerm_spec m a b (wfArg hwf (a:=.d (.agg (enc Ty.term a))) (List.mem_of_getElem? (i:=0) rfl)) (wfArg hwf (a:=.d (.agg (enc Ty.term b))) (List.mem_of_getElem? (i:=1) rfl)) (hob _ (List.mem_of_getElem? (i:=0) rfl)))),hasBody_of Tryz.func95 (by kernel_rfl) (by kernel_rfl)⟩
  · simp at h
def M_r15_Aggs (m:Nat) : Mc Un:=mach (tbl [(39,Fm_r15_Terms m)]) (tbl []) (tbl []) (tbl []) (tbl [])
def R_r15_Aggs (r:Bool) : RF Un:=(A_r15_Aggs r,O_r15_Aggs r)
def N_r15_Aggs : Nat→NS:=fun l=>(look l [(2,{ ts:=bl 61 51,bs:=bl 61 0,nm:=[] })]).getD ⟨[],[],[],[],[],false⟩
def r15_Aggs_s2 (a:List Agg) (b:List Agg) (v0:Int) : S Un:=(st 61 61 244 0 [(0,al .agg a),(1,al .agg b),(4,ab false),(5,ai v0)] [] [])
def r15_Aggs_B2 : Code:=sub (bodyOf Tryz.f40) [1,0,1,2,2]
def r15_Aggs_L2 (m:Nat) : S Un→Option (EX Un):=loopF (N_r15_Aggs 2) (fun s Q=>awf (M_r15_Aggs m) N_r15_Aggs r15_Aggs_B2 s Q)
def r15_Aggs_C2 (m:Nat) : Exit→S Un→Option (RF Un):=ctxF (M_r15_Aggs m) N_r15_Aggs (bodyOf Tryz.f40) [1,0,1,2] (retF (M_r15_Aggs m) Tryz.f40.results.toList [.d])
def r15_Aggs_fn (m:Nat) (a:List Agg) (b:List Agg) : Option (RF Un):=awf (M_r15_Aggs m) N_r15_Aggs (bodyOf Tryz.f40) (entry Tryz.f40.ntmps 0 [.d (.v (.dat (U:=Un) Ty.agg a)),.d (.v (.dat (U:=Un) Ty.agg b))]) (retF (M_r15_Aggs m) Tryz.f40.results.toList [.d])
theorem r15_Aggs_in (m:Nat) (a:List Agg) (b:List Agg) : r15_Aggs_fn m a b=(r15_Aggs_L2 m (r15_Aggs_s2 a b (0:Int))).bind (thenX (r15_Aggs_C2 m)):=by kernel_rfl
theorem r15_Aggs_l2 (m:Nat) (a:List Agg) (b:List Agg) (v0:Int) : r15_Aggs_L2 m (r15_Aggs_s2 a b v0)=cndO (decide (v0<(↑a.length:Int))) (cndO (decide (v0<(↑b.length:Int))) (obO (0≤v0∧v0<(↑a.length:Int)) (obO (0≤v0∧v0<(↑b.length:Int)) (cndO (!(Agg.name (a.getD v0.toNat zeroAgg)).toList == (Agg.name (b.getD v0.toNat zeroAgg)).toList) (some (.ret,(r15_Aggs_s2 a b v0))) (obO (0≤v0∧v0<(↑a.length:Int)) (obO (0≤v0∧v0<(↑b.length:Int)) (cndO (!Agg.distinct (a.getD v0.toNat zeroAgg) == Agg.distinct (b.getD v0.toNat zeroAgg)) (some (.ret,(r15_Aggs_s2 a b v0))) (obO (0≤v0∧v0<(↑a.length:Int)) (obO (0≤v0∧v0<(↑b.length:Int)) (obO ((2:Nat)*htTs (Agg.t (a.getD v0.toNat zeroAgg))+(1:Nat)<m) (cndO (!r15_Terms (Agg.t (a.getD v0.toNat zeroAgg)) (Agg.t (b.getD v0.toNat zeroAgg))) (some (.ret,(r15_Aggs_s2 a b v0))) (r15_Aggs_L2 m (r15_Aggs_s2 a b (IntKind.i64.wrap (v0+1)))))))))))))) (some (.exit 0,(r15_Aggs_s2 a b v0)))) (some (.exit 0,(r15_Aggs_s2 a b v0))):=(loopF_eq (N_r15_Aggs 2) r15_Aggs_B2 _).trans (by kernel_rfl)
theorem r15_Aggs_a2_ret (m:Nat) (a:List Agg) (b:List Agg) (v0:Int) : r15_Aggs_C2 m .ret (r15_Aggs_s2 a b v0)=some (R_r15_Aggs (false)):=by kernel_rfl
theorem r15_Aggs_a2_x0 (m:Nat) (a:List Agg) (b:List Agg) (v0:Int) : r15_Aggs_C2 m (.exit 0) (r15_Aggs_s2 a b v0)=some (R_r15_Aggs ((↑a.length:Int) == (↑b.length:Int))):=by kernel_rfl
theorem r15_Aggs_spec (m:Nat) (a b:List Agg) (ha:WL .agg a) (_hb:WL .agg b) (h:2*htAs a+1<m+1) : r15_Aggs_fn m a b=some (R_r15_Aggs (r15_Aggs a b)):=by
  rw[r15_Aggs_in]
  exact loop_pre (L:=r15_Aggs_L2 m) (st:=fun i=>r15_Aggs_s2 a b i) (fun r=>some (R_r15_Aggs r)) (d:=zeroAgg) ha.len
    (fun i hi hj=>by
      have hht:=htAs_mem (getD_mem (d:=zeroAgg) hi)
      have hxh:htTs (a.getD i zeroAgg).t<(a.getD i zeroAgg).ht:=by cases (a.getD i zeroAgg);simp only[Agg.ht,Agg.t_mk];omega
      rw[r15_Aggs_l2,agg_deqb]
      simp only[cndO_eq,Int.toNat_natCast,r15_Terms]
      rw[if_pos (by simp;omega),if_pos (by simp;omega),obO_pos (by omega),obO_pos (by omega),obO_pos (by omega),obO_pos (by omega),obO_pos (by omega),obO_pos (by omega),obO_pos (by omega)]
      cases ((a.getD i zeroAgg).name.toList == (b.getD i zeroAgg).name.toList)<;>cases ((a.getD i zeroAgg).distinct == (b.getD i zeroAgg).distinct)<;>cases deq (a.getD i zeroAgg).t (b.getD i zeroAgg).t<;>simp)
    (fun i h=>by
      rw[r15_Aggs_l2]
      simp only[cndO_eq,decide_eq_true_eq]
      by_cases h1 : (i:Int)<(a.length:Int)
      · rw[if_pos h1,if_neg (by omega)]
      · rw[if_neg h1])
    (fun i=>r15_Aggs_a2_ret _ _ _ _) (fun i=>r15_Aggs_a2_x0 _ _ _ _)
theorem okm_r15_Aggs (m:Nat) (h_r15_Terms:FnOK 39 (Fm_r15_Terms m)) (h_r15_Rels:FnOK 41 (Fm_r15_Rels m)) (h_r15_SameTerm:FnOK 95 (Fm_r15_SameTerm m)) (h_r15_Aggs:FnOK 40 (Fm_r15_Aggs m)) (h_r15_SameRel:FnOK 10 (Fm_r15_SameRel m)) : FnOK 40 (Fm_r15_Aggs (m+1)):=by
  intro args ob rs os h hob
  unfold Fm_r15_Aggs at h
  split at h
  · simp only[Option.bind_eq_some_iff,Option.some.injEq,Prod.mk.injEq] at h
    obtain⟨a,e0,b,e1,rfl,rfl,rfl⟩:=h
    obtain rfl:=dL_eq e0
    obtain rfl:=dL_eq e1
    exact⟨fn_contractF (M:=(M_r15_Aggs m)) rfl (tbl_ok (l1:=[(39,Fm_r15_Terms m)]) (l2:=[]) (l3:=[]) (l4:=[]) (l5:=[]) ⟨h_r15_Terms,trivial⟩ trivial trivial trivial trivial) Tryz.func40 (by kernel_rfl) N_r15_Aggs 0 [.d] (fun hwf=>(r15_Aggs_spec m a b (wfArg hwf (a:=.d (.v (.dat (U:=Un) Ty.agg a))) (List.mem_of_getElem? (i:=0) rfl)) (wfArg hwf (a:=.d (.v (.dat (U:=Un) Ty.agg b))) (List.mem_of_getElem? (i:=1) rfl)) (hob _ (List.mem_of_getElem? (i:=0) rfl)))),hasBody_of Tryz.func40 (by kernel_rfl) (by kernel_rfl)⟩
  · simp at h
def M_r15_SameRel (m:Nat) : Mc Un:=mach (tbl [(36,F_r15_Cols),(37,F_r15_Keys),(38,F_r03_List),(39,Fm_r15_Terms m),(40,Fm_r15_Aggs m),(41,Fm_r15_Rels m)]) (tbl []) (tbl []) (tbl []) (tbl [])
def R_r15_SameRel (r:Bool) : RF Un:=(A_r15_SameRel r,O_r15_SameRel r)
def N_r15_SameRel : Nat→NS:=fun l=>(look l []).getD ⟨[],[],[],[],[],false⟩
def r15_SameRel_fn (m:Nat) (a:Rel) (b:Rel) : Option (RF Un):=awf (M_r15_SameRel m) N_r15_SameRel (bodyOf Tryz.f10) (entry Tryz.f10.ntmps 0 [.d (.agg (enc Ty.rel a)),.d (.agg (enc Ty.rel b))]) (retF (M_r15_SameRel m) Tryz.f10.results.toList [.d])
theorem r15_SameRel_in (m:Nat) (a:Rel) (b:Rel) : r15_SameRel_fn m a b=cndO (a.op != b.op) (some (R_r15_SameRel (false))) (cndO (!a.table.toList == b.table.toList) (some (R_r15_SameRel (false))) (cndO (a.limit != b.limit) (some (R_r15_SameRel (false))) (cndO (a.skip != b.skip) (some (R_r15_SameRel (false))) (cndO (!a.all == b.all) (some (R_r15_SameRel (false))) (cndO (!r15_Cols a.cols b.cols) (some (R_r15_SameRel (false))) (cndO (!r15_Keys a.keys b.keys) (some (R_r15_SameRel (false))) (cndO (r03_List a.rows b.rows) (obO ((2:Nat)*htTs a.terms+(1:Nat)<m) (cndO (r15_Terms a.terms b.terms) (obO ((2:Nat)*htAs a.aggs+(1:Nat)<m) (cndO (r15_Aggs a.aggs b.aggs) (obO ((2:Nat)*htRs a.kids+(1:Nat)<m) (some (R_r15_SameRel (r15_Rels a.kids b.kids)))) (some (R_r15_SameRel (false))))) (some (R_r15_SameRel (false))))) (some (R_r15_SameRel (false)))))))))):=by kernel_rfl
theorem r15_SameRel_spec (m:Nat) (a b:Rel) (_ha:WS .rel a) (_hb:WS .rel b) (h:2*a.ht<m+1) : r15_SameRel_fn m a b=some (R_r15_SameRel (r15_SameRel a b)):=by
  have hk:htTs a.terms<a.ht∧htAs a.aggs<a.ht∧htRs a.kids<a.ht:=by cases a;simp only[Rel.ht,Rel.kids_mk,Rel.terms_mk,Rel.aggs_mk];omega
  rw[r15_SameRel_in,obO_pos (by omega),obO_pos (by omega),obO_pos (by omega)]
  simp only[bne,cndO_and R_r15_SameRel,cndO_nand R_r15_SameRel]
  congr 2
  unfold r15_SameRel r15_Terms r15_Rels r15_Aggs r15_Cols r15_Keys r03_List
  rw[Bool.eq_iff_iff,rel_deq]
  simp only[Bool.and_eq_true,beq_iff_eq,name_eq,deq_iff]
theorem okm_r15_SameRel (m:Nat) (h_r15_Terms:FnOK 39 (Fm_r15_Terms m)) (h_r15_Rels:FnOK 41 (Fm_r15_Rels m)) (h_r15_SameTerm:FnOK 95 (Fm_r15_SameTerm m)) (h_r15_Aggs:FnOK 40 (Fm_r15_Aggs m)) (h_r15_SameRel:FnOK 10 (Fm_r15_SameRel m)) : FnOK 10 (Fm_r15_SameRel (m+1)):=by
  intro args ob rs os h hob
  unfold Fm_r15_SameRel at h
  split at h
  · simp only[Option.bind_eq_some_iff,Option.some.injEq,Prod.mk.injEq] at h
    obtain⟨a,e0,b,e1,rfl,rfl,rfl⟩:=h
    obtain rfl:=dS_eq e0
    obtain rfl:=dS_eq e1
    exact⟨fn_contractF (M:=(M_r15_SameRel m)) rfl (tbl_ok (l1:=[(36,F_r15_Cols),(37,F_r15_Keys),(38,F_r03_List),(39,Fm_r15_Terms m),(40,Fm_r15_Aggs m),(41,Fm_r15_Rels m)]) (l2:=[]) (l3:=[]) (l4:=[]) (l5:=[]) ⟨ok_r15_Cols,ok_r15_Keys,ok_r03_List,h_r15_Terms,h_r15_Aggs,h_r15_Rels,trivial⟩ trivial trivial trivial trivial) Tryz.func10 (by kernel_rfl) N_r15_SameRel 0 [.d] (fun hwf=>(r15_SameRel_spec m a b (wfArg hwf (a:=.d (.agg (enc Ty.rel a))) (List.mem_of_getElem? (i:=0) rfl)) (wfArg hwf (a:=.d (.agg (enc Ty.rel b))) (List.mem_of_getElem? (i:=1) rfl)) (hob _ (List.mem_of_getElem? (i:=0) rfl)))),hasBody_of Tryz.func10 (by kernel_rfl) (by kernel_rfl)⟩
  · simp at h
theorem okAll_s15G : ∀ m,FnOK 39 (Fm_r15_Terms m)∧FnOK 41 (Fm_r15_Rels m)∧FnOK 95 (Fm_r15_SameTerm m)∧FnOK 40 (Fm_r15_Aggs m)∧FnOK 10 (Fm_r15_SameRel m)
  | 0=>by
    refine⟨?_,?_,?_,?_,?_⟩
    · intro args ob rs os h hob
      unfold Fm_r15_Terms at h
      split at h
      · simp only[Option.bind_eq_some_iff,Option.some.injEq,Prod.mk.injEq] at h
        obtain⟨_,_,_,_,rfl,_,_⟩:=h
        exact absurd (hob _ (List.mem_of_getElem? (i:=0) rfl)) (Nat.not_lt_zero _)
      · simp at h
    · intro args ob rs os h hob
      unfold Fm_r15_Rels at h
      split at h
      · simp only[Option.bind_eq_some_iff,Option.some.injEq,Prod.mk.injEq] at h
        obtain⟨_,_,_,_,rfl,_,_⟩:=h
        exact absurd (hob _ (List.mem_of_getElem? (i:=0) rfl)) (Nat.not_lt_zero _)
      · simp at h
    · intro args ob rs os h hob
      unfold Fm_r15_SameTerm at h
      split at h
      · simp only[Option.bind_eq_some_iff,Option.some.injEq,Prod.mk.injEq] at h
        obtain⟨_,_,_,_,rfl,_,_⟩:=h
        exact absurd (hob _ (List.mem_of_getElem? (i:=0) rfl)) (Nat.not_lt_zero _)
      · simp at h
    · intro args ob rs os h hob
      unfold Fm_r15_Aggs at h
      split at h
      · simp only[Option.bind_eq_some_iff,Option.some.injEq,Prod.mk.injEq] at h
        obtain⟨_,_,_,_,rfl,_,_⟩:=h
        exact absurd (hob _ (List.mem_of_getElem? (i:=0) rfl)) (Nat.not_lt_zero _)
      · simp at h
    · intro args ob rs os h hob
      unfold Fm_r15_SameRel at h
      split at h
      · simp only[Option.bind_eq_some_iff,Option.some.injEq,Prod.mk.injEq] at h
        obtain⟨_,_,_,_,rfl,_,_⟩:=h
        exact absurd (hob _ (List.mem_of_getElem? (i:=0) rfl)) (Nat.not_lt_zero _)
      · simp at h
  | m+1=>by
    have ih:=okAll_s15G m
    exact⟨okm_r15_Terms m ih.1 ih.2.1 ih.2.2.1 ih.2.2.2.1 ih.2.2.2.2,okm_r15_Rels m ih.1 ih.2.1 ih.2.2.1 ih.2.2.2.1 ih.2.2.2.2,okm_r15_SameTerm m ih.1 ih.2.1 ih.2.2.1 ih.2.2.2.1 ih.2.2.2.2,okm_r15_Aggs m ih.1 ih.2.1 ih.2.2.1 ih.2.2.2.1 ih.2.2.2.2,okm_r15_SameRel m ih.1 ih.2.1 ih.2.2.1 ih.2.2.2.1 ih.2.2.2.2⟩
def F_r15_SameRel : FnC Un:=fun args=>match args with
  | [x0,x1]=>(dS .rel x0).bind fun a=>(dS .rel x1).bind fun b=>some ([],A_r15_SameRel (r15_SameRel a b),O_r15_SameRel (r15_SameRel a b))
  | _=>none
theorem ok_r15_SameRel : FnOK 10 F_r15_SameRel:=by
  intro args ob rs os h hob
  unfold F_r15_SameRel at h
  split at h
  · simp only[Option.bind_eq_some_iff,Option.some.injEq,Prod.mk.injEq] at h
    obtain⟨a,e0,b,e1,rfl,rfl,rfl⟩:=h
    refine ((okAll_s15G (2*a.ht+1)).2.2.2.2) _ [2*a.ht<2*a.ht+1] _ _ (?_ : Fm_r15_SameRel (2*a.ht+1) _=some _) ?_
    · unfold Fm_r15_SameRel
      simp only[e0,e1,Option.bind_some]
    · intro p hp
      simp only[List.mem_cons,List.not_mem_nil,or_false] at hp
      subst hp
      exact Nat.lt_succ_self _
  · simp at h
end
end Go.Proofs.YtolbngdhgcbmgaaGreat.B
namespace Go.Proofs.YtolbngdhgcbmgaaGreat.B
open Go Go.RowKit
set_option maxRecDepth 100000
noncomputable section
attribute [local irreducible] awp ctxK itersK iterK retQ retGQ awf ctxF loopF
def M_r15_kids : Mc Un:=mach (tbl []) (tbl []) (tbl []) (tbl []) (tbl [])
def A_r15_kids (r:Int) : List (A Un):=[.c (.s (.int .i64 r))]
def O_r15_kids (_r:Int) : List (Ob Un):=[]
def R_r15_kids (r:Int) : RF Un:=(A_r15_kids r,O_r15_kids r)
def N_r15_kids : Nat→NS:=fun l=>(look l []).getD ⟨[],[],[],[],[],false⟩
def r15_kids_fn (op:Int) : Option (RF Un):=awf M_r15_kids N_r15_kids (bodyOf Tryz.f17) (entry Tryz.f17.ntmps 0 [.d (.v (.s (.int .i64 op)))]) (retF M_r15_kids Tryz.f17.results.toList [.d])
def r15_kids_t1 (op:Int) : Option (RF Un):=cndO (op == 5) (cndO (op == 5) (some (R_r15_kids ((2:Int)))) (some (R_r15_kids ((-1:Int))))) (cndO (op == 6) (cndO (op == 6) (some (R_r15_kids ((2:Int)))) (some (R_r15_kids ((-1:Int))))) (cndO (op == 9) (cndO (op == 9) (some (R_r15_kids ((2:Int)))) (some (R_r15_kids ((-1:Int))))) (cndO (op == 10) (cndO (op == 10) (some (R_r15_kids ((2:Int)))) (some (R_r15_kids ((-1:Int))))) (cndO (op == 11) (some (R_r15_kids ((2:Int)))) (some (R_r15_kids ((-1:Int))))))))
def r15_kids_t2 (op:Int) : Option (RF Un):=cndO (op == 3) (cndO (op == 3) (some (R_r15_kids ((1:Int)))) (r15_kids_t1 op)) (cndO (op == 4) (cndO (op == 4) (some (R_r15_kids ((1:Int)))) (r15_kids_t1 op)) (cndO (op == 7) (cndO (op == 7) (some (R_r15_kids ((1:Int)))) (r15_kids_t1 op)) (cndO (op == 8) (cndO (op == 8) (some (R_r15_kids ((1:Int)))) (r15_kids_t1 op)) (cndO (op == 12) (cndO (op == 12) (some (R_r15_kids ((1:Int)))) (r15_kids_t1 op)) (cndO (op == 13) (some (R_r15_kids ((1:Int)))) (r15_kids_t1 op))))))
theorem r15_kids_in (op:Int) : r15_kids_fn op=cndO (op == 1) (cndO (op == 1) (some (R_r15_kids ((0:Int)))) (r15_kids_t2 op)) (cndO (op == 2) (some (R_r15_kids ((0:Int)))) (r15_kids_t2 op)):=by kernel_rfl
def r15_kids (op:Int) : Int:=kidsN op
def r15_Width (r:Rel) : Int:=widthR r
theorem r15_kids_eq (op:Int) : r15_kids op=kidsN op:=by unfold r15_kids;rfl
theorem r15_Width_eq (r:Rel) : r15_Width r=widthR r:=by unfold r15_Width;rfl
theorem cndO_ou1 {β:Type} (a b:Bool) (x y:Option β) : cndO a (cndO a x y) (cndO b x y)=cndO (a || b) x y:=by cases a<;>cases b<;>rfl
theorem r15_kids_spec (op:Int) (_h:WI op) : r15_kids_fn op=some (R_r15_kids (r15_kids op)):=by
  have e:∀ x : Option (RF Un),(cndO (op == 11) (cndO (op == 11) (some (R_r15_kids ((2:Int)))) x) x)=cndO (op == 11) (some (R_r15_kids ((2:Int)))) x:=fun x=>by cases op == 11<;>rfl
  rw[r15_kids_in]
  unfold r15_kids r15_kids_t2 r15_kids_t1 kidsN
  simp only[e,cndO_ou1]
  simp only[cndO_eq,Bool.or_eq_true,beq_iff_eq]
  by_cases h1 : op=1∨op=2
  · rw[if_pos h1,if_pos h1]
  rw[if_neg h1,if_neg h1]
  by_cases h2 : op=3∨op=4∨op=7∨op=8∨op=12∨op=13
  · rw[if_pos h2,if_pos h2]
  rw[if_neg h2,if_neg h2]
  by_cases h3 : op=5∨op=6∨op=9∨op=10∨op=11
  · rw[if_pos h3,if_pos h3]
  rw[if_neg h3,if_neg h3]
def F_r15_kids : FnC Un:=fun args=>match args with
  | [x0]=>(dI .i64 x0).bind fun op=>some ([],A_r15_kids (r15_kids op),O_r15_kids (r15_kids op))
  | _=>none
theorem ok_r15_kids : FnOK 17 F_r15_kids:=by
  intro args ob rs os h hob
  unfold F_r15_kids at h
  split at h
  · simp only[Option.bind_eq_some_iff,Option.some.injEq,Prod.mk.injEq] at h
    obtain⟨op,e0,rfl,rfl,rfl⟩:=h
    obtain rfl:=dI_eq e0
    exact⟨fn_contractF (M:=M_r15_kids) rfl (tbl_ok (l1:=[]) (l2:=[]) (l3:=[]) (l4:=[]) (l5:=[]) trivial trivial trivial trivial trivial) Tryz.func17 (by kernel_rfl) N_r15_kids 0 [.d] (fun hwf=>(r15_kids_spec op (wfArg hwf (a:=.d (.v (.s (.int .i64 op)))) (List.mem_of_getElem? (i:=0) rfl)))),hasBody_of Tryz.func17 (by kernel_rfl) (by kernel_rfl)⟩
  · simp at h
def A_r15_Width (r:Int) : List (A Un):=[.c (.s (.int .i64 r))]
def O_r15_Width (_r:Int) : List (Ob Un):=[]
def Fm_r15_Width (m:Nat) : FnC Un:=fun args=>match args with
  | [x0]=>(dS .rel x0).bind fun r=>some ([r.ht<m],A_r15_Width (r15_Width r),O_r15_Width (r15_Width r))
  | _=>none
def M_r15_Width (m:Nat) : Mc Un:=mach (tbl [(17,F_r15_kids),(19,Fm_r15_Width m)]) (tbl []) (tbl []) (tbl []) (tbl [])
def R_r15_Width (r:Int) : RF Un:=(A_r15_Width r,O_r15_Width r)
def N_r15_Width : Nat→NS:=fun l=>(look l []).getD ⟨[],[],[],[],[],false⟩
def r15_Width_c1 (r:Rel):=r15_Width (Rel.mk (Rel.op (r.kids.getD 0 zeroRel)) (Rel.table (r.kids.getD 0 zeroRel)) (Rel.cols (r.kids.getD 0 zeroRel)) (Rel.kids (r.kids.getD 0 zeroRel)) (Rel.terms (r.kids.getD 0 zeroRel)) (Rel.aggs (r.kids.getD 0 zeroRel)) (Rel.keys (r.kids.getD 0 zeroRel)) (Rel.limit (r.kids.getD 0 zeroRel)) (Rel.skip (r.kids.getD 0 zeroRel)) (Rel.all (r.kids.getD 0 zeroRel)) (Rel.rows (r.kids.getD 0 zeroRel)))
def r15_Width_fn (m:Nat) (r:Rel) : Option (RF Un):=awf (M_r15_Width m) N_r15_Width (bodyOf Tryz.f19) (entry Tryz.f19.ntmps 0 [.d (.agg (enc Ty.rel r))]) (retF (M_r15_Width m) Tryz.f19.results.toList [.d])
def r15_Width_t1 (m:Nat) (r:Rel) : Option (RF Un):=obO ((0:Int)≤(0:Int)∧(0:Int)<(↑r.kids.length:Int)) (obO ((Rel.ids (r.kids.getD 0 zeroRel)).ht<m) (obO ((0:Int)≤(1:Int)∧(1:Int)<(↑r.kids.length:Int)) (obO ((Rel.ids (r.kids.getD 1 zeroRel)).ht<m) (some (R_r15_Width (IntKind.i64.wrap (r15_Width (Rel.ids (r.kids.getD 0 zeroRel))+r15_Width (Rel.ids (r.kids.getD 1 zeroRel)))))))))
def r15_Width_t2 (m:Nat) (r:Rel) : Option (RF Un):=cndO (r.op == 7) (some (R_r15_Width (IntKind.i64.wrap ((↑r.terms.length:Int)+(↑r.aggs.length:Int))))) (obO ((0:Int)≤(0:Int)∧(0:Int)<(↑r.kids.length:Int)) (obO ((Rel.ids (r.kids.getD 0 zeroRel)).ht<m) (some (R_r15_Width (r15_Width_c1 r)))))
def r15_Width_t3 (m:Nat) (r:Rel) : Option (RF Un):=cndO (r.op == 4) (some (R_r15_Width ((↑r.terms.length:Int)))) (cndO (r.op == 5) (cndO (r.op == 5) (r15_Width_t1 m r) (r15_Width_t2 m r)) (cndO (r.op == 6) (r15_Width_t1 m r) (r15_Width_t2 m r)))
theorem r15_Width_in (m:Nat) (r:Rel) : r15_Width_fn m r=cndO (decide (r15_kids r.op<0)) (some (R_r15_Width ((0:Int)))) (cndO (decide ((↑r.kids.length:Int)<r15_kids r.op)) (some (R_r15_Width ((0:Int)))) (cndO (r.op == 1) (cndO (r.op == 1) (some (R_r15_Width ((↑r.cols.length:Int)))) (r15_Width_t3 m r)) (cndO (r.op == 2) (some (R_r15_Width ((↑r.cols.length:Int)))) (r15_Width_t3 m r)))):=by kernel_rfl
theorem r15_Width_spec (m:Nat) (r:Rel) (_hr:WS .rel r) (hm:r.ht<m+1) : r15_Width_fn m r=some (R_r15_Width (r15_Width r)):=by
  have k0:0<r.kids.length→(r.kids.getD 0 zeroRel).ht<m:=fun h=>by have:=Rel.ht_kid (getD_mem (d:=zeroRel) (l:=r.kids) h);omega
  have k1:1<r.kids.length→(r.kids.getD 1 zeroRel).ht<m:=fun h=>by have:=Rel.ht_kid (getD_mem (d:=zeroRel) (l:=r.kids) h);omega
  rw[r15_Width_in]
  unfold r15_Width_t3
  rw[cndO_ou1,cndO_ou1,r15_Width_eq r,widthR_eq r]
  simp only[cndO_eq,beq_iff_eq,decide_eq_true_eq,r15_kids_eq,Bool.or_eq_true]
  by_cases c1 : kidsN r.op<0
  · rw[if_pos c1,if_pos (.inl c1)]
  by_cases c2 : (r.kids.length:Int)<kidsN r.op
  · rw[if_neg c1,if_pos c2,if_pos (.inr c2)]
  rw[if_neg c1,if_neg c2,if_neg (show ¬ (kidsN r.op<0∨(r.kids.length:Int)<kidsN r.op) by omega)]
  by_cases h1 : r.op=1∨r.op=2
  · rw[if_pos h1,if_pos h1]
  rw[if_neg h1,if_neg h1]
  have hn:=kidsN_one c1 h1
  by_cases h4 : r.op=4
  · rw[if_pos h4,if_pos h4]
  rw[if_neg h4,if_neg h4]
  have hl0:0<r.kids.length:=by omega
  have kk0:=k0 hl0
  have g0:=widthsR_get r.kids 0 hl0
  by_cases h56 : r.op=5∨r.op=6
  · have ht:=kidsN_two h56
    have hl1:1<r.kids.length:=by omega
    have kk1:=k1 hl1
    have g1:=widthsR_get r.kids 1 hl1
    unfold r15_Width_t1
    rw[if_pos h56,if_neg (by omega),if_pos h56,g0,g1]
    simp only[Rel.ids_eq,r15_Width_eq]
    rw[obO_pos (show (0:Int)≤0∧(0:Int)<(r.kids.length:Int) by omega),obO_pos kk0,obO_pos (show (0:Int)≤1∧(1:Int)<(r.kids.length:Int) by omega),obO_pos kk1]
  · rw[if_neg h56]
    unfold r15_Width_t2
    rw[cndO_eq]
    by_cases h7 : r.op=7
    · rw[if_pos (by simpa using h7),if_pos h7]
    · rw[if_neg (by simpa using h7),if_neg h7,if_neg h56,g0]
      simp only[r15_Width_c1,rel_eta,Rel.ids_eq,r15_Width_eq]
      rw[obO_pos (by omega),obO_pos kk0]
theorem okm_r15_Width (m:Nat) (h_r15_Width:FnOK 19 (Fm_r15_Width m)) : FnOK 19 (Fm_r15_Width (m+1)):=by
  intro args ob rs os h hob
  unfold Fm_r15_Width at h
  split at h
  · simp only[Option.bind_eq_some_iff,Option.some.injEq,Prod.mk.injEq] at h
    obtain⟨r,e0,rfl,rfl,rfl⟩:=h
    obtain rfl:=dS_eq e0
    exact⟨fn_contractF (M:=(M_r15_Width m)) rfl (tbl_ok (l1:=[(17,F_r15_kids),(19,Fm_r15_Width m)]) (l2:=[]) (l3:=[]) (l4:=[]) (l5:=[]) ⟨ok_r15_kids,h_r15_Width,trivial⟩ trivial trivial trivial trivial) Tryz.func19 (by kernel_rfl) N_r15_Width 0 [.d] (fun hwf=>(r15_Width_spec m r (wfArg hwf (a:=.d (.agg (enc Ty.rel r))) (List.mem_of_getElem? (i:=0) rfl)) (hob _ (List.mem_of_getElem? (i:=0) rfl)))),hasBody_of Tryz.func19 (by kernel_rfl) (by kernel_rfl)⟩
  · simp at h
theorem okAll_r15widthG : ∀ m,FnOK 19 (Fm_r15_Width m)
  | 0=>by
    skip
    intro args ob rs os h hob
    unfold Fm_r15_Width at h
    split at h
    · simp only[Option.bind_eq_some_iff,Option.some.injEq,Prod.mk.injEq] at h
      obtain⟨_,_,rfl,_,_⟩:=h
      exact absurd (hob _ (List.mem_of_getElem? (i:=0) rfl)) (Nat.not_lt_zero _)
    · simp at h
  | m+1=>by
    have ih:=okAll_r15widthG m
    exact okm_r15_Width m ih
def F_r15_Width : FnC Un:=fun args=>match args with
  | [x0]=>(dS .rel x0).bind fun r=>some ([],A_r15_Width (r15_Width r),O_r15_Width (r15_Width r))
  | _=>none
theorem ok_r15_Width : FnOK 19 F_r15_Width:=by
  intro args ob rs os h hob
  unfold F_r15_Width at h
  split at h
  · simp only[Option.bind_eq_some_iff,Option.some.injEq,Prod.mk.injEq] at h
    obtain⟨r,e0,rfl,rfl,rfl⟩:=h
    refine ((okAll_r15widthG (r.ht+1))) _ [r.ht<r.ht+1] _ _ (?_ : Fm_r15_Width (r.ht+1) _=some _) ?_
    · unfold Fm_r15_Width
      simp only[e0,Option.bind_some]
    · intro p hp
      simp only[List.mem_cons,List.not_mem_nil,or_false] at hp
      subst hp
      exact Nat.lt_succ_self _
  · simp at h
end
end Go.Proofs.YtolbngdhgcbmgaaGreat.B
