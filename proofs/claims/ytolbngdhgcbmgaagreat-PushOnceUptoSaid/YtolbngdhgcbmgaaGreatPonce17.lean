/- Part 17 of the proof: Sref03. -/
import Derived.Test.YtolbngdhgcbmgaaGreatPonce16
namespace Go.Proofs.YtolbngdhgcbmgaaGreat.B
open Go Go.RowKit
set_option maxRecDepth 100000
noncomputable section
attribute [local irreducible] awp ctxK itersK iterK retQ retGQ
def M_r02_In : Mc Un:=mach (tbl []) (tbl []) (tbl []) (tbl []) (tbl [])
def N_r02_In : Nat→NS:=fun l=>(look l []).getD ⟨[],[],[],[],[],false⟩
def A_r02_In (r:Bool) : List (A Un):=[.c (.s (.bool r))]
def O_r02_In (_r:Bool) : List (Ob Un):=[]
theorem r02_In_in (n:Int) (K:List (A Un)→List (Ob Un)→Prop) :
    awp M_r02_In N_r02_In (bodyOf Tryz.f169) (entry Tryz.f169.ntmps 0 [.d (.v (.s (.int .i64 n)))]) (retQ M_r02_In Tryz.f169.results.toList [.d] K) =
(cnd (decide (n≥(-1000000000000000:Int)))
 (K (A_r02_In (decide (n≤(1000000000000000:Int)))) (O_r02_In (decide (n≤(1000000000000000:Int)))))
 (K (A_r02_In (false)) (O_r02_In (false)))):=by kernel_rfl
def r02_In_fn (n:Int) : Option (Bool) :=
  if (decide (n≥(-1000000000000000:Int)))=true then
   some (decide (n≤(1000000000000000:Int)))
  else
   some (false)
theorem r02_In_run {n:Int} {r:Bool} (h:r02_In_fn n=some r) : Runs (awp M_r02_In N_r02_In (bodyOf Tryz.f169) (entry Tryz.f169.ntmps 0 [.d (.v (.s (.int .i64 n)))]) (retQ M_r02_In Tryz.f169.results.toList [.d] fun rs os=>rs=A_r02_In r∧os=O_r02_In r)):=by
  constructor
  rw[r02_In_in n (fun rs os=>rs=A_r02_In r∧os=O_r02_In r)]
  unfold r02_In_fn at h
  rcases ite_some h with ⟨c1,h2⟩ | ⟨c1,h2⟩
  · cases h2
    exact (cnd_t c1 ⟨rfl,rfl⟩)
  · cases h2
    exact (cnd_f (bfalse c1) ⟨rfl,rfl⟩)
def r02_In (n:Int) : Bool :=
  if (decide (n≥(-1000000000000000:Int)))=true then
   (decide (n≤(1000000000000000:Int)))
  else
   (false)
theorem r02_In_eq (n:Int) : r02_In_fn n=some (r02_In n):=by unfold r02_In_fn r02_In;repeat (first | rfl | split)
def F_r02_In : FnC Un:=fun args=>match args with
  | [x0]=>(dI .i64 x0).bind fun n=>some ([],A_r02_In (r02_In n),O_r02_In (r02_In n))
  | _=>none
theorem ok_r02_In : FnOK 169 F_r02_In:=by
  intro args ob rs os h hob
  unfold F_r02_In at h
  split at h
  · simp only[Option.bind_eq_some_iff,Option.some.injEq,Prod.mk.injEq] at h
    obtain⟨n,e0,rfl,rfl,rfl⟩:=h
    obtain rfl:=dI_eq e0
    exact⟨fn_contract (M:=M_r02_In) rfl (tbl_ok (l1:=[]) (l2:=[]) (l3:=[]) (l4:=[]) (l5:=[]) trivial trivial trivial trivial trivial) Tryz.func169 (by kernel_rfl) N_r02_In 0 [.d] (fun hwf=>r02_In_run (r02_In_eq n)),hasBody_of Tryz.func169 (by kernel_rfl) (by kernel_rfl)⟩
  · simp at h
@[simp] theorem r02_In_spec (n:Int) : r02_In n=inN n:=by
  unfold r02_In inN
  by_cases h : n≥-1000000000000000
  · rw[if_pos (decide_eq_true h)];congr 1;simp only[eq_iff_iff];omega
  · rw[if_neg (by simpa using h)];symm;simp only[decide_eq_false_iff_not];omega
def M_r03_ints : Mc Un:=mach (tbl []) (tbl []) (tbl []) (tbl []) (tbl [])
def N_r03_ints : Nat→NS:=fun l=>(look l []).getD ⟨[],[],[],[],[],false⟩
def A_r03_ints (r:Int) : List (A Un):=[.c (.s (.int .i64 r))]
def O_r03_ints (_r:Int) : List (Ob Un):=[]
theorem r03_ints_in (a:Int) (b:Int) (K:List (A Un)→List (Ob Un)→Prop) :
    awp M_r03_ints N_r03_ints (bodyOf Tryz.f139) (entry Tryz.f139.ntmps 0 [.d (.v (.s (.int .i64 a))),.d (.v (.s (.int .i64 b)))]) (retQ M_r03_ints Tryz.f139.results.toList [.d] K) =
(cnd (decide (a<b))
 (K (A_r03_ints ((-1:Int))) (O_r03_ints ((-1:Int))))
 (cnd (decide (a > b))
  (K (A_r03_ints ((1:Int))) (O_r03_ints ((1:Int))))
  (K (A_r03_ints ((0:Int))) (O_r03_ints ((0:Int)))))):=by kernel_rfl
def r03_ints_fn (a:Int) (b:Int) : Option (Int) :=
  if (decide (a<b))=true then
   some ((-1:Int))
  else
   if (decide (a > b))=true then
    some ((1:Int))
   else
    some ((0:Int))
theorem r03_ints_run {a:Int} {b:Int} {r:Int} (h:r03_ints_fn a b=some r) : Runs (awp M_r03_ints N_r03_ints (bodyOf Tryz.f139) (entry Tryz.f139.ntmps 0 [.d (.v (.s (.int .i64 a))),.d (.v (.s (.int .i64 b)))]) (retQ M_r03_ints Tryz.f139.results.toList [.d] fun rs os=>rs=A_r03_ints r∧os=O_r03_ints r)):=by
  constructor
  rw[r03_ints_in a b (fun rs os=>rs=A_r03_ints r∧os=O_r03_ints r)]
  unfold r03_ints_fn at h
  rcases ite_some h with ⟨c1,h2⟩ | ⟨c1,h2⟩
  · cases h2
    exact (cnd_t c1 ⟨rfl,rfl⟩)
  · rcases ite_some h2 with ⟨c3,h4⟩ | ⟨c3,h4⟩
    · cases h4
      exact (cnd_f (bfalse c1) (cnd_t c3 ⟨rfl,rfl⟩))
    · cases h4
      exact (cnd_f (bfalse c1) (cnd_f (bfalse c3) ⟨rfl,rfl⟩))
def r03_ints (a:Int) (b:Int) : Int :=
  if (decide (a<b))=true then
   ((-1:Int))
  else
   if (decide (a > b))=true then
    ((1:Int))
   else
    ((0:Int))
theorem r03_ints_eq (a:Int) (b:Int) : r03_ints_fn a b=some (r03_ints a b):=by unfold r03_ints_fn r03_ints;repeat (first | rfl | split)
def F_r03_ints : FnC Un:=fun args=>match args with
  | [x0,x1]=>(dI .i64 x0).bind fun a=>(dI .i64 x1).bind fun b=>some ([],A_r03_ints (r03_ints a b),O_r03_ints (r03_ints a b))
  | _=>none
theorem ok_r03_ints : FnOK 139 F_r03_ints:=by
  intro args ob rs os h hob
  unfold F_r03_ints at h
  split at h
  · simp only[Option.bind_eq_some_iff,Option.some.injEq,Prod.mk.injEq] at h
    obtain⟨a,e0,b,e1,rfl,rfl,rfl⟩:=h
    obtain rfl:=dI_eq e0
    obtain rfl:=dI_eq e1
    exact⟨fn_contract (M:=M_r03_ints) rfl (tbl_ok (l1:=[]) (l2:=[]) (l3:=[]) (l4:=[]) (l5:=[]) trivial trivial trivial trivial trivial) Tryz.func139 (by kernel_rfl) N_r03_ints 0 [.d] (fun hwf=>r03_ints_run (r03_ints_eq a b)),hasBody_of Tryz.func139 (by kernel_rfl) (by kernel_rfl)⟩
  · simp at h
@[simp] theorem r03_ints_spec (a b:Int) : r03_ints a b=cmpI a b:=by
  unfold r03_ints cmpI;simp only[decide_eq_true_eq]
def M_r03_texts : Mc Un:=mach (tbl [(139,F_r03_ints)]) (tbl []) (tbl []) (tbl []) (tbl [])
def N_r03_texts : Nat→NS:=fun l=>(look l [(2,{ ts:=[true,true,false,false,true,true,false,false,false,false,false,false,false,false,false,false,false,false,false,false,false,false,false,false,false,false,false,false,false,false,false,false,false,false,false,false,false,false,false],bs:=[false,false,false,false,false,false,false,false,false,false,false,false,false,false,false,false,false,false,false,false,false,false,false,false,false,false,false,false,false,false,false,false,false,false,false,false,false,false,false],nm:=[],gb:=[],gs:=[] })]).getD ⟨[],[],[],[],[],false⟩
def A_r03_texts (r:Int) : List (A Un):=[.c (.s (.int .i64 r))]
def O_r03_texts (_r:Int) : List (Ob Un):=[]
def r03_texts_s2 (a:ByteArray) (b:ByteArray) (v0:Int) : S Un:=(st 39 39 156 0 [(0,AV.one (A.c (C.s (Value.string a)))),(1,AV.one (A.c (C.s (Value.string b)))),(4,AV.one (A.c (C.s (Value.int IntKind.i64 (0:Int))))),(5,AV.one (A.c (C.s (Value.int IntKind.i64 v0))))] [] [])
def r03_texts_e2_ret (a:ByteArray) (b:ByteArray) (v0:Int) (v1:Int) : S Un:=(st 39 39 156 0 [(0,AV.one (A.c (C.s (Value.string a)))),(1,AV.one (A.c (C.s (Value.string b)))),(4,AV.one (A.c (C.s (Value.int IntKind.i64 v1)))),(5,AV.one (A.c (C.s (Value.int IntKind.i64 v0))))] [] [])
theorem r03_texts_in (a:ByteArray) (b:ByteArray) (K:List (A Un)→List (Ob Un)→Prop) :
    awp M_r03_texts N_r03_texts (bodyOf Tryz.f167) (entry Tryz.f167.ntmps 0 [.d (.v (cs a)),.d (.v (cs b))]) (retQ M_r03_texts Tryz.f167.results.toList [.d] K) =
(itersK (N_r03_texts 2) (awp M_r03_texts N_r03_texts (sub (bodyOf Tryz.f167) [1,0,1,2,2])) (ctxK M_r03_texts N_r03_texts (bodyOf Tryz.f167) [1,0,1,2] (retQ M_r03_texts Tryz.f167.results.toList [.d] K)) (r03_texts_s2 a b (0:Int))):=by kernel_rfl
theorem r03_texts_l2 (a:ByteArray) (b:ByteArray) (v0:Int) (k:Nat) (Q:Exit→S Un→Prop) :
    iterK (N_r03_texts 2) (awp M_r03_texts N_r03_texts (sub (bodyOf Tryz.f167) [1,0,1,2,2])) Q (k+1) (r03_texts_s2 a b v0) =
(cnd (decide (v0<(↑a.size:Int)))
 (cnd (decide (v0<(↑b.size:Int)))
  (((0:Int)≤v0∧v0<(↑a.size:Int)) ∧
  (((0:Int)≤v0∧v0<(↑b.size:Int)) ∧
  (cnd ((↑(a.toList.getD v0.toNat (0:UInt8)).toNat:Int) != (↑(b.toList.getD v0.toNat (0:UInt8)).toNat:Int))
   (((0:Int)≤v0∧v0<(↑a.size:Int)) ∧
   (((0:Int)≤v0∧v0<(↑b.size:Int)) ∧
   (Q .ret (r03_texts_e2_ret a b v0 (r03_ints (IntKind.i64.wrap (↑(a.toList.getD v0.toNat (0:UInt8)).toNat:Int)) (IntKind.i64.wrap (↑(b.toList.getD v0.toNat (0:UInt8)).toNat:Int)))))))
   (iterK (N_r03_texts 2) (awp M_r03_texts N_r03_texts (sub (bodyOf Tryz.f167) [1,0,1,2,2])) Q k (r03_texts_s2 a b (IntKind.i64.wrap (v0+(1:Int))))))))
  (Q (.exit 0) (r03_texts_s2 a b v0)))
 (Q (.exit 0) (r03_texts_s2 a b v0))):=by kernel_rfl
theorem r03_texts_a2_ret (a:ByteArray) (b:ByteArray) (v0:Int) (v1:Int) (K:List (A Un)→List (Ob Un)→Prop) :
    ctxK M_r03_texts N_r03_texts (bodyOf Tryz.f167) [1,0,1,2] (retQ M_r03_texts Tryz.f167.results.toList [.d] K) .ret (r03_texts_e2_ret a b v0 v1) =
(K (A_r03_texts (v1)) (O_r03_texts (v1))):=by kernel_rfl
theorem r03_texts_a2_x0 (a:ByteArray) (b:ByteArray) (v0:Int) (K:List (A Un)→List (Ob Un)→Prop) :
    ctxK M_r03_texts N_r03_texts (bodyOf Tryz.f167) [1,0,1,2] (retQ M_r03_texts Tryz.f167.results.toList [.d] K) (.exit 0) (r03_texts_s2 a b v0) =
(K (A_r03_texts (r03_ints (↑a.size:Int) (↑b.size:Int))) (O_r03_texts (r03_ints (↑a.size:Int) (↑b.size:Int)))):=by kernel_rfl
def r03_texts_S2 (a:ByteArray) (b:ByteArray) (v:Int) : Option ((Int) ⊕ ((Int×Int) ⊕ (Int))) :=
  if (decide (v<(↑a.size:Int)))=true then
   if (decide (v<(↑b.size:Int)))=true then
    if (0:Int)≤v∧v<(↑a.size:Int) then
     if (0:Int)≤v∧v<(↑b.size:Int) then
      if ((↑(a.toList.getD v.toNat (0:UInt8)).toNat:Int) != (↑(b.toList.getD v.toNat (0:UInt8)).toNat:Int))=true then
       if (0:Int)≤v∧v<(↑a.size:Int) then
        if (0:Int)≤v∧v<(↑b.size:Int) then
         some (.inr (.inl (v,(r03_ints (IntKind.i64.wrap (↑(a.toList.getD v.toNat (0:UInt8)).toNat:Int)) (IntKind.i64.wrap (↑(b.toList.getD v.toNat (0:UInt8)).toNat:Int))))))
        else none
       else none
      else
       some (.inl (IntKind.i64.wrap (v+(1:Int))))
     else none
    else none
   else
    some (.inr (.inr v))
  else
   some (.inr (.inr v))
def r03_texts_L2 (a:ByteArray) (b:ByteArray) (v:Int) : Option ((Int×Int) ⊕ (Int)):=loopO (r03_texts_S2 a b) v
theorem r03_texts_L2_eq (a:ByteArray) (b:ByteArray) (v:Int) : r03_texts_L2 a b v=stepB (r03_texts_L2 a b) (r03_texts_S2 a b v):=loopO_eq _ _
def r03_texts_Q2 (a:ByteArray) (b:ByteArray) (r:(Int×Int) ⊕ (Int)) (Q:Exit→S Un→Prop) : Prop:=match r with | .inl x=>Q .ret (r03_texts_e2_ret a b x.1 x.2) | .inr x=>Q (.exit 0) (r03_texts_s2 a b x)
theorem r03_texts_Q2_ret {a:ByteArray} {b:ByteArray} {x:Int×Int} {Q:Exit→S Un→Prop} (h:Q .ret (r03_texts_e2_ret a b x.1 x.2)) : r03_texts_Q2 a b (.inl x) Q:=h
theorem r03_texts_Q2_x0 {a:ByteArray} {b:ByteArray} {x:Int} {Q:Exit→S Un→Prop} (h:Q (.exit 0) (r03_texts_s2 a b x)) : r03_texts_Q2 a b (.inr x) Q:=h
theorem r03_texts_L2_run {a:ByteArray} {b:ByteArray} {v:Int} {r:(Int×Int) ⊕ (Int)} (h:r03_texts_L2 a b v=some r) (Q:Exit→S Un→Prop) (hQ:r03_texts_Q2 a b r Q) : itersK (N_r03_texts 2) (awp M_r03_texts N_r03_texts (sub (bodyOf Tryz.f167) [1,0,1,2,2])) Q (r03_texts_s2 a b v):=by
  refine @loop_run _ _ (r03_texts_S2 a b) (fun v=>itersK (N_r03_texts 2) (awp M_r03_texts N_r03_texts (sub (bodyOf Tryz.f167) [1,0,1,2,2])) Q (r03_texts_s2 a b v)) (fun r=>r03_texts_Q2 a b r Q) ?_ v r h hQ
  intro v o h hI
  unfold r03_texts_S2 at h
  rcases ite_some h with ⟨c1,h2⟩ | ⟨c1,h2⟩
  · rcases ite_some h2 with ⟨c3,h4⟩ | ⟨c3,h4⟩
    · obtain⟨c5,h6⟩:=ob_some h4
      obtain⟨c7,h8⟩:=ob_some h6
      rcases ite_some h8 with ⟨c9,h10⟩ | ⟨c9,h10⟩
      · obtain⟨c11,h12⟩:=ob_some h10
        obtain⟨c13,h14⟩:=ob_some h12
        cases h14
        exact itersK_mk 1 (mpr (r03_texts_l2 a b v 0 Q) (cnd_t c1 (cnd_t c3 (And.intro c5 (And.intro c7 (cnd_t c9 (And.intro c11 (And.intro c13 hI))))))))
      · cases h10
        obtain⟨k15,hk16⟩:=itersK_get hI
        exact itersK_mk (k15+1) (mpr (r03_texts_l2 a b v k15 Q) (cnd_t c1 (cnd_t c3 (And.intro c5 (And.intro c7 (cnd_f (bfalse c9) hk16))))))
    · cases h4
      exact itersK_mk 1 (mpr (r03_texts_l2 a b v 0 Q) (cnd_t c1 (cnd_f (bfalse c3) hI)))
  · cases h2
    exact itersK_mk 1 (mpr (r03_texts_l2 a b v 0 Q) (cnd_f (bfalse c1) hI))
def r03_texts_fn (a:ByteArray) (b:ByteArray) : Option (Int) :=
  (r03_texts_L2 a b (0:Int)) >>= fun o17=>match o17 with
   | .inl o18 =>
     some (o18.2)
   | .inr o19 =>
     some (r03_ints (↑a.size:Int) (↑b.size:Int))
theorem r03_texts_run {a:ByteArray} {b:ByteArray} {r:Int} (h:r03_texts_fn a b=some r) : Runs (awp M_r03_texts N_r03_texts (bodyOf Tryz.f167) (entry Tryz.f167.ntmps 0 [.d (.v (cs a)),.d (.v (cs b))]) (retQ M_r03_texts Tryz.f167.results.toList [.d] fun rs os=>rs=A_r03_texts r∧os=O_r03_texts r)):=by
  constructor
  rw[r03_texts_in a b (fun rs os=>rs=A_r03_texts r∧os=O_r03_texts r)]
  unfold r03_texts_fn at h
  obtain⟨o20,ho21,h22⟩:=bind_some h
  rcases o20 with o23 | o24
  · cases h22
    exact (r03_texts_L2_run ho21 _ (r03_texts_Q2_ret (mpr (r03_texts_a2_ret a b o23.1 o23.2 _) ⟨rfl,rfl⟩)))
  · cases h22
    exact (r03_texts_L2_run ho21 _ (r03_texts_Q2_x0 (mpr (r03_texts_a2_x0 a b o24 _) ⟨rfl,rfl⟩)))
def r03_texts (a b:ByteArray) : Int:=cmpS a b
@[simp] theorem r03_texts_eq (a b:ByteArray) : r03_texts a b=cmpS a b:=by unfold r03_texts;rfl
theorem r03_texts_loop (a b:ByteArray) (ha:WStr a) (hb:WStr b) : ∀ (ra rb:List UInt8) (i:Nat),a.toList.drop i=ra→b.toList.drop i=rb→i≤a.size→i≤b.size →
    ∃ o,r03_texts_L2 a b i=some o∧(match o with | .inl o=>o.2 | .inr _=>cmpI a.size b.size)=cmpL ra rb:=by
  intro ra
  induction ra with
  | nil =>
    intro rb i h1 h2 h3 h4
    have e1:=drop_len h1;have e2:=drop_len h2
    rw[toList_size] at e1 e2
    simp only[List.length_nil] at e1
    have hn:¬ ((i:Int)<a.size):=by omega
    refine⟨.inr i,by rw[r03_texts_L2_eq,r03_texts_S2];simp [hn],?_⟩
    simp only
    cases rb with
    | nil=>simp at e2;unfold cmpI cmpL;rw[if_neg (by omega),if_neg (by omega)]
    | cons y rb=>simp at e2;unfold cmpI cmpL;rw[if_pos (by omega)]
  | cons x ra ih =>
    intro rb i h1 h2 h3 h4
    obtain⟨a1,a2,a3,_⟩:=drop_cons h1
    rw[toList_size] at a1
    have hp:(i:Int)<a.size:=by omega
    cases rb with
    | nil =>
      have e2:=drop_len h2
      rw[toList_size] at e2
      simp only[List.length_nil] at e2
      have hn:¬ ((i:Int)<b.size):=by omega
      refine⟨.inr i,by rw[r03_texts_L2_eq,r03_texts_S2];simp [hn,hp],?_⟩
      simp only;unfold cmpI cmpL;rw[if_neg (by omega),if_pos (by omega)]
    | cons y rb =>
      obtain⟨b1,b2,b3,_⟩:=drop_cons h2
      rw[toList_size] at b1
      have hq:(i:Int)<b.size:=by omega
      have hi:(0:Int)≤i:=by omega
      rw[r03_texts_L2_eq,r03_texts_S2]
      simp only[hp,hq,hi,decide_true,if_true,true_and,and_self,Int.toNat_natCast,a2,b2]
      by_cases hxy : x=y
      · subst hxy
        simp only[bne_self_eq_false,Bool.false_eq_true,if_false]
        rw[wrap_succ a1 ha]
        simpa only [cmpL,if_true,stepB_inl] using ih rb (i+1) a3 b3 (by omega) (by omega)
      · have hne:((x.toNat:Int) != (y.toNat:Int))=true:=by
          rw[bne_iff_ne];intro e;exact hxy (UInt8.toNat_inj.1 (by omega))
        have hx:=x.toNat_lt;have hy:=y.toNat_lt
        refine⟨_,by rw[if_pos hne,stepB_inr],?_⟩
        simp only[cmpL,hxy,if_false,r03_ints_spec]
        rw[wrap_id (by omega),wrap_id (by omega)]
theorem r03_texts_spec (a b:ByteArray) (ha:WStr a) (hb:WStr b) : r03_texts_fn a b=some (r03_texts a b):=by
  obtain⟨o,ho,e⟩:=r03_texts_loop a b ha hb _ _ 0 rfl rfl (by omega) (by omega)
  unfold r03_texts_fn r03_texts cmpS
  rw[show (0:Int)=((0:Nat):Int) from rfl,ho]
  simp only[List.drop_zero] at e
  rw[← e]
  cases o<;>simp
def F_r03_texts : FnC Un:=fun args=>match args with
  | [x0,x1]=>(dStr x0).bind fun a=>(dStr x1).bind fun b=>some ([],A_r03_texts (r03_texts a b),O_r03_texts (r03_texts a b))
  | _=>none
theorem ok_r03_texts : FnOK 167 F_r03_texts:=by
  intro args ob rs os h hob
  unfold F_r03_texts at h
  split at h
  · simp only[Option.bind_eq_some_iff,Option.some.injEq,Prod.mk.injEq] at h
    obtain⟨a,e0,b,e1,rfl,rfl,rfl⟩:=h
    obtain rfl:=dStr_eq e0
    obtain rfl:=dStr_eq e1
    exact⟨fn_contract (M:=M_r03_texts) rfl (tbl_ok (l1:=[(139,F_r03_ints)]) (l2:=[]) (l3:=[]) (l4:=[]) (l5:=[]) ⟨ok_r03_ints,trivial⟩ trivial trivial trivial trivial) Tryz.func167 (by kernel_rfl) N_r03_texts 0 [.d] (fun hwf=>r03_texts_run (r03_texts_spec a b (wfArg hwf (a:=.d (.v (cs a))) (List.mem_of_getElem? (i:=0) rfl)) (wfArg hwf (a:=.d (.v (cs b))) (List.mem_of_getElem? (i:=1) rfl)))),hasBody_of Tryz.func167 (by kernel_rfl) (by kernel_rfl)⟩
  · simp at h
def M_r03_plain : Mc Un:=mach (tbl []) (tbl []) (tbl []) (tbl []) (tbl [])
def N_r03_plain : Nat→NS:=fun l=>(look l [(2,{ ts:=[true,false,true,true,false,false,false,false,false,false,false,false,false,false,false,false,false,false,false,false,false,false,false],bs:=[false,false,false,false,false,false,false,false,false,false,false,false,false,false,false,false,false,false,false,false,false,false,false],nm:=[],gb:=[],gs:=[] })]).getD ⟨[],[],[],[],[],false⟩
def A_r03_plain (r:Bool) : List (A Un):=[.c (.s (.bool r))]
def O_r03_plain (_r:Bool) : List (Ob Un):=[]
def r03_plain_s2 (s:ByteArray) (v0:Int) : S Un:=(st 23 23 92 0 [(0,AV.one (A.c (C.s (Value.string s)))),(2,AV.one (A.c (C.s (Value.bool false)))),(3,AV.one (A.c (C.s (Value.int IntKind.i64 v0))))] [] [])
theorem r03_plain_in (s:ByteArray) (K:List (A Un)→List (Ob Un)→Prop) :
    awp M_r03_plain N_r03_plain (bodyOf Tryz.f170) (entry Tryz.f170.ntmps 0 [.d (.v (cs s))]) (retQ M_r03_plain Tryz.f170.results.toList [.d] K) =
(itersK (N_r03_plain 2) (awp M_r03_plain N_r03_plain (sub (bodyOf Tryz.f170) [1,0,1,2,2])) (ctxK M_r03_plain N_r03_plain (bodyOf Tryz.f170) [1,0,1,2] (retQ M_r03_plain Tryz.f170.results.toList [.d] K)) (r03_plain_s2 s (0:Int))):=by kernel_rfl
theorem r03_plain_l2 (s:ByteArray) (v0:Int) (k:Nat) (Q:Exit→S Un→Prop) :
    iterK (N_r03_plain 2) (awp M_r03_plain N_r03_plain (sub (bodyOf Tryz.f170) [1,0,1,2,2])) Q (k+1) (r03_plain_s2 s v0) =
(cnd (decide (v0<(↑s.size:Int)))
 (((0:Int)≤v0∧v0<(↑s.size:Int)) ∧
 (cnd (decide ((↑(s.toList.getD v0.toNat (0:UInt8)).toNat:Int)<(32:Int)))
  (Q .ret (r03_plain_s2 s v0))
  (((0:Int)≤v0∧v0<(↑s.size:Int)) ∧
  (cnd (decide ((↑(s.toList.getD v0.toNat (0:UInt8)).toNat:Int) > (126:Int)))
   (Q .ret (r03_plain_s2 s v0))
   (iterK (N_r03_plain 2) (awp M_r03_plain N_r03_plain (sub (bodyOf Tryz.f170) [1,0,1,2,2])) Q k (r03_plain_s2 s (IntKind.i64.wrap (v0+(1:Int)))))))))
 (Q (.exit 0) (r03_plain_s2 s v0))):=by kernel_rfl
theorem r03_plain_a2_ret (s:ByteArray) (v0:Int) (K:List (A Un)→List (Ob Un)→Prop) :
    ctxK M_r03_plain N_r03_plain (bodyOf Tryz.f170) [1,0,1,2] (retQ M_r03_plain Tryz.f170.results.toList [.d] K) .ret (r03_plain_s2 s v0) =
(K (A_r03_plain (false)) (O_r03_plain (false))):=by kernel_rfl
theorem r03_plain_a2_x0 (s:ByteArray) (v0:Int) (K:List (A Un)→List (Ob Un)→Prop) :
    ctxK M_r03_plain N_r03_plain (bodyOf Tryz.f170) [1,0,1,2] (retQ M_r03_plain Tryz.f170.results.toList [.d] K) (.exit 0) (r03_plain_s2 s v0) =
(K (A_r03_plain (decide ((↑s.size:Int)≤(100:Int)))) (O_r03_plain (decide ((↑s.size:Int)≤(100:Int))))):=by kernel_rfl
def r03_plain_S2 (s:ByteArray) (v:Int) : Option ((Int) ⊕ ((Int) ⊕ (Int))) :=
  if (decide (v<(↑s.size:Int)))=true then
   if (0:Int)≤v∧v<(↑s.size:Int) then
    if (decide ((↑(s.toList.getD v.toNat (0:UInt8)).toNat:Int)<(32:Int)))=true then
     some (.inr (.inl v))
    else
     if (0:Int)≤v∧v<(↑s.size:Int) then
      if (decide ((↑(s.toList.getD v.toNat (0:UInt8)).toNat:Int) > (126:Int)))=true then
       some (.inr (.inl v))
      else
       some (.inl (IntKind.i64.wrap (v+(1:Int))))
     else none
   else none
  else
   some (.inr (.inr v))
def r03_plain_L2 (s:ByteArray) (v:Int) : Option ((Int) ⊕ (Int)):=loopO (r03_plain_S2 s) v
theorem r03_plain_L2_eq (s:ByteArray) (v:Int) : r03_plain_L2 s v=stepB (r03_plain_L2 s) (r03_plain_S2 s v):=loopO_eq _ _
def r03_plain_Q2 (s:ByteArray) (r:(Int) ⊕ (Int)) (Q:Exit→S Un→Prop) : Prop:=match r with | .inl x=>Q .ret (r03_plain_s2 s x) | .inr x=>Q (.exit 0) (r03_plain_s2 s x)
theorem r03_plain_Q2_ret {s:ByteArray} {x:Int} {Q:Exit→S Un→Prop} (h:Q .ret (r03_plain_s2 s x)) : r03_plain_Q2 s (.inl x) Q:=h
theorem r03_plain_Q2_x0 {s:ByteArray} {x:Int} {Q:Exit→S Un→Prop} (h:Q (.exit 0) (r03_plain_s2 s x)) : r03_plain_Q2 s (.inr x) Q:=h
theorem r03_plain_L2_run {s:ByteArray} {v:Int} {r:(Int) ⊕ (Int)} (h:r03_plain_L2 s v=some r) (Q:Exit→S Un→Prop) (hQ:r03_plain_Q2 s r Q) : itersK (N_r03_plain 2) (awp M_r03_plain N_r03_plain (sub (bodyOf Tryz.f170) [1,0,1,2,2])) Q (r03_plain_s2 s v):=by
  refine @loop_run _ _ (r03_plain_S2 s) (fun v=>itersK (N_r03_plain 2) (awp M_r03_plain N_r03_plain (sub (bodyOf Tryz.f170) [1,0,1,2,2])) Q (r03_plain_s2 s v)) (fun r=>r03_plain_Q2 s r Q) ?_ v r h hQ
  intro v o h hI
  unfold r03_plain_S2 at h
  rcases ite_some h with ⟨c1,h2⟩ | ⟨c1,h2⟩
  · obtain⟨c3,h4⟩:=ob_some h2
    rcases ite_some h4 with ⟨c5,h6⟩ | ⟨c5,h6⟩
    · cases h6
      exact itersK_mk 1 (mpr (r03_plain_l2 s v 0 Q) (cnd_t c1 (And.intro c3 (cnd_t c5 hI))))
    · obtain⟨c7,h8⟩:=ob_some h6
      rcases ite_some h8 with ⟨c9,h10⟩ | ⟨c9,h10⟩
      · cases h10
        exact itersK_mk 1 (mpr (r03_plain_l2 s v 0 Q) (cnd_t c1 (And.intro c3 (cnd_f (bfalse c5) (And.intro c7 (cnd_t c9 hI))))))
      · cases h10
        obtain⟨k11,hk12⟩:=itersK_get hI
        exact itersK_mk (k11+1) (mpr (r03_plain_l2 s v k11 Q) (cnd_t c1 (And.intro c3 (cnd_f (bfalse c5) (And.intro c7 (cnd_f (bfalse c9) hk12))))))
  · cases h2
    exact itersK_mk 1 (mpr (r03_plain_l2 s v 0 Q) (cnd_f (bfalse c1) hI))
def r03_plain_fn (s:ByteArray) : Option (Bool) :=
  (r03_plain_L2 s (0:Int)) >>= fun o13=>match o13 with
   | .inl o14 =>
     some (false)
   | .inr o15 =>
     some (decide ((↑s.size:Int)≤(100:Int)))
theorem r03_plain_run {s:ByteArray} {r:Bool} (h:r03_plain_fn s=some r) : Runs (awp M_r03_plain N_r03_plain (bodyOf Tryz.f170) (entry Tryz.f170.ntmps 0 [.d (.v (cs s))]) (retQ M_r03_plain Tryz.f170.results.toList [.d] fun rs os=>rs=A_r03_plain r∧os=O_r03_plain r)):=by
  constructor
  rw[r03_plain_in s (fun rs os=>rs=A_r03_plain r∧os=O_r03_plain r)]
  unfold r03_plain_fn at h
  obtain⟨o16,ho17,h18⟩:=bind_some h
  rcases o16 with o19 | o20
  · cases h18
    exact (r03_plain_L2_run ho17 _ (r03_plain_Q2_ret (mpr (r03_plain_a2_ret s o19 _) ⟨rfl,rfl⟩)))
  · cases h18
    exact (r03_plain_L2_run ho17 _ (r03_plain_Q2_x0 (mpr (r03_plain_a2_x0 s o20 _) ⟨rfl,rfl⟩)))
def r03_plain (s:ByteArray) : Bool:=plainB s
@[simp] theorem r03_plain_eq (s:ByteArray) : r03_plain s=plainB s:=by unfold r03_plain;rfl
theorem r03_plain_loop (s:ByteArray) (hs:WStr s) : ∀ (r:List UInt8) (i:Nat),s.toList.drop i=r →
    ∃ o,r03_plain_L2 s i=some o∧(match o with | .inl _=>false | .inr _=>true)=r.all (fun b=>decide (32≤b.toNat∧b.toNat≤126)):=by
  intro r
  induction r with
  | nil =>
    intro i h1
    have e1:=drop_len h1
    rw[toList_size] at e1
    simp only[List.length_nil] at e1
    have hn:¬ ((i:Int)<s.size):=by omega
    exact⟨.inr i,by rw[r03_plain_L2_eq,r03_plain_S2];simp [hn],rfl⟩
  | cons x r ih =>
    intro i h1
    obtain⟨a1,a2,a3,_⟩:=drop_cons h1
    rw[toList_size] at a1
    have hp:(i:Int)<s.size:=by omega
    have hi:(0:Int)≤i:=by omega
    rw[r03_plain_L2_eq,r03_plain_S2]
    simp only[hp,hi,decide_true,if_true,and_self,Int.toNat_natCast,a2,decide_eq_true_eq,List.all_cons]
    by_cases c1 : (x.toNat:Int)<32
    · exact⟨_,by rw[if_pos c1,stepB_inr],by simp;omega⟩
    · rw[if_neg c1]
      by_cases c2 : (x.toNat:Int) > 126
      · exact⟨_,by rw[if_pos c2,stepB_inr],by simp;omega⟩
      · rw[if_neg c2,wrap_succ a1 hs,stepB_inl]
        have e:decide (32≤x.toNat∧x.toNat≤126)=true:=by simp;omega
        rw[e,Bool.true_and]
        exact ih (i+1) a3
theorem r03_plain_spec (s:ByteArray) (hs:WStr s) : r03_plain_fn s=some (r03_plain s):=by
  obtain⟨o,ho,e⟩:=r03_plain_loop s hs _ 0 rfl
  unfold r03_plain_fn r03_plain plainB
  rw[show (0:Int)=((0:Nat):Int) from rfl,ho]
  simp only[List.drop_zero] at e
  rw[← e]
  cases o with
  | inl o=>simp
  | inr o=>simp;omega
def F_r03_plain : FnC Un:=fun args=>match args with
  | [x0]=>(dStr x0).bind fun s=>some ([],A_r03_plain (r03_plain s),O_r03_plain (r03_plain s))
  | _=>none
theorem ok_r03_plain : FnOK 170 F_r03_plain:=by
  intro args ob rs os h hob
  unfold F_r03_plain at h
  split at h
  · simp only[Option.bind_eq_some_iff,Option.some.injEq,Prod.mk.injEq] at h
    obtain⟨s,e0,rfl,rfl,rfl⟩:=h
    obtain rfl:=dStr_eq e0
    exact⟨fn_contract (M:=M_r03_plain) rfl (tbl_ok (l1:=[]) (l2:=[]) (l3:=[]) (l4:=[]) (l5:=[]) trivial trivial trivial trivial trivial) Tryz.func170 (by kernel_rfl) N_r03_plain 0 [.d] (fun hwf=>r03_plain_run (r03_plain_spec s (wfArg hwf (a:=.d (.v (cs s))) (List.mem_of_getElem? (i:=0) rfl)))),hasBody_of Tryz.func170 (by kernel_rfl) (by kernel_rfl)⟩
  · simp at h
def M_r03_Right : Mc Un:=mach (tbl [(169,F_r02_In),(170,F_r03_plain)]) (tbl []) (tbl []) (tbl []) (tbl [])
def N_r03_Right : Nat→NS:=fun l=>(look l []).getD ⟨[],[],[],[],[],false⟩
def A_r03_Right (r:Bool) : List (A Un):=[.c (.s (.bool r))]
def O_r03_Right (_r:Bool) : List (Ob Un):=[]
theorem r03_Right_in (v:Val) (K:List (A Un)→List (Ob Un)→Prop) :
    awp M_r03_Right N_r03_Right (bodyOf Tryz.f152) (entry Tryz.f152.ntmps 0 [.d (.agg (enc Ty.val v))]) (retQ M_r03_Right Tryz.f152.results.toList [.d] K) =
(cnd (v.kind == (0:Int))
 (cnd (v.n == (0:Int))
  (K (A_r03_Right (v.s.toList == (ByteArray.mk #[]).toList)) (O_r03_Right (v.s.toList == (ByteArray.mk #[]).toList)))
  (K (A_r03_Right (false)) (O_r03_Right (false))))
 (cnd (v.kind == (1:Int))
  (cnd (v.n == (0:Int))
   (K (A_r03_Right (v.s.toList == (ByteArray.mk #[]).toList)) (O_r03_Right (v.s.toList == (ByteArray.mk #[]).toList)))
   (cnd (v.n == (1:Int))
    (K (A_r03_Right (v.s.toList == (ByteArray.mk #[]).toList)) (O_r03_Right (v.s.toList == (ByteArray.mk #[]).toList)))
    (K (A_r03_Right (false)) (O_r03_Right (false)))))
  (cnd (v.kind == (2:Int))
   (cnd (r02_In v.n)
    (K (A_r03_Right (v.s.toList == (ByteArray.mk #[]).toList)) (O_r03_Right (v.s.toList == (ByteArray.mk #[]).toList)))
    (K (A_r03_Right (false)) (O_r03_Right (false))))
   (cnd (v.kind == (3:Int))
    (cnd (v.n == (0:Int))
     (K (A_r03_Right (r03_plain v.s)) (O_r03_Right (r03_plain v.s)))
     (K (A_r03_Right (false)) (O_r03_Right (false))))
    (K (A_r03_Right (false)) (O_r03_Right (false))))))):=by kernel_rfl
def r03_Right_fn (v:Val) : Option (Bool) :=
  if (v.kind == (0:Int))=true then
   if (v.n == (0:Int))=true then
    some (v.s.toList == (ByteArray.mk #[]).toList)
   else
    some (false)
  else
   if (v.kind == (1:Int))=true then
    if (v.n == (0:Int))=true then
     some (v.s.toList == (ByteArray.mk #[]).toList)
    else
     if (v.n == (1:Int))=true then
      some (v.s.toList == (ByteArray.mk #[]).toList)
     else
      some (false)
   else
    if (v.kind == (2:Int))=true then
     if (r02_In v.n)=true then
      some (v.s.toList == (ByteArray.mk #[]).toList)
     else
      some (false)
    else
     if (v.kind == (3:Int))=true then
      if (v.n == (0:Int))=true then
       some (r03_plain v.s)
      else
       some (false)
     else
      some (false)
theorem r03_Right_run {v:Val} {r:Bool} (h:r03_Right_fn v=some r) : Runs (awp M_r03_Right N_r03_Right (bodyOf Tryz.f152) (entry Tryz.f152.ntmps 0 [.d (.agg (enc Ty.val v))]) (retQ M_r03_Right Tryz.f152.results.toList [.d] fun rs os=>rs=A_r03_Right r∧os=O_r03_Right r)):=by
  constructor
  rw[r03_Right_in v (fun rs os=>rs=A_r03_Right r∧os=O_r03_Right r)]
  unfold r03_Right_fn at h
  rcases ite_some h with ⟨c1,h2⟩ | ⟨c1,h2⟩
  · rcases ite_some h2 with ⟨c3,h4⟩ | ⟨c3,h4⟩
    · cases h4
      exact (cnd_t c1 (cnd_t c3 ⟨rfl,rfl⟩))
    · cases h4
      exact (cnd_t c1 (cnd_f (bfalse c3) ⟨rfl,rfl⟩))
  · rcases ite_some h2 with ⟨c5,h6⟩ | ⟨c5,h6⟩
    · rcases ite_some h6 with ⟨c7,h8⟩ | ⟨c7,h8⟩
      · cases h8
        exact (cnd_f (bfalse c1) (cnd_t c5 (cnd_t c7 ⟨rfl,rfl⟩)))
      · rcases ite_some h8 with ⟨c9,h10⟩ | ⟨c9,h10⟩
        · cases h10
          exact (cnd_f (bfalse c1) (cnd_t c5 (cnd_f (bfalse c7) (cnd_t c9 ⟨rfl,rfl⟩))))
        · cases h10
          exact (cnd_f (bfalse c1) (cnd_t c5 (cnd_f (bfalse c7) (cnd_f (bfalse c9) ⟨rfl,rfl⟩))))
    · rcases ite_some h6 with ⟨c11,h12⟩ | ⟨c11,h12⟩
      · rcases ite_some h12 with ⟨c13,h14⟩ | ⟨c13,h14⟩
        · cases h14
          exact (cnd_f (bfalse c1) (cnd_f (bfalse c5) (cnd_t c11 (cnd_t c13 ⟨rfl,rfl⟩))))
        · cases h14
          exact (cnd_f (bfalse c1) (cnd_f (bfalse c5) (cnd_t c11 (cnd_f (bfalse c13) ⟨rfl,rfl⟩))))
      · rcases ite_some h12 with ⟨c15,h16⟩ | ⟨c15,h16⟩
        · rcases ite_some h16 with ⟨c17,h18⟩ | ⟨c17,h18⟩
          · cases h18
            exact (cnd_f (bfalse c1) (cnd_f (bfalse c5) (cnd_f (bfalse c11) (cnd_t c15 (cnd_t c17 ⟨rfl,rfl⟩)))))
          · cases h18
            exact (cnd_f (bfalse c1) (cnd_f (bfalse c5) (cnd_f (bfalse c11) (cnd_t c15 (cnd_f (bfalse c17) ⟨rfl,rfl⟩)))))
        · cases h16
          exact (cnd_f (bfalse c1) (cnd_f (bfalse c5) (cnd_f (bfalse c11) (cnd_f (bfalse c15) ⟨rfl,rfl⟩))))
def r03_Right (v:Val) : Bool:=rightV v
@[simp] theorem r03_Right_eq (v:Val) : r03_Right v=rightV v:=by unfold r03_Right;rfl
theorem r03_Right_spec (v:Val) (_hv:WS .val v) : r03_Right_fn v=some (r03_Right v):=by
  unfold r03_Right_fn r03_Right rightV
  simp only[beq_iff_eq,empty_eq,r02_In_spec,r03_plain_eq]
  by_cases h0 : v.kind=0
  · simp [h0];split<;>simp_all
  · by_cases h1 : v.kind=1
    · by_cases n0 : v.n=0
      · simp [h1,n0]
      · by_cases n1 : v.n=1
        · simp [h1,n1]
        · simp [h1,n0,n1]
    · by_cases h2 : v.kind=2
      · simp [h2]
        split<;>simp_all
      · by_cases h3 : v.kind=3
        · simp [h3];split<;>simp_all
        · simp [h0,h1,h2,h3]
def F_r03_Right : FnC Un:=fun args=>match args with
  | [x0]=>(dS .val x0).bind fun v=>some ([],A_r03_Right (r03_Right v),O_r03_Right (r03_Right v))
  | _=>none
theorem ok_r03_Right : FnOK 152 F_r03_Right:=by
  intro args ob rs os h hob
  unfold F_r03_Right at h
  split at h
  · simp only[Option.bind_eq_some_iff,Option.some.injEq,Prod.mk.injEq] at h
    obtain⟨v,e0,rfl,rfl,rfl⟩:=h
    obtain rfl:=dS_eq e0
    exact⟨fn_contract (M:=M_r03_Right) rfl (tbl_ok (l1:=[(169,F_r02_In),(170,F_r03_plain)]) (l2:=[]) (l3:=[]) (l4:=[]) (l5:=[]) ⟨ok_r02_In,ok_r03_plain,trivial⟩ trivial trivial trivial trivial) Tryz.func152 (by kernel_rfl) N_r03_Right 0 [.d] (fun hwf=>r03_Right_run (r03_Right_spec v (wfArg hwf (a:=.d (.agg (enc Ty.val v))) (List.mem_of_getElem? (i:=0) rfl)))),hasBody_of Tryz.func152 (by kernel_rfl) (by kernel_rfl)⟩
  · simp at h
def M_r03_Order : Mc Un:=mach (tbl [(139,F_r03_ints),(167,F_r03_texts)]) (tbl []) (tbl []) (tbl []) (tbl [])
def N_r03_Order : Nat→NS:=fun l=>(look l []).getD ⟨[],[],[],[],[],false⟩
def A_r03_Order (r:Int) : List (A Un):=[.c (.s (.int .i64 r))]
def O_r03_Order (_r:Int) : List (Ob Un):=[]
theorem r03_Order_in (a:Val) (b:Val) (K:List (A Un)→List (Ob Un)→Prop) :
    awp M_r03_Order N_r03_Order (bodyOf Tryz.f138) (entry Tryz.f138.ntmps 0 [.d (.agg (enc Ty.val a)),.d (.agg (enc Ty.val b))]) (retQ M_r03_Order Tryz.f138.results.toList [.d] K) =
(cnd (a.kind != b.kind)
 (K (A_r03_Order (r03_ints a.kind b.kind)) (O_r03_Order (r03_ints a.kind b.kind)))
 (cnd (a.n != b.n)
  (K (A_r03_Order (r03_ints a.n b.n)) (O_r03_Order (r03_ints a.n b.n)))
  (K (A_r03_Order (r03_texts a.s b.s)) (O_r03_Order (r03_texts a.s b.s))))):=by kernel_rfl
def r03_Order_fn (a:Val) (b:Val) : Option (Int) :=
  if (a.kind != b.kind)=true then
   some (r03_ints a.kind b.kind)
  else
   if (a.n != b.n)=true then
    some (r03_ints a.n b.n)
   else
    some (r03_texts a.s b.s)
theorem r03_Order_run {a:Val} {b:Val} {r:Int} (h:r03_Order_fn a b=some r) : Runs (awp M_r03_Order N_r03_Order (bodyOf Tryz.f138) (entry Tryz.f138.ntmps 0 [.d (.agg (enc Ty.val a)),.d (.agg (enc Ty.val b))]) (retQ M_r03_Order Tryz.f138.results.toList [.d] fun rs os=>rs=A_r03_Order r∧os=O_r03_Order r)):=by
  constructor
  rw[r03_Order_in a b (fun rs os=>rs=A_r03_Order r∧os=O_r03_Order r)]
  unfold r03_Order_fn at h
  rcases ite_some h with ⟨c1,h2⟩ | ⟨c1,h2⟩
  · cases h2
    exact (cnd_t c1 ⟨rfl,rfl⟩)
  · rcases ite_some h2 with ⟨c3,h4⟩ | ⟨c3,h4⟩
    · cases h4
      exact (cnd_f (bfalse c1) (cnd_t c3 ⟨rfl,rfl⟩))
    · cases h4
      exact (cnd_f (bfalse c1) (cnd_f (bfalse c3) ⟨rfl,rfl⟩))
def r03_Order (a b:Val) : Int:=ordV a b
@[simp] theorem r03_Order_eq (a b:Val) : r03_Order a b=ordV a b:=by unfold r03_Order;rfl
theorem r03_Order_spec (a b:Val) (_ha:WS .val a) (_hb:WS .val b) : r03_Order_fn a b=some (r03_Order a b):=by
  unfold r03_Order_fn r03_Order ordV
  simp only[bne_iff_ne,ne_eq,ite_not,r03_ints_spec,r03_texts_eq]
  split
  · split<;>rfl
  · rfl
def F_r03_Order : FnC Un:=fun args=>match args with
  | [x0,x1]=>(dS .val x0).bind fun a=>(dS .val x1).bind fun b=>some ([],A_r03_Order (r03_Order a b),O_r03_Order (r03_Order a b))
  | _=>none
theorem ok_r03_Order : FnOK 138 F_r03_Order:=by
  intro args ob rs os h hob
  unfold F_r03_Order at h
  split at h
  · simp only[Option.bind_eq_some_iff,Option.some.injEq,Prod.mk.injEq] at h
    obtain⟨a,e0,b,e1,rfl,rfl,rfl⟩:=h
    obtain rfl:=dS_eq e0
    obtain rfl:=dS_eq e1
    exact⟨fn_contract (M:=M_r03_Order) rfl (tbl_ok (l1:=[(139,F_r03_ints),(167,F_r03_texts)]) (l2:=[]) (l3:=[]) (l4:=[]) (l5:=[]) ⟨ok_r03_ints,ok_r03_texts,trivial⟩ trivial trivial trivial trivial) Tryz.func138 (by kernel_rfl) N_r03_Order 0 [.d] (fun hwf=>r03_Order_run (r03_Order_spec a b (wfArg hwf (a:=.d (.agg (enc Ty.val a))) (List.mem_of_getElem? (i:=0) rfl)) (wfArg hwf (a:=.d (.agg (enc Ty.val b))) (List.mem_of_getElem? (i:=1) rfl)))),hasBody_of Tryz.func138 (by kernel_rfl) (by kernel_rfl)⟩
  · simp at h
def M_r03_Orders : Mc Un:=mach (tbl [(138,F_r03_Order),(139,F_r03_ints)]) (tbl []) (tbl []) (tbl []) (tbl [])
def N_r03_Orders : Nat→NS:=fun l=>(look l [(2,{ ts:=[true,true,false,false,true,true,false,false,false,false,false,false,false,false,false,false,false,false,false,false,false,false,false,false,false,false,false,false,false,false,false,false,false,false,false,false,false,false,false,false,false,false],bs:=[false,false,false,false,false,false,false,false,false,false,false,false,false,false,false,false,false,false,false,false,false,false,false,false,false,false,false,false,false,false,false,false,false,false,false,false,false,false,false,false,false,false],nm:=[],gb:=[],gs:=[] })]).getD ⟨[],[],[],[],[],false⟩
def A_r03_Orders (r:Int) : List (A Un):=[.c (.s (.int .i64 r))]
def O_r03_Orders (_r:Int) : List (Ob Un):=[]
def r03_Orders_s2 (a:List Val) (b:List Val) (v0:Int) : S Un:=(st 42 42 168 0 [(0,AV.one (A.c (C.sl Ty.val a false))),(1,AV.one (A.c (C.sl Ty.val b false))),(4,AV.one (A.c (C.s (Value.int IntKind.i64 (0:Int))))),(5,AV.one (A.c (C.s (Value.int IntKind.i64 v0))))] [] [])
def r03_Orders_e2_ret (a:List Val) (b:List Val) (v0:Int) (v1:Int) : S Un:=(st 42 42 168 0 [(0,AV.one (A.c (C.sl Ty.val a false))),(1,AV.one (A.c (C.sl Ty.val b false))),(4,AV.one (A.c (C.s (Value.int IntKind.i64 v1)))),(5,AV.one (A.c (C.s (Value.int IntKind.i64 v0))))] [] [])
theorem r03_Orders_in (a:List Val) (b:List Val) (K:List (A Un)→List (Ob Un)→Prop) :
    awp M_r03_Orders N_r03_Orders (bodyOf Tryz.f94) (entry Tryz.f94.ntmps 0 [.d (.v (.dat (U:=Un) Ty.val a)),.d (.v (.dat (U:=Un) Ty.val b))]) (retQ M_r03_Orders Tryz.f94.results.toList [.d] K) =
(itersK (N_r03_Orders 2) (awp M_r03_Orders N_r03_Orders (sub (bodyOf Tryz.f94) [1,0,1,2,2])) (ctxK M_r03_Orders N_r03_Orders (bodyOf Tryz.f94) [1,0,1,2] (retQ M_r03_Orders Tryz.f94.results.toList [.d] K)) (r03_Orders_s2 a b (0:Int))):=by kernel_rfl
theorem r03_Orders_l2 (a:List Val) (b:List Val) (v0:Int) (k:Nat) (Q:Exit→S Un→Prop) :
    iterK (N_r03_Orders 2) (awp M_r03_Orders N_r03_Orders (sub (bodyOf Tryz.f94) [1,0,1,2,2])) Q (k+1) (r03_Orders_s2 a b v0) =
(cnd (decide (v0<(↑a.length:Int)))
 (cnd (decide (v0<(↑b.length:Int)))
  (((0:Int)≤v0∧v0<(↑a.length:Int)) ∧
  (((0:Int)≤v0∧v0<(↑b.length:Int)) ∧
  (cnd (r03_Order (a.getD v0.toNat zeroVal) (b.getD v0.toNat zeroVal) != (0:Int))
   (((0:Int)≤v0∧v0<(↑a.length:Int)) ∧
   (((0:Int)≤v0∧v0<(↑b.length:Int)) ∧
   (Q .ret (r03_Orders_e2_ret a b v0 (r03_Order (a.getD v0.toNat zeroVal) (b.getD v0.toNat zeroVal))))))
   (iterK (N_r03_Orders 2) (awp M_r03_Orders N_r03_Orders (sub (bodyOf Tryz.f94) [1,0,1,2,2])) Q k (r03_Orders_s2 a b (IntKind.i64.wrap (v0+(1:Int))))))))
  (Q (.exit 0) (r03_Orders_s2 a b v0)))
 (Q (.exit 0) (r03_Orders_s2 a b v0))):=by kernel_rfl
theorem r03_Orders_a2_ret (a:List Val) (b:List Val) (v0:Int) (v1:Int) (K:List (A Un)→List (Ob Un)→Prop) :
    ctxK M_r03_Orders N_r03_Orders (bodyOf Tryz.f94) [1,0,1,2] (retQ M_r03_Orders Tryz.f94.results.toList [.d] K) .ret (r03_Orders_e2_ret a b v0 v1) =
(K (A_r03_Orders (v1)) (O_r03_Orders (v1))):=by kernel_rfl
theorem r03_Orders_a2_x0 (a:List Val) (b:List Val) (v0:Int) (K:List (A Un)→List (Ob Un)→Prop) :
    ctxK M_r03_Orders N_r03_Orders (bodyOf Tryz.f94) [1,0,1,2] (retQ M_r03_Orders Tryz.f94.results.toList [.d] K) (.exit 0) (r03_Orders_s2 a b v0) =
(K (A_r03_Orders (r03_ints (↑a.length:Int) (↑b.length:Int))) (O_r03_Orders (r03_ints (↑a.length:Int) (↑b.length:Int)))):=by kernel_rfl
def r03_Orders_S2 (a:List Val) (b:List Val) (v:Int) : Option ((Int) ⊕ ((Int×Int) ⊕ (Int))) :=
  if (decide (v<(↑a.length:Int)))=true then
   if (decide (v<(↑b.length:Int)))=true then
    if (0:Int)≤v∧v<(↑a.length:Int) then
     if (0:Int)≤v∧v<(↑b.length:Int) then
      if (r03_Order (a.getD v.toNat zeroVal) (b.getD v.toNat zeroVal) != (0:Int))=true then
       if (0:Int)≤v∧v<(↑a.length:Int) then
        if (0:Int)≤v∧v<(↑b.length:Int) then
         some (.inr (.inl (v,(r03_Order (a.getD v.toNat zeroVal) (b.getD v.toNat zeroVal)))))
        else none
       else none
      else
       some (.inl (IntKind.i64.wrap (v+(1:Int))))
     else none
    else none
   else
    some (.inr (.inr v))
  else
   some (.inr (.inr v))
def r03_Orders_L2 (a:List Val) (b:List Val) (v:Int) : Option ((Int×Int) ⊕ (Int)):=loopO (r03_Orders_S2 a b) v
theorem r03_Orders_L2_eq (a:List Val) (b:List Val) (v:Int) : r03_Orders_L2 a b v=stepB (r03_Orders_L2 a b) (r03_Orders_S2 a b v):=loopO_eq _ _
def r03_Orders_Q2 (a:List Val) (b:List Val) (r:(Int×Int) ⊕ (Int)) (Q:Exit→S Un→Prop) : Prop:=match r with | .inl x=>Q .ret (r03_Orders_e2_ret a b x.1 x.2) | .inr x=>Q (.exit 0) (r03_Orders_s2 a b x)
theorem r03_Orders_Q2_ret {a:List Val} {b:List Val} {x:Int×Int} {Q:Exit→S Un→Prop} (h:Q .ret (r03_Orders_e2_ret a b x.1 x.2)) : r03_Orders_Q2 a b (.inl x) Q:=h
theorem r03_Orders_Q2_x0 {a:List Val} {b:List Val} {x:Int} {Q:Exit→S Un→Prop} (h:Q (.exit 0) (r03_Orders_s2 a b x)) : r03_Orders_Q2 a b (.inr x) Q:=h
theorem r03_Orders_L2_run {a:List Val} {b:List Val} {v:Int} {r:(Int×Int) ⊕ (Int)} (h:r03_Orders_L2 a b v=some r) (Q:Exit→S Un→Prop) (hQ:r03_Orders_Q2 a b r Q) : itersK (N_r03_Orders 2) (awp M_r03_Orders N_r03_Orders (sub (bodyOf Tryz.f94) [1,0,1,2,2])) Q (r03_Orders_s2 a b v):=by
  refine @loop_run _ _ (r03_Orders_S2 a b) (fun v=>itersK (N_r03_Orders 2) (awp M_r03_Orders N_r03_Orders (sub (bodyOf Tryz.f94) [1,0,1,2,2])) Q (r03_Orders_s2 a b v)) (fun r=>r03_Orders_Q2 a b r Q) ?_ v r h hQ
  intro v o h hI
  unfold r03_Orders_S2 at h
  rcases ite_some h with ⟨c1,h2⟩ | ⟨c1,h2⟩
  · rcases ite_some h2 with ⟨c3,h4⟩ | ⟨c3,h4⟩
    · obtain⟨c5,h6⟩:=ob_some h4
      obtain⟨c7,h8⟩:=ob_some h6
      rcases ite_some h8 with ⟨c9,h10⟩ | ⟨c9,h10⟩
      · obtain⟨c11,h12⟩:=ob_some h10
        obtain⟨c13,h14⟩:=ob_some h12
        cases h14
        exact itersK_mk 1 (mpr (r03_Orders_l2 a b v 0 Q) (cnd_t c1 (cnd_t c3 (And.intro c5 (And.intro c7 (cnd_t c9 (And.intro c11 (And.intro c13 hI))))))))
      · cases h10
        obtain⟨k15,hk16⟩:=itersK_get hI
        exact itersK_mk (k15+1) (mpr (r03_Orders_l2 a b v k15 Q) (cnd_t c1 (cnd_t c3 (And.intro c5 (And.intro c7 (cnd_f (bfalse c9) hk16))))))
    · cases h4
      exact itersK_mk 1 (mpr (r03_Orders_l2 a b v 0 Q) (cnd_t c1 (cnd_f (bfalse c3) hI)))
  · cases h2
    exact itersK_mk 1 (mpr (r03_Orders_l2 a b v 0 Q) (cnd_f (bfalse c1) hI))
def r03_Orders_fn (a:List Val) (b:List Val) : Option (Int) :=
  (r03_Orders_L2 a b (0:Int)) >>= fun o17=>match o17 with
   | .inl o18 =>
     some (o18.2)
   | .inr o19 =>
     some (r03_ints (↑a.length:Int) (↑b.length:Int))
theorem r03_Orders_run {a:List Val} {b:List Val} {r:Int} (h:r03_Orders_fn a b=some r) : Runs (awp M_r03_Orders N_r03_Orders (bodyOf Tryz.f94) (entry Tryz.f94.ntmps 0 [.d (.v (.dat (U:=Un) Ty.val a)),.d (.v (.dat (U:=Un) Ty.val b))]) (retQ M_r03_Orders Tryz.f94.results.toList [.d] fun rs os=>rs=A_r03_Orders r∧os=O_r03_Orders r)):=by
  constructor
  rw[r03_Orders_in a b (fun rs os=>rs=A_r03_Orders r∧os=O_r03_Orders r)]
  unfold r03_Orders_fn at h
  obtain⟨o20,ho21,h22⟩:=bind_some h
  rcases o20 with o23 | o24
  · cases h22
    exact (r03_Orders_L2_run ho21 _ (r03_Orders_Q2_ret (mpr (r03_Orders_a2_ret a b o23.1 o23.2 _) ⟨rfl,rfl⟩)))
  · cases h22
    exact (r03_Orders_L2_run ho21 _ (r03_Orders_Q2_x0 (mpr (r03_Orders_a2_x0 a b o24 _) ⟨rfl,rfl⟩)))
def r03_Orders (a b:List Val) : Int:=ordR a b
@[simp] theorem r03_Orders_eq (a b:List Val) : r03_Orders a b=ordR a b:=by unfold r03_Orders;rfl
theorem r03_Orders_loop (a b:List Val) (ha:WL .val a) (hb:WL .val b) : ∀ (ra rb:List Val) (i:Nat),a.drop i=ra→b.drop i=rb→i≤a.length→i≤b.length →
    ∃ o,r03_Orders_L2 a b i=some o∧(match o with | .inl o=>o.2 | .inr _=>cmpI a.length b.length)=ordR ra rb:=by
  intro ra
  induction ra with
  | nil =>
    intro rb i h1 h2 h3 h4
    have e1:=drop_len h1;have e2:=drop_len h2
    simp only[List.length_nil] at e1
    have hn:¬ ((i:Int)<a.length):=by omega
    refine⟨.inr i,by rw[r03_Orders_L2_eq,r03_Orders_S2];simp [hn],?_⟩
    simp only
    cases rb with
    | nil=>simp at e2;unfold cmpI ordR;rw[if_neg (by omega),if_neg (by omega)]
    | cons y rb=>simp at e2;unfold cmpI ordR;rw[if_pos (by omega)]
  | cons x ra ih =>
    intro rb i h1 h2 h3 h4
    obtain⟨a1,a2,a3,_⟩:=drop_cons h1
    have hp:(i:Int)<a.length:=by omega
    cases rb with
    | nil =>
      have e2:=drop_len h2
      simp only[List.length_nil] at e2
      have hn:¬ ((i:Int)<b.length):=by omega
      refine⟨.inr i,by rw[r03_Orders_L2_eq,r03_Orders_S2];simp [hn,hp],?_⟩
      simp only;unfold cmpI ordR;rw[if_neg (by omega),if_pos (by omega)]
    | cons y rb =>
      obtain⟨b1,b2,b3,_⟩:=drop_cons h2
      have hq:(i:Int)<b.length:=by omega
      have hi:(0:Int)≤i:=by omega
      rw[r03_Orders_L2_eq,r03_Orders_S2]
      simp only[hp,hq,hi,decide_true,if_true,true_and,and_self,Int.toNat_natCast,a2,b2,bne_iff_ne,ne_eq,ite_not,r03_Order_eq]
      by_cases hxy : ordV x y=0
      · rw[if_pos hxy,wrap_succ a1 ha.len]
        simpa only [ordR,hxy,if_true,stepB_inl] using ih rb (i+1) a3 b3 (by omega) (by omega)
      · exact⟨_,by rw[if_neg hxy,stepB_inr],by simp only[ordR,hxy,if_false]⟩
theorem r03_Orders_spec (a b:List Val) (ha:WL .val a) (hb:WL .val b) : r03_Orders_fn a b=some (r03_Orders a b):=by
  obtain⟨o,ho,e⟩:=r03_Orders_loop a b ha hb _ _ 0 rfl rfl (by omega) (by omega)
  unfold r03_Orders_fn r03_Orders
  rw[show (0:Int)=((0:Nat):Int) from rfl,ho]
  simp only[List.drop_zero] at e
  rw[← e]
  cases o<;>simp
def F_r03_Orders : FnC Un:=fun args=>match args with
  | [x0,x1]=>(dL .val x0).bind fun a=>(dL .val x1).bind fun b=>some ([],A_r03_Orders (r03_Orders a b),O_r03_Orders (r03_Orders a b))
  | _=>none
theorem ok_r03_Orders : FnOK 94 F_r03_Orders:=by
  intro args ob rs os h hob
  unfold F_r03_Orders at h
  split at h
  · simp only[Option.bind_eq_some_iff,Option.some.injEq,Prod.mk.injEq] at h
    obtain⟨a,e0,b,e1,rfl,rfl,rfl⟩:=h
    obtain rfl:=dL_eq e0
    obtain rfl:=dL_eq e1
    exact⟨fn_contract (M:=M_r03_Orders) rfl (tbl_ok (l1:=[(138,F_r03_Order),(139,F_r03_ints)]) (l2:=[]) (l3:=[]) (l4:=[]) (l5:=[]) ⟨ok_r03_Order,ok_r03_ints,trivial⟩ trivial trivial trivial trivial) Tryz.func94 (by kernel_rfl) N_r03_Orders 0 [.d] (fun hwf=>r03_Orders_run (r03_Orders_spec a b (wfArg hwf (a:=.d (.v (.dat (U:=Un) Ty.val a))) (List.mem_of_getElem? (i:=0) rfl)) (wfArg hwf (a:=.d (.v (.dat (U:=Un) Ty.val b))) (List.mem_of_getElem? (i:=1) rfl)))),hasBody_of Tryz.func94 (by kernel_rfl) (by kernel_rfl)⟩
  · simp at h
end
end Go.Proofs.YtolbngdhgcbmgaaGreat.B
