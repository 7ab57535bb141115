/- Part 10 of the proof: BLaw0 BAwf Sspec Sterms Stermsz Lbulkt. -/
import Derived.OpenShut
import Derived.ChangeArms
import Derived.ChangeShapes
import Derived.Test.YtolbngdhgcbmgaaGreatRows
import Derived.Test.YtolbngdhgcbmgaaGreatPonce9
namespace Go.Proofs.YtolbngdhgcbmgaaGreat.B
open Go Go.RowKit
inductive Fl
  | int | bool | str
  | num (k:IntKind)
  | sl (τ:Ty)
  deriving DecidableEq
def flOf : V Un→Option Fl
  | .s (.int .i64 _)=>some .int
  | .s (.int k _)=>some (.num k)
  | .s (.bool _)=>some .bool
  | .s (.string _)=>some .str
  | .dat τ _=>some (.sl τ)
  | _=>none
def fls (τ:Ty) : List Fl:=(enc τ (dflt τ)).filterMap flOf
theorem fl_cons {vs:List (V Un)} {f:Fl} {fs:List Fl} (h:vs.map flOf=(f::fs).map some) : ∃ v r,vs=v::r∧flOf v=some f∧r.map flOf=fs.map some:=by
  cases vs with
  | nil=>simp at h
  | cons v r=>simp at h;exact⟨v,r,rfl,h.1,by simpa using h.2⟩
theorem fl_nil {vs:List (V Un)} (h:vs.map flOf=([] : List Fl).map some) : vs=[]:=by simpa using h
theorem fl_int {vs:List (V Un)} {fs:List Fl} (h:vs.map flOf=(Fl.int::fs).map some) : ∃ n r,vs=ci n::r∧r.map flOf=fs.map some:=by
  obtain⟨v,r,rfl,h1,h2⟩:=fl_cons h
  unfold flOf at h1;split at h1<;>simp at h1
  exact⟨_,r,rfl,h2⟩
theorem fl_num {vs:List (V Un)} {k:IntKind} {fs:List Fl} (h:vs.map flOf=(Fl.num k::fs).map some) : ∃ n r,vs=.s (.int k n)::r∧r.map flOf=fs.map some:=by
  obtain⟨v,r,rfl,h1,h2⟩:=fl_cons h
  unfold flOf at h1;split at h1<;>simp at h1
  subst h1
  exact⟨_,r,rfl,h2⟩
theorem fl_bool {vs:List (V Un)} {fs:List Fl} (h:vs.map flOf=(Fl.bool::fs).map some) : ∃ n r,vs=cb n::r∧r.map flOf=fs.map some:=by
  obtain⟨v,r,rfl,h1,h2⟩:=fl_cons h
  unfold flOf at h1;split at h1<;>simp at h1
  exact⟨_,r,rfl,h2⟩
theorem fl_str {vs:List (V Un)} {fs:List Fl} (h:vs.map flOf=(Fl.str::fs).map some) : ∃ n r,vs=cs n::r∧r.map flOf=fs.map some:=by
  obtain⟨v,r,rfl,h1,h2⟩:=fl_cons h
  unfold flOf at h1;split at h1<;>simp at h1
  exact⟨_,r,rfl,h2⟩
theorem fl_sl {vs:List (V Un)} {τ:Ty} {fs:List Fl} (h:vs.map flOf=(Fl.sl τ::fs).map some) : ∃ (l:List (Den τ)) (r:List (V Un)),vs=.dat (U:=Un) τ l::r∧r.map flOf=fs.map some:=by
  obtain⟨v,r,rfl,h1,h2⟩:=fl_cons h
  unfold flOf at h1;split at h1<;>simp at h1
  subst h1
  exact⟨_,r,rfl,h2⟩
section
variable {H:Type} {enc':TypeId×Value→H} {P:Program} {w:World} {spare:Nat→Bool} {held:Bool}
def layFs (P:Program) (lay:TypeId→Option (List Fl)) : List Field→Nat→Option (List Fl)
  | [],_=>some []
  | f::r,off=>match lay f.type with
    | some l=>if f.offset=off∧l.length=P.cellsOf f.type then (layFs P lay r (off+l.length)).map (l++·) else none
    | none=>none
def lay (P:Program) (tab:TypeId→TI Un) : Nat→TypeId→Option (List Fl)
  | 0,_=>none
  | k+1,t=>match P.underlying t with
    | some (.int .i64)=>some [.int]
    | some (.int k)=>some [.num k]
    | some (.array n e)=>match lay P tab k e with
      | some l=>if l.length=P.cellsOf e∧n*l.length=P.cellsOf t then some ((List.replicate n l).flatten) else none
      | none=>none
    | some .bool=>some [.bool]
    | some .string=>some [.str]
    | some (.slice e)=>match tab t with
      | .sl e' τ _=>if e'=e then some [.sl τ] else none
      | _=>none
    | some (.struct fs)=>match layFs P (lay P tab k) fs.toList 0 with
      | some l=>if l.length=P.cellsOf t then some l else none
      | none=>none
    | _=>none
inductive VB (byt:Ty→Nat) : V Un→Prop
  | s (x:Value) : VB byt (.s x)
  | dat (τ:Ty) (xs:List (Den τ)) (h:xs.length*byt τ≤reachBytes) (h2:∀ x∈xs,∀ d∈enc τ x,VB byt d) : VB byt (.dat (U:=Un) τ xs)
mutual
inductive BK : V Un→Nat→Prop
  | s (x:Value) (n:Nat) (h:∀ b,x=.string b→b.size≤n) : BK (.s x) n
  | dat (τ:Ty) (xs:List (Den τ)) (n:Nat) (h:BKL τ xs n) : BK (.dat (U:=Un) τ xs) n
inductive BKL : (τ:Ty)→List (Den τ)→Nat→Prop
  | nil (τ:Ty) (n:Nat) : BKL τ [] n
  | cons (τ:Ty) (x:Den τ) (xs:List (Den τ)) (a b n:Nat) (h1:BKS (enc τ x) a) (h2:BKL τ xs b) (hn:a+1+b≤n) : BKL τ (x::xs) n
inductive BKS : List (V Un)→Nat→Prop
  | nil (n:Nat) : BKS [] n
  | cons (v:V Un) (vs:List (V Un)) (a b n:Nat) (h1:BK v a) (h2:BKS vs b) (hn:a+b≤n) : BKS (v::vs) n
end
theorem BKS.mono {vs:List (V Un)} {n m:Nat} (h:BKS vs n) (hm:n≤m) : BKS vs m:=by
  cases h with
  | nil _=>exact .nil _
  | cons v vs a b _ h1 h2 hn=>exact .cons v vs a b _ h1 h2 (by omega)
theorem BKL.mono {τ:Ty} {xs:List (Den τ)} {n m:Nat} (h:BKL τ xs n) (hm:n≤m) : BKL τ xs m:=by
  cases h with
  | nil _ _=>exact .nil _ _
  | cons _ x xs a b _ h1 h2 hn=>exact .cons _ x xs a b _ h1 h2 (by omega)
theorem BKS.append {us:List (V Un)} {n:Nat} (h:BKS us n) {vs:List (V Un)} {m:Nat} (h2:BKS vs m) : BKS (us++vs) (n+m):=by
  induction us generalizing n with
  | nil=>exact h2.mono (by omega)
  | cons u us ih =>
    cases h with
    | cons _ _ a b _ g1 g2 hn=>exact .cons u _ a (b+m) _ g1 (ih g2) (by omega)
theorem BKS.one (x:Value) (n:Nat) (h:∀ b,x=.string b→b.size≤n) : BKS [.s x] n:=.cons _ _ n 0 _ (.s _ _ h) (.nil _) (by omega)
theorem BKS.none (τ:Ty) (n:Nat) : BKS [.dat (U:=Un) τ []] n:=.cons _ _ 0 0 _ (.dat _ _ _ (.nil _ _)) (.nil _) (by omega)
theorem bulk_pos (d:DataW H) : 1≤Rows.uptoBulk d:=by
  cases d with
  | lit l=>cases l<;>simp [Rows.uptoBulk]
  | nil=>simp [Rows.uptoBulk]
  | ptr d=>simp [Rows.uptoBulk]
  | slice elems spare=>simp [Rows.uptoBulk]
  | agg parts=>simp [Rows.uptoBulk]
  | iface t d=>simp [Rows.uptoBulk]
  | map entries=>simp [Rows.uptoBulk]
  | held h=>simp [Rows.uptoBulk]
theorem BKL_of {τ:Ty} : ∀ (xs:List (Den τ)) (es:List (DataW H)),xs.length=es.length→(∀ (i:Nat) x e,xs[i]? = some x→es[i]? = some e→BKS (enc τ x) (Rows.uptoBulk e - 1))→BKL τ xs (Rows.uptoBulkAll es)
  | [],[],_,_=>.nil _ _
  | x::xs,e::es,h,hh=>.cons _ _ _ _ _ _ (hh 0 x e rfl rfl) (BKL_of xs es (by simpa using h) fun i x e hx he=>hh (i+1) x e (by simpa using hx) (by simpa using he)) (by have:=bulk_pos e;simp only[Rows.uptoBulkAll];omega)
  | [],_::_,h,_=>by simp at h
  | _::_,[],h,_=>by simp at h
theorem weightsAll_mem {d:DataW H} {e:TypeId} {k:Nat} : ∀ {l:List (DataW H)},d∈l→k∈d.weights P e→k∈DataW.weightsAll P e l
  | x::l,hd,hk=>by
    rw[DataW.weightsAll]
    rcases List.mem_cons.1 hd with rfl | hd
    · exact List.mem_append.2 (.inl hk)
    · exact List.mem_append.2 (.inr (weightsAll_mem hd hk))
theorem all2_of_get {α β:Type} {R:α→β→Prop} : ∀ {l:List α} {r:List β},l.length=r.length→(∀ (i:Nat) (x:α) (y:β),l[i]? = some x→r[i]? = some y→R x y)→All2 R l r
  | [],[],_,_=>trivial
  | x::l,y::r,h,hh=>⟨hh 0 x y rfl rfl,all2_of_get (by simpa using h) fun i a b ha hb=>hh (i+1) a b (by simpa using ha) (by simpa using hb)⟩
  | [],_::_,h,_=>by simp at h
  | _::_,[],h,_=>by simp at h
def StA (w:World) (b _o:Nat) : Prop:=b<w.heap.size
def LayOK (P:Program) (tab:TypeId→TI Un) : Prop:=∀ t e τ b,tab t=.sl e τ b→∃ k,lay P tab k e=some (fls τ)
def DecTot : Prop:=∀ (τ:Ty) (vs:List (V Un)),vs.map flOf=(fls τ).map some→∃ x,dec τ vs=some x
theorem All2.at {α β:Type} {R:α→β→Prop} : ∀ {l:List α} {r:List β},All2 R l r→∀ (i:Nat) (x:α) (y:β),l[i]? = some x→r[i]? = some y→R x y
  | [],[],_,i,x,y,hx,_=>by simp at hx
  | a::l,b::r,h,i,x,y,hx,hy=>by
    cases i with
    | zero=>simp at hx hy;subst hx;subst hy;exact h.1
    | succ i=>simp at hx hy;exact All2.at h.2 i x y hx hy
theorem fields_data {tab:TypeId→TI Un} {byt:Ty→Nat} {k n:Nat} {cs:List Value}
    (IH:∀ t cs (x:DataW H×List MemPlace) fl,DataW.trod enc' P w 0 spare held n t cs=some x→lay P tab k t=some fl→∃ vs,All2 (VRel En (StA w) w) cs vs∧vs.map flOf=fl.map some∧((∀ q∈x.1.weights P t,q≤reachBytes)→∀ v∈vs,VB byt v)∧BKS vs (Rows.uptoBulk x.1 - 1)) :
    ∀ (fs:List Field) (ys:List (DataW H×List MemPlace)) (off:Nat) (fl:List Fl),layFs P (lay P tab k) fs off=some fl→All2 (fun f y=>DataW.trod enc' P w 0 spare held n f.type ((cs.drop f.offset).take (P.cellsOf f.type))=some y) fs ys →
      off+fl.length=cs.length→∃ vs,All2 (VRel En (StA w) w) (cs.drop off) vs∧vs.map flOf=fl.map some∧((∀ q∈DataW.weightsEach P (fs.map (·.type)) (ys.map (·.1)),q≤reachBytes)→∀ v∈vs,VB byt v)∧BKS vs (Rows.uptoBulkAll (ys.map (·.1)))
  | [],ys,off,fl,h,_,hl=>by
    simp [layFs] at h;subst h
    refine⟨[],?_,rfl,fun _ v hv=>by simp at hv,.nil _⟩
    rw[List.drop_of_length_le (by simp at hl;omega)];trivial
  | f::r,[],off,fl,h,hf,hl=>hf.elim
  | f::r,y::ys,off,fl,h,hf,hl=>by
    simp only[layFs] at h
    split at h
    · rename_i l hlf
      split at h
      · rename_i hc
        rw[Option.map_eq_some_iff] at h
        obtain⟨fl',h1,rfl⟩:=h
        obtain⟨hy,hf2⟩:=hf
        rw[hc.1,← hc.2] at hy
        obtain⟨vs1,a1,a2,a3,a4⟩:=IH _ _ _ _ hy hlf
        obtain⟨vs2,b1,b2,b3,b4⟩:=fields_data IH r ys (off+l.length) fl' h1 hf2 (by simp at hl;omega)
        refine⟨vs1++vs2,?_,by simp [a2,b2],fun hq v hv=>?_,(a4.append b4).mono (by simp only[List.map_cons,Rows.uptoBulkAll];omega)⟩
        · rw[← List.take_append_drop l.length (cs.drop off),List.drop_drop]
          exact a1.append b1
        · simp only[List.map_cons] at hq
          rw[DataW.weightsEach] at hq
          rcases List.mem_append.1 hv with hv | hv
          · exact a3 (fun q hh=>hq q (List.mem_append.2 (.inl hh))) v hv
          · exact b3 (fun q hh=>hq q (List.mem_append.2 (.inr hh))) v hv
      · simp at h
    · simp at h
theorem array_data {byt:Ty→Nat} {n:Nat} {cs:List Value} {e:TypeId} {l:List Fl}
    (IH:∀ cs (x:DataW H×List MemPlace),DataW.trod enc' P w 0 spare held n e cs=some x→∃ vs,All2 (VRel En (StA w) w) cs vs∧vs.map flOf=l.map some∧((∀ q∈x.1.weights P e,q≤reachBytes)→∀ v∈vs,VB byt v)∧BKS vs (Rows.uptoBulk x.1 - 1)) (hle:l.length=P.cellsOf e) :
    ∀ (m:Nat) (ys:List (DataW H×List MemPlace)) (off:Nat),ys.length=m→(∀ i,i<m→DataW.trod enc' P w 0 spare held n e ((cs.drop (off+i*P.cellsOf e)).take (P.cellsOf e))=ys[i]?) →
      off+m*l.length=cs.length→∃ vs,All2 (VRel En (StA w) w) (cs.drop off) vs∧vs.map flOf=((List.replicate m l).flatten).map some∧((∀ q∈DataW.weightsAll P e (ys.map (·.1)),q≤reachBytes)→∀ v∈vs,VB byt v)∧BKS vs (Rows.uptoBulkAll (ys.map (·.1)))
  | 0,ys,off,_,_,hl=>by
    refine⟨[],?_,rfl,fun _ v hv=>by simp at hv,.nil _⟩
    rw[List.drop_of_length_le (by omega)];trivial
  | m+1,[],off,h,_,_=>by simp at h
  | m+1,y::ys,off,hlen,hf,hl=>by
    have h0:=hf 0 (by omega)
    simp only[Nat.zero_mul,Nat.add_zero,List.getElem?_cons_zero] at h0
    obtain⟨vs1,a1,a2,a3,a4⟩:=IH _ _ h0
    obtain⟨vs2,b1,b2,b3,b4⟩:=array_data IH hle m ys (off+l.length) (by simpa using hlen) (fun i hi=>by
      have:=hf (i+1) (by omega)
      rw[List.getElem?_cons_succ] at this
      rw[← this,hle];congr 3;rw[Nat.add_mul,Nat.one_mul];omega) (by rw[Nat.add_mul,Nat.one_mul] at hl;omega)
    refine⟨vs1++vs2,?_,by rw[List.replicate_succ,List.flatten_cons];simp [a2,b2],fun hq v hv=>?_,(a4.append b4).mono (by simp only[List.map_cons,Rows.uptoBulkAll];omega)⟩
    · have e1:=List.take_append_drop l.length (cs.drop off)
      rw[List.drop_drop] at e1
      rw[← e1]
      have a1':All2 (VRel En (StA w) w) ((cs.drop off).take l.length) vs1:=by rw[hle];exact a1
      exact a1'.append b1
    · simp only[List.map_cons] at hq
      rw[DataW.weightsAll] at hq
      rcases List.mem_append.1 hv with hv | hv
      · exact a3 (fun q hh=>hq q (List.mem_append.2 (.inl hh))) v hv
      · exact b3 (fun q hh=>hq q (List.mem_append.2 (.inr hh))) v hv
theorem cells_get {a:Addr} {n:Nat} {cs:List Value} (h:w.cells? 0 a n=some cs) : cs.length=n∧∀ j,j<n→w.cell? (a.add j)=cs[j]?:=by
  unfold World.cells? at h
  rw[if_pos (Nat.zero_le _)] at h
  refine⟨by simpa using mapM_some_length h,fun j hj=>?_⟩
  exact mapM_some_get h j j (by simp [hj])
theorem trod_data {tab:TypeId→TI Un} {byt:Ty→Nat} (hbyt:∀ t e τ b,tab t=.sl e τ b→P.bytesOf e=byt τ) (hlay:LayOK P tab) (hdec:DecTot) (hsz:∀ τ,0<sz τ) (hcell:∀ t e τ b,tab t=.sl e τ b→P.cellsOf e=sz τ) :
    ∀ (n:Nat) (t:TypeId) (cs:List Value) (x:DataW H×List MemPlace) (k:Nat) (fl:List Fl),DataW.trod enc' P w 0 spare held n t cs=some x→lay P tab k t=some fl →
      ∃ vs,All2 (VRel En (StA w) w) cs vs∧vs.map flOf=fl.map some∧((∀ q∈x.1.weights P t,q≤reachBytes)→∀ v∈vs,VB byt v)∧BKS vs (Rows.uptoBulk x.1 - 1):=by
  intro n
  induction n with
  | zero=>intro t cs x k fl h;simp [DataW.trod] at h
  | succ n IH =>
    intro t cs x k fl h hl
    cases k with
    | zero=>simp [lay] at hl
    | succ k =>
      simp only[lay] at hl
      split at hl
      · rename_i hu
        obtain⟨m,rfl,-,hw⟩:=DataW.trod_int hu h
        simp at hl;subst hl
        refine⟨[ci m],⟨.s _ ?_,trivial⟩,rfl,fun _ v hv=>by rw[List.mem_singleton] at hv;subst hv;exact .s _,.one _ _ (fun _ e=>by cases e)⟩
        simpa [Lit.wf,oneC] using hw
      · rename_i kd hne hu
        obtain⟨m,rfl,-,hw⟩:=DataW.trod_int hu h
        simp at hl;subst hl
        refine⟨[.s (.int kd m)],⟨.s _ ?_,trivial⟩,?_,fun _ v hv=>by rw[List.mem_singleton] at hv;subst hv;exact .s _,.one _ _ (fun _ e=>by cases e)⟩
        · simpa [Lit.wf,oneC] using hw
        · cases kd<;>first | rfl | exact (hne rfl).elim
      · rename_i m e hu
        split at hl
        · rename_i l hle
          split at hl
          · rename_i hc
            simp only[Option.some.injEq] at hl;subst hl
            obtain⟨xs,n',hn',hx0,g1,g2,g3⟩:=DataW.trod_array hu h
            obtain rfl : n'=n:=by omega
            obtain⟨vs,b1,b2,b3,b4⟩:=array_data (byt:=byt) (cs:=cs) (e:=e) (l:=l) (fun cs x hx=>IH _ _ _ _ _ hx hle) hc.1 m xs 0 g2 (fun i hi=>by rw[Nat.zero_add];exact g3 i hi) (by rw[g1,← hc.2];omega)
            refine⟨vs,by simpa using b1,b2,fun hq=>b3 (fun q hh=>hq q ?_),b4.mono (by rw[hx0];simp only[Rows.uptoBulk];omega)⟩
            rw[hx0]
            simp only[DataW.weights,hu]
            exact hh
          · simp at hl
        · simp at hl
      · rename_i hu
        simp at hl;subst hl
        obtain⟨b,rfl⟩ : ∃ b,cs=[.bool b]:=by
          unfold DataW.trod at h;rw[hu] at h
          split at h<;>first | exact⟨_,rfl⟩ | simp_all
        exact⟨[cb b],⟨.s _ rfl,trivial⟩,rfl,fun _ v hv=>by rw[List.mem_singleton] at hv;subst hv;exact .s _,.one _ _ (fun _ e=>by cases e)⟩
      · rename_i hu
        simp at hl;subst hl
        obtain⟨s,rfl,hs,hbk⟩ : ∃ s : ByteArray,cs=[.string s]∧s.size≤maxLen∧s.size≤Rows.uptoBulk x.1 - 1:=by
          unfold DataW.trod at h;rw[hu] at h
          split at h<;>first | (rename_i s _;simp at h;exact⟨_,rfl,h.1,by rw[← h.2];simp only[Rows.uptoBulk];first | (rw[toList_size];omega) | simp | (trace_state;omega)⟩) | simp_all
        exact⟨[B.cs s],⟨.s _ (decide_eq_true hs),trivial⟩,rfl,fun _ v hv=>by rw[List.mem_singleton] at hv;subst hv;exact .s _,.one _ _ (fun b e=>by cases e;exact hbk)⟩
      · rename_i e hu
        split at hl
        · rename_i e' τ b ht
          split at hl
          · rename_i he;subst he
            simp at hl;subst hl
            rcases DataW.trod_slice hu h with ⟨rfl,-⟩ | ⟨a,len,cap,elems,rest,m,hm,rfl,hx0,-,h1,h2,h3,h4,-,-⟩
            · exact⟨[.dat (U:=Un) τ []],⟨.nil _ _ _,trivial⟩,rfl,fun _ v hv=>by rw[List.mem_singleton] at hv;subst hv;exact .dat τ [] (by simp) (by simp),.none _ _⟩
            · obtain rfl : m=n:=by omega
              obtain⟨ke,hke⟩:=hlay t e' τ b ht
              have hc:=hcell t e' τ b ht
              have hz:=hsz τ
              have key:∀ i,i<len→∃ (x':Den τ) (cs:List Value),All2 (VRel En (StA w) w) cs (enc τ x')∧cs.length=sz τ∧(∀ j,j<sz τ→w.cell? ((a.add (i*sz τ)).add j)=cs[j]?)∧((∀ q∈x.1.weights P t,q≤reachBytes)→∀ d∈enc τ x',VB byt d)∧(∀ e,elems[i]? = some e→BKS (enc τ x') (Rows.uptoBulk e.1 - 1)):=by
                intro i hi
                have:=h4 i hi
                rw[hc] at this
                have he:elems[i]? = some elems[i]:=List.getElem?_eq_getElem (by omega)
                rw[he,Option.bind_eq_some_iff] at this
                obtain⟨ci,g1,g2⟩:=this
                obtain⟨vs,g3,g4,g8,g9⟩:=IH _ _ _ _ _ g2 hke
                obtain⟨x',hx⟩:=hdec τ vs g4
                obtain⟨g5,g6⟩:=cells_get g1
                have hbk:=enc_back τ vs x' hx
                refine⟨x',ci,by rw[hbk];exact g3,g5,g6,fun hq d hd=>?_,fun e' he'=>by rw[he] at he';injection he' with he';subst he';rw[hbk];exact g9⟩
                rw[hbk] at hd
                refine g8 (fun q hh=>hq q ?_) d hd
                rw[hx0]
                simp only[DataW.weights,hu]
                refine List.mem_cons_of_mem _ (List.mem_append.2 (.inl (weightsAll_mem (List.mem_map.2 ⟨_,List.getElem_mem (by omega:i<elems.length),rfl⟩) hh)))
              cases len with
              | zero=>exact⟨[.dat (U:=Un) τ []],⟨.nil _ _ _,trivial⟩,rfl,fun _ v hv=>by rw[List.mem_singleton] at hv;subst hv;exact .dat τ [] (by simp) (by simp),.none _ _⟩
              | succ len =>
                obtain⟨blk,off,spot⟩:=a
                have hspot:spot=none:=by
                  obtain⟨x',cs,-,g1,g2,-,-⟩:=key 0 (by omega)
                  have:=g2 0 hz
                  rw[List.getElem?_eq_getElem (by omega)] at this
                  simp [Addr.add,World.cell?] at this
                  split at this
                  · cases spot with
                    | none=>rfl
                    | some _=>simp at this
                  · simp at this
                subst hspot
                have hadd:∀ p q : Nat,((⟨blk,off,none⟩ : Addr).add p).add q=⟨blk,off+p+q,none⟩:=by
                  intro p q;unfold Addr.add
                  by_cases hp : p=0<;>by_cases hq : q=0<;>simp [hp,hq]
                let f : Nat→Den τ:=fun i=>if hi : i<len+1 then Classical.choose (key i hi) else dflt τ
                let xs : List (Den τ):=(List.range (len+1)).map f
                have hxl:xs.length=len+1:=by simp [xs]
                have hVB:(∀ q∈x.1.weights P t,q≤reachBytes)→VB byt (.dat (U:=Un) τ xs):=by
                  intro hq
                  refine .dat τ xs ?_ ?_
                  · have:=hq ((elems.length+rest.length)*P.bytesOf e') (by rw[hx0];simp only[DataW.weights,hu,List.length_map];exact List.mem_cons_self)
                    rw[hbyt t e' τ b ht] at this
                    rw[hxl]
                    exact Nat.le_trans (Nat.mul_le_mul_right _ (by omega)) this
                  · intro y hy d hd
                    obtain⟨i,hi,rfl⟩:=List.getElem_of_mem hy
                    have hi':i<len+1:=by omega
                    have hxi:xs[i]=Classical.choose (key i hi'):=by
                      simp only[xs,List.getElem_map,List.getElem_range,f]
                      rw[dif_pos hi']
                    obtain⟨cs,-,-,-,g3,-⟩:=Classical.choose_spec (key i hi')
                    rw[hxi] at hd
                    exact g3 hq d hd
                have hBK:BKL τ xs (Rows.uptoBulkAll (elems.map (·.1))):=by
                  refine BKL_of xs _ (by rw[hxl,List.length_map];omega) fun i x' e hx' he=>?_
                  have hi':i<len+1:=by rw[← hxl];exact (List.getElem?_eq_some_iff.1 hx').1
                  obtain⟨cs,-,-,-,-,g4⟩:=Classical.choose_spec (key i hi')
                  have hxi:x'=Classical.choose (key i hi'):=by
                    rw[List.getElem?_eq_getElem (by omega)] at hx'
                    injection hx' with hx'
                    rw[← hx']
                    simp only[xs,List.getElem_map,List.getElem_range,f]
                    rw[dif_pos hi']
                  rw[List.getElem?_map,Option.map_eq_some_iff] at he
                  obtain⟨e0,h5,rfl⟩:=he
                  rw[hxi]
                  exact g4 e0 h5
                refine⟨[.dat (U:=Un) τ xs],⟨?_,trivial⟩,rfl,fun hq v hv=>by rw[List.mem_singleton] at hv;subst hv;exact hVB hq,.cons _ _ (Rows.uptoBulkAll (elems.map (·.1))) 0 _ (.dat _ _ _ hBK) (.nil _) (by rw[hx0];simp only[Rows.uptoBulk];omega)⟩
                have hrel:VRel En (StA w) w (.slice (some ⟨blk,off,none⟩) xs.length cap) (.dat (U:=Un) τ xs):=by
                  refine .dat (U:=Un) τ xs blk off cap (fun i j=>(w.cell? ⟨blk,off+i*sz τ+j,none⟩).getD .nilIface) ⟨by omega,by rw[hxl];exact Nat.le_trans h1 h2⟩ ?_ ?_
                  · intro i j hi hj
                    obtain⟨cs,-,g1,g2,-,-⟩:=Classical.choose_spec (key i (by omega))
                    obtain⟨v,hv⟩ : ∃ v,cs[j]? = some v:=⟨_,List.getElem?_eq_getElem (by rw[g1];exact hj)⟩
                    have:=g2 j hj
                    rw[hadd,hv] at this
                    have this':w.cell? ⟨blk,off+i*sz τ+j,none⟩=some v:=this
                    refine⟨?_,?_⟩
                    · exact lt_of_cell this'
                    · show w.cell? ⟨blk,off+i*sz τ+j,none⟩=some ((w.cell? ⟨blk,off+i*sz τ+j,none⟩).getD .nilIface)
                      rw[this'];rfl
                  · intro i hi j d hd
                    have hi':i<len+1:=by omega
                    have hxi:xs[i]=Classical.choose (key i hi'):=by
                      simp only[xs,List.getElem_map,List.getElem_range,f]
                      rw[dif_pos hi']
                    obtain⟨cs,g0,g1,g2,-,-⟩:=Classical.choose_spec (key i hi')
                    rw[hxi] at hd
                    have hj:j<sz τ:=by
                      have:=(List.getElem?_eq_some_iff.1 hd).1
                      have hh:=enc_len τ (Classical.choose (key i hi'))
                      exact hh ▸ this
                    obtain⟨v,hv⟩ : ∃ v,cs[j]? = some v:=⟨_,List.getElem?_eq_getElem (by rw[g1];exact hj)⟩
                    have:=g2 j hj
                    rw[hadd,hv] at this
                    have this':w.cell? ⟨blk,off+i*sz τ+j,none⟩=some v:=this
                    show VRel En (StA w) w ((w.cell? ⟨blk,off+i*sz τ+j,none⟩).getD .nilIface) d
                    rw[this']
                    exact All2.at g0 j _ _ hv hd
                rw[hxl] at hrel
                exact hrel
          · simp at hl
        · simp at hl
      · rename_i fs hu
        split at hl
        · rename_i l hfs
          split at hl
          · rename_i hlen
            simp at hl;subst hl
            obtain⟨xs,m,hm,hx0,g1,g2,g3⟩:=DataW.trod_struct hu h
            obtain rfl : m=n:=by omega
            have:=fields_data (tab:=tab) (byt:=byt) (k:=k) (n:=m) (cs:=cs) (fun t cs x fl hx hy=>IH t cs x k fl hx hy) fs.toList xs 0 l hfs (all2_of_get (by simpa using g2.symm) (fun i f y hi hy=>by
              have:=g3 i f (by simpa using hi)
              rw[hy] at this;exact this)) (by omega)
            obtain⟨vs,b1,b2,b3,b4⟩:=this
            refine⟨vs,by simpa using b1,b2,fun hq=>b3 (fun q hh=>hq q ?_),b4.mono (by rw[hx0];simp only[Rows.uptoBulk];omega)⟩
            rw[hx0]
            simp only[DataW.weights,hu]
            exact hh
          · simp at hl
        · simp at hl
      · simp at hl
end
end Go.Proofs.YtolbngdhgcbmgaaGreat.B
namespace Go.Proofs.YtolbngdhgcbmgaaGreat.B
open Go Go.RowKit
section
variable {U:Uni} {M:Mc U} {N:Nat→NS}
noncomputable def obO {α:Type} (p:Prop) (x:Option α) : Option α:=@ite _ p (Classical.propDecidable p) x none
noncomputable def obsO {α:Type} : List Prop→Option α→Option α
  | [],x=>x
  | p::ps,x=>obO p (obsO ps x)
theorem obO_pos {α:Type} {p:Prop} (h:p) {x:Option α} : obO p x=x:=if_pos h
theorem obO_some {α:Type} {p:Prop} {x:Option α} {r:α} (h:obO p x=some r) : p∧x=some r:=by
  unfold obO at h;split at h
  · exact⟨by assumption,h⟩
  · simp at h
theorem obsO_some {α:Type} : ∀ {ps:List Prop} {x:Option α} {r:α},obsO ps x=some r→(∀ p∈ps,p)∧x=some r
  | [],_,_,h=>⟨by simp,h⟩
  | p::ps,x,r,h=>by
    obtain⟨h1,h2⟩:=obO_some h
    obtain⟨h3,h4⟩:=obsO_some h2
    exact⟨fun q hq=>by rcases List.mem_cons.1 hq with rfl | hq;exact h1;exact h3 q hq,h4⟩
theorem obO_bind {α β:Type} {p:Prop} {x:Option α} {f:α→Option β} : (obO p x).bind f=obO p (x.bind f):=by
  unfold obO;split<;>rfl
theorem obsO_bind {α β:Type} {f:α→Option β} : ∀ {ps:List Prop} {x:Option α},(obsO ps x).bind f=obsO ps (x.bind f)
  | [],_=>rfl
  | p::ps,x=>by simp only[obsO,obO_bind,obsO_bind]
def cndO {α:Type} (b:Bool) (x y:Option α) : Option α:=match b with | true=>x | false=>y
theorem cndO_eq {α:Type} {b:Bool} {x y:Option α} : cndO b x y=if b=true then x else y:=by cases b<;>rfl
noncomputable def execF {α:Type} (ops:List Oper) (i:Nat) (o:Oper) (s:S U) (r:Res U) (K:S U→Option α) : Option α :=
  obsO r.ob (match isGuard ops i,r.v with
    | true,.one (.c (.s (.bool x)))=>cndO x (K (s.upd o.dst { r with v:=.one (.c (.s (.bool true))) })) (K (s.upd o.dst { r with v:=.one (.c (.s (.bool false))) }))
    | _,_=>K (s.upd o.dst r))
noncomputable def awfOps {α:Type} (M:Mc U) (ops:List Oper) : List Oper→Nat→S U→List Fp→(S U→List Fp→Option α)→Option α
  | [],_,s,fs,K=>K s fs
  | o::rest,i,s,fs,K =>
    match wantK ops s o with
    | some true=>match eff M s o with
      | some r=>execF ops i o s r fun s'=>awfOps M ops rest (i+1) s' (s.fp M ops o r::fs) K
      | none=>none
    | some false=>awfOps M ops rest (i+1) (s.upd o.dst undefR) (S.fp0 ops o::fs) K
    | none=>none
def ifO {α:Type} (b:Bool) (x:Option α) : Option α:=match b with | true=>x | false=>none
noncomputable def awfReg {α:Type} (M:Mc U) (ops:Array Oper) (drawn:Bool) (s:S U) (K:S U→Option α) : Option α :=
  awfOps M ops.toList ops.toList 0 s [] fun s' fs=>match drawn with
    | false=>K s'
    | true=>ifO (edgesOK 0 ops.toList && apartAll (befores ops.toList []) 0 [] fs.reverse) (K s')
abbrev EX (U:Uni) : Type:=Exit×S U
def pureX (e:Exit) (s:S U) : Option (EX U):=some (e,s)
def normO {α:Type} (n:NS) (K:S U→Option α) (s:S U) : Option α:=match s.norm n with | some s1=>K s1 | none=>none
def stepF (n:NS) (body:S U→(Exit→S U→Option (EX U))→Option (EX U)) (s:S U) : Option (S U ⊕ EX U) :=
  (body s pureX).bind fun p=>match p.1 with
    | .normal=>(p.2.norm n).bind fun s1=>some (.inl s1)
    | e=>(p.2.norm n).bind fun s1=>some (.inr (e,s1))
noncomputable def loopF (n:NS) (body:S U→(Exit→S U→Option (EX U))→Option (EX U)) (s:S U) : Option (EX U):=loopO (stepF n body) s
def roundF (n:NS) (I:S U→Option (EX U)) : Exit→S U→Option (EX U)
  | .normal,s=>normO n I s
  | e,s=>normO n (fun s1=>some (e,s1)) s
def thenF {α:Type} (next:S U→Option α) (Q:Exit→S U→Option α) : Exit→S U→Option α
  | .normal,s=>next s
  | e,s=>Q e s
def blockF {α:Type} (id:Nat) (Q:Exit→S U→Option α) : Exit→S U→Option α
  | .exit id',s=>if id'=id then Q .normal s else Q (.exit id') s
  | e,s=>Q e s
def thenX {α:Type} (Q:Exit→S U→Option α) (p:EX U) : Option α:=Q p.1 p.2
noncomputable def awf (M:Mc U) (N:Nat→NS) : Code→{α:Type}→S U→(Exit→S U→Option α)→Option α
  | .skip,_,s,Q=>Q .normal s
  | .region _ ops drawn,_,s,Q=>awfReg M ops drawn s (Q .normal)
  | .seq a b,_,s,Q=>awf M N a s (thenF (fun s'=>awf M N b s' Q) Q)
  | .cond c a b,_,s,Q=>match s.ev M c with
    | some (.one (.c (.s (.bool x))))=>cndO x (awf M N a (s.onX (N 0).cs c true) Q) (awf M N b (s.onX (N 0).cs c false) Q)
    | _=>none
  | .block id c,_,s,Q=>awf M N c s (blockF id Q)
  | .loop c,_,s,Q=>normO (N (lid c)) (fun s1=>(loopF (N (lid c)) (fun s' Q'=>awf M N c s' Q') s1).bind (thenX Q)) s
  | .exit id,_,s,Q=>Q (.exit id) s
  | .ret,_,s,Q=>Q .ret s
  | _,_,_,_=>none
noncomputable def ctxF {α:Type} (M:Mc U) (N:Nat→NS) : Code→List Nat→(Exit→S U→Option α)→Exit→S U→Option α
  | .seq a b,k::p,Q=>match k with | 0=>ctxF M N a p (thenF (fun s'=>awf M N b s' Q) Q) | _=>ctxF M N b p Q
  | .block id c,_::p,Q=>ctxF M N c p (blockF id Q)
  | .cond _ a b,k::p,Q=>match k with | 3=>ctxF M N a p Q | _=>ctxF M N b p Q
  | _,_,Q=>Q
theorem awfOps_bind {α β:Type} {ops:List Oper} {f:α→Option β} : ∀ (l:List Oper) (i:Nat) (s:S U) (fs:List Fp) (K:S U→List Fp→Option α),
    (awfOps M ops l i s fs K).bind f=awfOps M ops l i s fs fun s' fs'=>(K s' fs').bind f
  | [],_,_,_,_=>rfl
  | o::rest,i,s,fs,K=>by
    simp only[awfOps]
    split
    · split
      · rename_i r _
        unfold execF
        rw[obsO_bind]
        congr 1
        split
        · rename_i b _ _
          cases b
          · exact awfOps_bind rest _ _ _ K
          · exact awfOps_bind rest _ _ _ K
        · exact awfOps_bind rest _ _ _ K
      · rfl
    · exact awfOps_bind rest _ _ _ K
    · rfl
theorem awfReg_bind {α β:Type} {ops:Array Oper} {drawn:Bool} {s:S U} {K:S U→Option α} {f:α→Option β} : (awfReg M ops drawn s K).bind f=awfReg M ops drawn s fun s'=>(K s').bind f:=by
  unfold awfReg
  rw[awfOps_bind]
  congr 1
  funext s' fs
  cases drawn with
  | false=>rfl
  | true=>dsimp only;unfold ifO;split<;>rfl
theorem normO_bind {α β:Type} {n:NS} {K:S U→Option α} {s:S U} {f:α→Option β} : (normO n K s).bind f=normO n (fun s1=>(K s1).bind f) s:=by
  unfold normO;split<;>rfl
theorem awf_bind {α β:Type} {f:α→Option β} : ∀ (c:Code) (s:S U) (Q:Exit→S U→Option α),(awf M N c s Q).bind f=awf M N c s fun e s'=>(Q e s').bind f
  | .skip,_,_=>rfl
  | .region _ _ _,_,_=>awfReg_bind
  | .seq a b,s,Q=>by
    simp only[awf]
    rw[awf_bind a]
    congr 1
    funext e s'
    cases e<;>first | rfl | exact awf_bind b s' Q
  | .cond c a b,s,Q=>by
    simp only[awf]
    split
    · rename_i x _
      cases x
      · exact awf_bind b _ Q
      · exact awf_bind a _ Q
    · rfl
  | .block id c,s,Q=>by
    simp only[awf]
    rw[awf_bind c]
    congr 1
    funext e s'
    cases e<;>first | rfl | (simp only[blockF];split<;>rfl)
  | .loop c,s,Q=>by
    simp only[awf]
    rw[normO_bind]
    congr 1
    funext s1
    rw[Option.bind_assoc]
    rfl
  | .exit _,_,_=>rfl
  | .ret,_,_=>rfl
  | .scope _,_,_=>rfl
  | .label _,_,_=>rfl
  | .goto _,_,_=>rfl
  | .refuse _,_,_=>rfl
  | .rangeFunc _ _ _ _,_,_=>rfl
theorem awf_pure {α:Type} (c:Code) (s:S U) (Q:Exit→S U→Option α) : awf M N c s Q=(awf M N c s pureX).bind (thenX Q):=by
  rw[awf_bind];rfl
theorem loopF_eq (n:NS) (c:Code) (s:S U) : loopF n (fun s' Q'=>awf M N c s' Q') s=awf M N c s (roundF n (loopF n (fun s' Q'=>awf M N c s' Q'))):=by
  rw[awf_pure c s (roundF n _)]
  unfold loopF
  rw[loopO_eq]
  conv=>lhs;arg 2;unfold stepF;dsimp only
  cases h : awf M N c s pureX with
  | none=>simp only[Option.bind_none,stepB_none]
  | some p =>
    obtain⟨e,s'⟩:=p
    simp only[Option.bind_some,thenX]
    cases e<;>simp only[roundF,normO]<;>cases s'.norm n<;>rfl
theorem awfOps_awp {α:Type} {ops:List Oper} {r:α} : ∀ (l:List Oper) (i:Nat) (s:S U) (fs:List Fp) {K:S U→List Fp→Option α} {K':S U→List Fp→Prop},(∀ s' fs',K s' fs'=some r→K' s' fs') →
    awfOps M ops l i s fs K=some r→awpOps M ops l i s fs K'
  | [],_,s,fs,_,_,hK,h=>hK s fs h
  | o::rest,i,s,fs,K,K',hK,h=>by
    simp only[awfOps] at h
    simp only[awpOps]
    split at h
    · rename_i hw
      rw[hw]
      dsimp only
      split at h
      · rename_i x hx
        rw[hx]
        unfold execF at h
        unfold execK
        obtain⟨h1,h2⟩:=obsO_some h
        refine obs_iff.2 ⟨h1,?_⟩
        split at h2
        · rename_i b hg hv
          rw[hg,hv]
          dsimp only
          cases b
          · exact awfOps_awp rest _ _ _ hK h2
          · exact awfOps_awp rest _ _ _ hK h2
        · rename_i hno
          split
          · rename_i b hg hv;exact absurd hv (hno b hg)
          · exact awfOps_awp rest _ _ _ hK h2
      · simp at h
    · rename_i hw
      rw[hw]
      exact awfOps_awp rest _ _ _ hK h
    · simp at h
theorem awfReg_awp {α:Type} {ops:Array Oper} {drawn:Bool} {s:S U} {K:S U→Option α} {K':S U→Prop} {r:α} (hK:∀ s',K s'=some r→K' s') (h:awfReg M ops drawn s K=some r) : awpReg M ops drawn s K':=by
  unfold awfReg at h
  unfold awpReg
  refine awfOps_awp _ _ _ _ (fun s' fs h'=>?_) h
  cases drawn with
  | false=>exact hK s' h'
  | true =>
    dsimp only at h' ⊢
    unfold ifO at h'
    unfold iff'
    split at h'
    · rename_i hb;rw[hb];exact hK s' h'
    · simp at h'
theorem normO_awp {α:Type} {n:NS} {s:S U} {K:S U→Option α} {K':S U→Prop} {r:α} (hK:∀ s',K s'=some r→K' s') (h:normO n K s=some r) : normK n K' s:=by
  unfold normO at h
  unfold normK
  split at h
  · rename_i s1 h1;rw[h1];exact hK s1 h
  · simp at h
theorem awf_awp : ∀ (c:Code) {α:Type} {s:S U} {Q:Exit→S U→Option α} {Q':Exit→S U→Prop} {r:α},(∀ e s',Q e s'=some r→Q' e s')→awf M N c s Q=some r→awp M N c s Q'
  | .skip,_,_,_,_,_,hQ,h=>hQ _ _ h
  | .region _ _ _,_,_,_,_,_,hQ,h=>awfReg_awp (hQ _) h
  | .seq a b,_,s,Q,Q',r,hQ,h=>by
    refine awf_awp a (fun e s' h'=>?_) h
    cases e<;>first | exact awf_awp b hQ h' | exact hQ _ _ h'
  | .cond c a b,_,s,Q,Q',r,hQ,h=>by
    simp only[awf] at h
    simp only[awp]
    split at h
    · rename_i x hx
      rw[hx]
      dsimp only
      cases x
      · exact awf_awp b hQ h
      · exact awf_awp a hQ h
    · simp at h
  | .block id c,_,s,Q,Q',r,hQ,h=>by
    refine awf_awp c (fun e s' h'=>?_) h
    cases e<;>first | exact hQ _ _ h' | (simp only[blockF] at h';simp only[blockK];split at h'<;>rename_i hh<;>simp only[hh,if_true,if_false]<;>exact hQ _ _ h')
  | .loop c,α,s,Q,Q',r,hQ,h=>by
    refine normO_awp (n:=N (lid c)) (K':=itersK (N (lid c)) (awp M N c) Q') (fun s1 h1=>?_) h
    obtain⟨p,hp,hq⟩:=Option.bind_eq_some_iff.1 h1
    refine loop_run (step:=stepF (N (lid c)) (fun s' Q'=>awf M N c s' Q')) (I:=itersK (N (lid c)) (awp M N c) Q') (J:=fun p=>Q' p.1 p.2) ?_ hp (hQ _ _ hq)
    intro s2 o ho hI
    unfold stepF at ho
    obtain⟨⟨e,s3⟩,h3,h4⟩:=Option.bind_eq_some_iff.1 ho
    have key:∀ k,(∀ s4,s3.norm (N (lid c))=some s4→(e=.normal→iterK (N (lid c)) (awp M N c) Q' k s4)∧(e≠.normal→Q' e s4))→(∃ s4,s3.norm (N (lid c))=some s4)→itersK (N (lid c)) (awp M N c) Q' s2:=by
      intro k hk hs
      refine⟨k+1,?_⟩
      simp only[iterK]
      refine awf_awp c (fun e' s' h'=>?_) h3
      simp only[pureX,Option.some.injEq,Prod.mk.injEq] at h'
      obtain⟨rfl,rfl⟩:=h'
      obtain⟨s4,hs4⟩:=hs
      obtain⟨k1,k2⟩:=hk s4 hs4
      cases e'<;>simp only[roundK,normK,hs4]<;>first | exact k1 rfl | exact k2 (by simp)
    cases e with
    | normal =>
      obtain⟨s4,h5,h6⟩:=Option.bind_eq_some_iff.1 h4
      cases h6
      obtain⟨k,hk⟩:=hI
      exact key k (fun s4' h'=>by rw[h5] at h';cases h';exact⟨fun _=>hk,fun hn=>(hn rfl).elim⟩) ⟨s4,h5⟩
    | _ =>
      obtain⟨s4,h5,h6⟩:=Option.bind_eq_some_iff.1 h4
      cases h6
      exact key 0 (fun s4' h'=>by rw[h5] at h';cases h';exact⟨fun hn=>by simp at hn,fun _=>hI⟩) ⟨s4,h5⟩
  | .exit _,_,_,_,_,_,hQ,h=>hQ _ _ h
  | .ret,_,_,_,_,_,hQ,h=>hQ _ _ h
  | .scope _,_,_,_,_,_,_,h=>by simp [awf] at h
  | .label _,_,_,_,_,_,_,h=>by simp [awf] at h
  | .goto _,_,_,_,_,_,_,h=>by simp [awf] at h
  | .refuse _,_,_,_,_,_,_,h=>by simp [awf] at h
  | .rangeFunc _ _ _ _,_,_,_,_,_,_,h=>by simp [awf] at h
abbrev RF (U:Uni) : Type:=List (A U)×List (Ob U)
abbrev RGF (U:Uni) : Type:=List (A U)×List (Bool×List (C U))×List (Ob U)
def retF0 (M:Mc U) (rv:List ResultVar) (fm:List Kind) (s:S U) : Option (RF U) :=
  match s.ress M rv with
  | some al=>match s.out fm al with
    | some (rs,os)=>some (rs,os)
    | none=>none
  | none=>none
def retF (M:Mc U) (rv:List ResultVar) (fm:List Kind) : Exit→S U→Option (RF U)
  | .ret,s=>retF0 M rv fm s
  | .normal,s=>retF0 M rv fm s
  | _,_=>none
def retGF0 (M:Mc U) (nb:Nat) (rv:List ResultVar) (fm:List Kind) (s:S U) : Option (RGF U) :=
  match s.ress M rv,s.boxesAt (List.range nb) with
  | some al,some bs=>match s.out fm (boxAs bs++al) with
    | some (rs,os)=>match splitB bs rs with
      | some (bs',rs')=>some (rs',bs',os)
      | none=>none
    | none=>none
  | _,_=>none
def retGF (M:Mc U) (nb:Nat) (rv:List ResultVar) (fm:List Kind) : Exit→S U→Option (RGF U)
  | .ret,s=>retGF0 M nb rv fm s
  | .normal,s=>retGF0 M nb rv fm s
  | _,_=>none
theorem retF_awp {rv:List ResultVar} {fm:List Kind} {r:RF U} : ∀ e s,retF M rv fm e s=some r→retQ M rv fm (fun rs os=>rs=r.1∧os=r.2) e s:=by
  have key:∀ s,retF0 M rv fm s=some r→retK M rv fm (fun rs os=>rs=r.1∧os=r.2) s:=by
    intro s h
    unfold retF0 at h
    unfold retK
    split at h
    · rename_i al h1
      rw[h1];dsimp only
      split at h
      · rename_i rs os h2;rw[h2];cases h;exact⟨rfl,rfl⟩
      · simp at h
    · simp at h
  intro e s h
  cases e<;>first | exact key s h | simp [retF] at h
theorem retGF_awp {nb:Nat} {rv:List ResultVar} {fm:List Kind} {r:RGF U} : ∀ e s,retGF M nb rv fm e s=some r→retGQ M nb rv fm (fun rs bs os=>rs=r.1∧bs=r.2.1∧os=r.2.2) e s:=by
  have key:∀ s,retGF0 M nb rv fm s=some r→retGK M nb rv fm (fun rs bs os=>rs=r.1∧bs=r.2.1∧os=r.2.2) s:=by
    intro s h
    unfold retGF0 at h
    unfold retGK
    split at h
    · rename_i al bs h1 h2
      rw[h1,h2];dsimp only
      split at h
      · rename_i rs os h3
        rw[h3];dsimp only
        split at h
        · rename_i bs' rs' h4;rw[h4];cases h;exact⟨rfl,rfl,rfl⟩
        · simp at h
      · simp at h
    · simp at h
  intro e s h
  cases e<;>first | exact key s h | simp [retGF] at h
theorem run_of_awf {c:Code} {s:S U} {rv:List ResultVar} {fm:List Kind} {r:RF U} (h:awf M N c s (retF M rv fm)=some r) : Runs (awp M N c s (retQ M rv fm fun rs os=>rs=r.1∧os=r.2)) :=
  ⟨awf_awp c retF_awp h⟩
theorem runG_of_awf {c:Code} {s:S U} {nb:Nat} {rv:List ResultVar} {fm:List Kind} {r:RGF U} (h:awf M N c s (retGF M nb rv fm)=some r) : Runs (awp M N c s (retGQ M nb rv fm fun rs bs os=>rs=r.1∧bs=r.2.1∧os=r.2.2)) :=
  ⟨awf_awp c retGF_awp h⟩
end
theorem fn_contractF {M:Mc Un} {fns:FuncId→Option (FnC Un)} {fvs:FuncId→Option (FV Un)} {clo:FuncId→Option (List (List (DC Un))→Option (FV Un))} {gns:FuncId→Option (List Bool×FnG Un)} {ups:FuncId→Option (FnU Un)} (hM:M=mach fns fvs clo gns ups) (hF:FnsOK Tryz.prog (mach fns fvs clo gns ups))
    {f:FuncId} {fn:Func} (hf:Tryz.prog.funcs[f]? = some fn) (hb:fn.body=some (bodyOf fn)) (N:Nat→NS) (x:Nat) (fm:List Kind) {args:List (D Un)} {rs:List (A Un)} {os:List (Ob Un)}
    (h:(∀ a∈args,DWf En a)→awf M N (bodyOf fn) (entry fn.ntmps x args) (retF M fn.results.toList fm)=some (rs,os)) : Contract Tryz.prog En f args rs os :=
  fn_contract hM hF hf hb N x fm fun ha=>run_of_awf (r:=(rs,os)) (h ha)
theorem wrap_next {n i:Nat} (hi:i<n) (hn:n≤9223372036854775807) : IntKind.i64.wrap ((i:Int)+1)=((i+1:Nat):Int):=by
  rw[IntKind.wrap_i64];omega
theorem loop_fold {σ α:Type} {L:S Un→Option (EX Un)} {st:σ→Int→S Un} {l:List α} {d:α} {g:σ→α→σ} (Inv:Nat→σ→Prop) (hl:l.length≤9223372036854775807)
    (step:∀ (a:σ) (i:Nat) (x:α),(i:Int)<(l.length:Int)→l.getD i d=x→Inv i a→Inv (i+1) (g a x)∧L (st a i)=L (st (g a x) (IntKind.i64.wrap ((i:Int)+1))))
    {e:Exit} (stop:∀ a,Inv l.length a→L (st a (l.length:Int))=some (e,st a (l.length:Int))) (a:σ) (h0:Inv 0 a) :
    L (st a (0:Int))=some (e,st (l.foldl g a) (l.length:Int))∧Inv l.length (l.foldl g a):=by
  have key:∀ (r:List α) (i:Nat) (a:σ),l.drop i=r→i≤l.length→Inv i a→L (st a i)=some (e,st (r.foldl g a) (l.length:Int))∧Inv l.length (r.foldl g a):=by
    intro r
    induction r with
    | nil =>
      intro i a hr hi hI
      have : l.length≤i:=by rw[← List.drop_eq_nil_iff];exact hr
      obtain rfl : i=l.length:=by omega
      exact⟨stop a hI,hI⟩
    | cons x r ih =>
      intro i a hr hi hI
      have hlt:i<l.length:=by
        rcases Nat.lt_or_ge i l.length with g | g
        · exact g
        · rw[List.drop_of_length_le g] at hr;simp at hr
      have hx:l.getD i d=x:=by
        rw[List.drop_eq_getElem_cons hlt] at hr
        rw[List.getD_eq_getElem?_getD,List.getElem?_eq_getElem hlt]
        exact (List.cons.inj hr).1
      have hr':l.drop (i+1)=r:=by
        rw[List.drop_eq_getElem_cons hlt] at hr
        exact (List.cons.inj hr).2
      obtain⟨h1,h2⟩:=step a i x (by omega) hx hI
      rw[h2,wrap_next hlt hl]
      exact ih (i+1) (g a x) hr' hlt h1
  exact key l 0 a rfl (Nat.zero_le _) h0
theorem loop_end {α:Type} {X:Option (EX Un)} {e:Exit} {s:S Un} {C:Exit→S Un→Option α} (h:X=some (e,s)) : X.bind (thenX C)=C e s:=by rw[h];rfl
def bl : Nat→Nat→List Bool
  | 0,_=>[]
  | k+1,m=>Nat.beq (m % 2) 1::bl k (m / 2)
def ai (n:Int) : AV Un:=.one (.c (.s (.int .i64 n)))
def ab (b:Bool) : AV Un:=.one (.c (.s (.bool b)))
def at_ (b:ByteArray) : AV Un:=.one (.c (.s (.string b)))
def ax (k:Nat) : AV Un:=.one (.c (.bx k 0))
def al (τ:Ty) (l:List (Den τ)) : AV Un:=.one (.c (.sl (U:=Un) τ l false))
def ag (τ:Ty) (x:Den τ) : AV Un:=.one (.agg (encC τ x))
def ao (k:Nat) : AV Un:=.one (.c (.ob k 0))
def bi (n:Int) : Option (Bool×List (C Un)):=some (false,[.s (.int .i64 n)])
def bb (n:Bool) : Option (Bool×List (C Un)):=some (false,[.s (.bool n)])
def bg (τ:Ty) (x:Den τ) : Option (Bool×List (C Un)):=some (false,encC τ x)
def bo (k:Nat) : Option (Bool×List (C Un)):=some (false,[.ob k 0])
def Term.ids (x:Term) : Term:=.mk (Term.op x) (Term.v x) (Term.depth x) (Term.at_ x) (Term.name x) (Term.kids x) (Term.sub x) (Term.type x)
theorem Term.ids_eq (x:Term) : Term.ids x=x:=by cases x;rfl
def Agg.ids (x:Agg) : Agg:=.mk (Agg.name x) (Agg.distinct x) (Agg.t x)
theorem Agg.ids_eq (x:Agg) : Agg.ids x=x:=by cases x;rfl
def Rel.ids (x:Rel) : Rel:=.mk (Rel.op x) (Rel.table x) (Rel.cols x) (Rel.kids x) (Rel.terms x) (Rel.aggs x) (Rel.keys x) (Rel.limit x) (Rel.skip x) (Rel.all x) (Rel.rows x)
theorem Rel.ids_eq (x:Rel) : Rel.ids x=x:=by cases x;rfl
def Plan.ids (x:Plan) : Plan:=.mk (Plan.op x) (Plan.table x) (Plan.index x) (Plan.cols x) (Plan.kids x) (Plan.terms x) (Plan.lkeys x) (Plan.rkeys x) (Plan.aggs x) (Plan.keys x) (Plan.out x) (Plan.lo x) (Plan.hi x) (Plan.limit x) (Plan.skip x) (Plan.all x) (Plan.rows x) (Plan.est x) (Plan.cost x)
theorem Plan.ids_eq (x:Plan) : Plan.ids x=x:=by cases x;rfl
end Go.Proofs.YtolbngdhgcbmgaaGreat.B
namespace Go.Proofs.YtolbngdhgcbmgaaGreat.B
open Go Go.RowKit
set_option maxRecDepth 100000
noncomputable section
attribute [local irreducible] awp ctxK itersK iterK retQ retGQ
def inN (n:Int) : Bool:=decide (-1000000000000000≤n∧n≤1000000000000000)
def plainB (s:ByteArray) : Bool:=s.toList.all (fun b=>decide (32≤b.toNat∧b.toNat≤126)) && decide (s.size≤100)
def rightV (v:Val) : Bool :=
  if v.kind=0 then decide (v.n=0) && decide (v.s.size=0)
  else if v.kind=1 then decide (v.n=0∨v.n=1) && decide (v.s.size=0)
  else if v.kind=2 then inN v.n && decide (v.s.size=0)
  else if v.kind=3 then decide (v.n=0) && plainB v.s
  else false
def cmpI (a b:Int) : Int:=if a<b then -1 else if a > b then 1 else 0
def cmpL : List UInt8→List UInt8→Int
  | [],[]=>0
  | [],_::_=>-1
  | _::_,[]=>1
  | a::l,b::r=>if a=b then cmpL l r else cmpI a.toNat b.toNat
def cmpS (a b:ByteArray) : Int:=cmpL a.toList b.toList
def ordV (a b:Val) : Int:=if a.kind=b.kind then (if a.n=b.n then cmpS a.s b.s else cmpI a.n b.n) else cmpI a.kind b.kind
def ordR : List Val→List Val→Int
  | [],[]=>0
  | [],_::_=>-1
  | _::_,[]=>1
  | a::l,b::r=>if ordV a b=0 then ordR l r else ordV a b
theorem toList_size (s:ByteArray) : s.toList.length=s.size:=by rw[ByteArray.toList_eq,Array.length_toList];rfl
theorem toList_nil (s:ByteArray) : s.toList=[]↔s.size=0:=by rw[← toList_size];exact List.length_eq_zero_iff.symm
theorem empty_eq (s:ByteArray) : (s.toList == (⟨#[]⟩ : ByteArray).toList)=decide (s.size=0):=by
  have h:(⟨#[]⟩ : ByteArray).toList=[]:=by rw[toList_nil];rfl
  rw[h]
  by_cases hs : s.size=0
  · rw[(toList_nil s).2 hs,decide_eq_true hs];rfl
  · have : s.toList≠[]:=fun e=>hs ((toList_nil s).1 e)
    rw[decide_eq_false hs];simpa using this
theorem bytes_ext {a b:ByteArray} (h:a.toList=b.toList) : a=b:=by
  rw[ByteArray.toList_eq,ByteArray.toList_eq] at h
  cases a;cases b;simp at h;subst h;rfl
theorem cmpI_zero {a b:Int} : cmpI a b=0↔a=b:=by
  unfold cmpI
  by_cases h1 : a<b
  · rw[if_pos h1];omega
  · rw[if_neg h1]
    by_cases h2 : a > b
    · rw[if_pos h2];omega
    · rw[if_neg h2];omega
theorem cmpL_zero : ∀ {a b:List UInt8},cmpL a b=0↔a=b
  | [],[]=>by simp [cmpL]
  | [],_::_=>by simp [cmpL]
  | _::_,[]=>by simp [cmpL]
  | a::l,b::r=>by
    simp only[cmpL]
    split
    · rename_i h;subst h;rw[cmpL_zero];simp
    · rename_i h
      rw[cmpI_zero]
      constructor
      · intro e;exact absurd (UInt8.toNat_inj.1 (Int.ofNat_inj.1 e)) h
      · intro e;simp at e;exact absurd e.1 h
theorem cmpS_zero {a b:ByteArray} : cmpS a b=0↔a=b:=by
  unfold cmpS;rw[cmpL_zero]
  exact⟨bytes_ext,fun h=>by rw[h]⟩
theorem ordV_zero {a b:Val} : ordV a b=0↔a=b:=by
  cases a;cases b
  unfold ordV
  simp only
  split
  · split
    · rename_i h1 h2;subst h1;subst h2;rw[cmpS_zero];simp
    · rename_i h1 h2;rw[cmpI_zero];simp [h2]
  · rename_i h1;rw[cmpI_zero];simp [h1]
theorem ordR_zero : ∀ {a b:List Val},ordR a b=0↔a=b
  | [],[]=>by simp [ordR]
  | [],_::_=>by simp [ordR]
  | _::_,[]=>by simp [ordR]
  | a::l,b::r=>by
    simp only[ordR]
    split
    · rename_i h;rw[ordV_zero] at h;subst h;rw[ordR_zero];simp
    · rename_i h
      constructor
      · intro e;exact absurd e h
      · intro e;simp at e;rw[e.1] at h;exact absurd (ordV_zero.2 rfl) h
end
end Go.Proofs.YtolbngdhgcbmgaaGreat.B
namespace Go.Proofs.YtolbngdhgcbmgaaGreat.B
open Go Go.RowKit
set_option maxRecDepth 100000
noncomputable section
attribute [local irreducible] awp ctxK itersK iterK retQ retGQ
mutual
def Term.ht : Term→Nat
  | .mk _ _ _ _ _ kids sub _=>max (htTs kids) (htRs sub)+1
def htTs : List Term→Nat
  | []=>0
  | t::r=>max t.ht (htTs r)
def Agg.ht : Agg→Nat
  | .mk _ _ t=>htTs t+1
def htAs : List Agg→Nat
  | []=>0
  | t::r=>max t.ht (htAs r)
def Rel.ht : Rel→Nat
  | .mk _ _ _ kids terms aggs _ _ _ _ _=>max (htRs kids) (max (htTs terms) (htAs aggs))+1
def htRs : List Rel→Nat
  | []=>0
  | t::r=>max t.ht (htRs r)
end
theorem htTs_mem {t:Term} : ∀ {l:List Term},t∈l→t.ht≤htTs l
  | x::l,h=>by
    simp only[htTs]
    rcases List.mem_cons.1 h with rfl | h
    · omega
    · have:=htTs_mem h;omega
theorem htRs_mem {t:Rel} : ∀ {l:List Rel},t∈l→t.ht≤htRs l
  | x::l,h=>by
    simp only[htRs]
    rcases List.mem_cons.1 h with rfl | h
    · omega
    · have:=htRs_mem h;omega
theorem htAs_mem {t:Agg} : ∀ {l:List Agg},t∈l→t.ht≤htAs l
  | x::l,h=>by
    simp only[htAs]
    rcases List.mem_cons.1 h with rfl | h
    · omega
    · have:=htAs_mem h;omega
theorem Term.ht_kid {t k:Term} (h:k∈t.kids) : k.ht<t.ht:=by
  cases t;simp only[Term.kids_mk] at h;simp only[Term.ht];have:=htTs_mem h;omega
theorem Term.ht_sub {t:Term} {k:Rel} (h:k∈t.sub) : k.ht<t.ht:=by
  cases t;simp only[Term.sub_mk] at h;simp only[Term.ht];have:=htRs_mem h;omega
theorem Rel.ht_kid {r k:Rel} (h:k∈r.kids) : k.ht<r.ht:=by
  cases r;simp only[Rel.kids_mk] at h;simp only[Rel.ht];have:=htRs_mem h;omega
theorem Rel.ht_term {r:Rel} {k:Term} (h:k∈r.terms) : k.ht<r.ht:=by
  cases r;simp only[Rel.terms_mk] at h;simp only[Rel.ht];have:=htTs_mem h;omega
theorem Rel.ht_agg {r:Rel} {k:Agg} (h:k∈r.aggs) : k.ht<r.ht:=by
  cases r;simp only[Rel.aggs_mk] at h;simp only[Rel.ht];have:=htAs_mem h;omega
theorem getD_mem {α:Type} {l:List α} {i:Nat} {d:α} (h:i<l.length) : l.getD i d∈l:=by
  rw[List.getD_eq_getElem?_getD,List.getElem?_eq_getElem h];exact List.getElem_mem h
end
end Go.Proofs.YtolbngdhgcbmgaaGreat.B
namespace Go.Proofs.YtolbngdhgcbmgaaGreat.B
open Go Go.RowKit
set_option maxRecDepth 100000
noncomputable section
attribute [local irreducible] awp ctxK itersK iterK retQ retGQ awf ctxF loopF
mutual
def Term.sz : Term→Nat
  | .mk _ _ _ _ _ kids sub _=>szTs kids+szRs sub+1
def szTs : List Term→Nat
  | []=>0
  | t::r=>t.sz+szTs r
def Agg.sz : Agg→Nat
  | .mk _ _ t=>szTs t+1
def szAs : List Agg→Nat
  | []=>0
  | t::r=>t.sz+szAs r
def Rel.sz : Rel→Nat
  | .mk _ _ _ kids terms aggs _ _ _ _ rows=>szRs kids+szTs terms+szAs aggs+rows.length+1
def szRs : List Rel→Nat
  | []=>0
  | t::r=>t.sz+szRs r
end
theorem Term.sz_eq (t:Term) : t.sz=szTs t.kids+szRs t.sub+1:=by cases t;simp only[Term.sz,Term.kids_mk,Term.sub_mk]
theorem Agg.sz_eq (a:Agg) : a.sz=szTs a.t+1:=by cases a;simp only[Agg.sz,Agg.t_mk]
theorem Rel.sz_eq (r:Rel) : r.sz=szRs r.kids+szTs r.terms+szAs r.aggs+r.rows.length+1:=by cases r;simp only[Rel.sz,Rel.kids_mk,Rel.terms_mk,Rel.aggs_mk,Rel.rows_mk]
theorem szTs_mem {t:Term} : ∀ {l:List Term},t∈l→t.sz≤szTs l
  | x::l,h=>by
    simp only[szTs]
    rcases List.mem_cons.1 h with rfl | h
    · omega
    · have:=szTs_mem h;omega
theorem szRs_mem {t:Rel} : ∀ {l:List Rel},t∈l→t.sz≤szRs l
  | x::l,h=>by
    simp only[szRs]
    rcases List.mem_cons.1 h with rfl | h
    · omega
    · have:=szRs_mem h;omega
theorem szAs_mem {t:Agg} : ∀ {l:List Agg},t∈l→t.sz≤szAs l
  | x::l,h=>by
    simp only[szAs]
    rcases List.mem_cons.1 h with rfl | h
    · omega
    · have:=szAs_mem h;omega
theorem szTs_len : ∀ l : List Term,l.length≤szTs l
  | []=>Nat.zero_le _
  | x::l=>by have:=szTs_len l;have h:=x.sz_eq;simp only[szTs,List.length_cons];omega
theorem szRs_len : ∀ l : List Rel,l.length≤szRs l
  | []=>Nat.zero_le _
  | x::l=>by have:=szRs_len l;have h:=x.sz_eq;simp only[szRs,List.length_cons];omega
theorem szAs_len : ∀ l : List Agg,l.length≤szAs l
  | []=>Nat.zero_le _
  | x::l=>by have:=szAs_len l;have h:=x.sz_eq;simp only[szAs,List.length_cons];omega
theorem szTs_append : ∀ (a b:List Term),szTs (a++b)=szTs a+szTs b
  | [],b=>by simp [szTs]
  | x::a,b=>by simp only[List.cons_append,szTs,szTs_append a b];omega
end
end Go.Proofs.YtolbngdhgcbmgaaGreat.B
namespace Go.Proofs.YtolbngdhgcbmgaaGreat.B
open Go Go.RowKit
set_option linter.unusedVariables false
theorem BKS.cons_inv {v:V Un} {vs:List (V Un)} {n:Nat} (h:BKS (v::vs) n) : ∃ a b,BK v a∧BKS vs b∧a+b≤n:=by
  cases h with
  | cons _ _ a b _ h1 h2 hn=>exact⟨a,b,h1,h2,hn⟩
theorem BKL.cons_inv {τ:Ty} {x:Den τ} {xs:List (Den τ)} {n:Nat} (h:BKL τ (x::xs) n) : ∃ a b,BKS (enc τ x) a∧BKL τ xs b∧a+1+b≤n:=by
  cases h with
  | cons _ _ _ a b _ h1 h2 hn=>exact⟨a,b,h1,h2,hn⟩
theorem BK.dat_inv {τ:Ty} {xs:List (Den τ)} {n:Nat} (h:BK (.dat (U:=Un) τ xs) n) : BKL τ xs n:=by
  cases h with
  | dat _ _ _ h=>exact h
theorem BKL.len {τ:Ty} : ∀ {xs:List (Den τ)} {n:Nat},BKL τ xs n→xs.length≤n
  | [],_,_=>Nat.zero_le _
  | x::xs,n,h=>by
    obtain⟨a,b,_,h2,hn⟩:=h.cons_inv
    have:=BKL.len h2
    rw[List.length_cons];omega
mutual
theorem bkT : ∀ (t:Term) (n:Nat),BKS (enc .term t) n→t.sz≤n+1
  | .mk op v depth at_ name kids sub type,n,h=>by
    obtain⟨_,_,_,h,_⟩:=h.cons_inv
    obtain⟨_,_,_,h,_⟩:=h.cons_inv
    obtain⟨_,_,_,h,_⟩:=h.cons_inv
    obtain⟨_,_,_,h,_⟩:=h.cons_inv
    obtain⟨_,_,_,h,_⟩:=h.cons_inv
    obtain⟨_,_,_,h,_⟩:=h.cons_inv
    obtain⟨_,_,_,h,_⟩:=h.cons_inv
    obtain⟨_,_,k1,h,_⟩:=h.cons_inv
    obtain⟨_,_,k2,_,_⟩:=h.cons_inv
    have e1:=bkTs kids _ k1.dat_inv
    have e2:=bkRs sub _ k2.dat_inv
    simp only[Term.sz];omega
theorem bkTs : ∀ (l:List Term) (n:Nat),BKL .term l n→szTs l≤n
  | [],_,_=>Nat.zero_le _
  | t::r,n,h=>by
    obtain⟨_,_,h1,h2,_⟩:=h.cons_inv
    have e1:=bkT t _ h1
    have e2:=bkTs r _ h2
    simp only[szTs];omega
theorem bkA : ∀ (a:Agg) (n:Nat),BKS (enc .agg a) n→a.sz≤n+1
  | .mk name distinct t,n,h=>by
    obtain⟨_,_,_,h,_⟩:=h.cons_inv
    obtain⟨_,_,_,h,_⟩:=h.cons_inv
    obtain⟨_,_,k1,_,_⟩:=h.cons_inv
    have e1:=bkTs t _ k1.dat_inv
    simp only[Agg.sz];omega
theorem bkAs : ∀ (l:List Agg) (n:Nat),BKL .agg l n→szAs l≤n
  | [],_,_=>Nat.zero_le _
  | t::r,n,h=>by
    obtain⟨_,_,h1,h2,_⟩:=h.cons_inv
    have e1:=bkA t _ h1
    have e2:=bkAs r _ h2
    simp only[szAs];omega
theorem bkR : ∀ (r:Rel) (n:Nat),BKS (enc .rel r) n→r.sz≤n+1
  | .mk op table cols kids terms aggs keys limit skip all rows,n,h=>by
    obtain⟨_,_,_,h,_⟩:=h.cons_inv
    obtain⟨_,_,_,h,_⟩:=h.cons_inv
    obtain⟨_,_,_,h,_⟩:=h.cons_inv
    obtain⟨_,_,k1,h,_⟩:=h.cons_inv
    obtain⟨_,_,k2,h,_⟩:=h.cons_inv
    obtain⟨_,_,k3,h,_⟩:=h.cons_inv
    obtain⟨_,_,_,h,_⟩:=h.cons_inv
    obtain⟨_,_,_,h,_⟩:=h.cons_inv
    obtain⟨_,_,_,h,_⟩:=h.cons_inv
    obtain⟨_,_,_,h,_⟩:=h.cons_inv
    obtain⟨_,_,k4,_,_⟩:=h.cons_inv
    have e1:=bkRs kids _ k1.dat_inv
    have e2:=bkTs terms _ k2.dat_inv
    have e3:=bkAs aggs _ k3.dat_inv
    have e4:(rows:List (List Val)).length≤_:=(BK.dat_inv k4).len
    simp only[Rel.sz];omega
theorem bkRs : ∀ (l:List Rel) (n:Nat),BKL .rel l n→szRs l≤n
  | [],_,_=>Nat.zero_le _
  | t::r,n,h=>by
    obtain⟨_,_,h1,h2,_⟩:=h.cons_inv
    have e1:=bkR t _ h1
    have e2:=bkRs r _ h2
    simp only[szRs];omega
end
end Go.Proofs.YtolbngdhgcbmgaaGreat.B
