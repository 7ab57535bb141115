/- Part 11 of the proof: BLaw0 BLaw. -/
import Derived.OpenShut
import Derived.ChangeArms
import Derived.ChangeShapes
import Derived.Test.YtjfpbchdcbhfgaaGreatRows
import Derived.Test.YtjfpbchdcbhfgaaGreatNsrt10
namespace Go.Proofs.YtjfpbchdcbhfgaaGreat.B
open Go Go.RowKit
inductive Fl
 | int | bool | str
 | num (k:IntKind)
 | sl (τ:Ty)
 deriving DecidableEq
def flOf : V Un→Option Fl
 | .s (.int .i64 _)=>some .int
 | .s (.int k _)=>some (.num k)
 | .s (.bool _)=>some .bool
 | .s (.string _)=>some .str
 | .dat τ _=>some (.sl τ)
 | _=>none
def fls (τ:Ty) : List Fl:=(enc τ (dflt τ)).filterMap flOf
theorem zu0 {vs:List (V Un)} {f:Fl} {fs:List Fl} (h:vs.map flOf=(f::fs).map some) : ∃ v r,vs=v::r∧flOf v=some f∧r.map flOf=fs.map some:=by
 cases vs with
 | nil=>simp at h
 | cons v r=>simp at h;exact⟨v,r,rfl,h.1,by simpa using h.2⟩
theorem z3g {vs:List (V Un)} (h:vs.map flOf=([] : List Fl).map some) : vs=[]:=by simpa using h
theorem z1y {vs:List (V Un)} {fs:List Fl} (h:vs.map flOf=(Fl.int::fs).map some) : ∃ n r,vs=ci n::r∧r.map flOf=fs.map some:=by
 obtain⟨v,r,rfl,h1,h2⟩:=zu0 h
 unfold flOf at h1;split at h1<;>simp at h1
 exact⟨_,r,rfl,h2⟩
theorem z1y8 {vs:List (V Un)} {k:IntKind} {fs:List Fl} (h:vs.map flOf=(Fl.num k::fs).map some) : ∃ n r,vs=.s (.int k n)::r∧r.map flOf=fs.map some:=by
 obtain⟨v,r,rfl,h1,h2⟩:=zu0 h
 unfold flOf at h1;split at h1<;>simp at h1
 subst h1
 exact⟨_,r,rfl,h2⟩
theorem z6y {vs:List (V Un)} {fs:List Fl} (h:vs.map flOf=(Fl.bool::fs).map some) : ∃ n r,vs=cb n::r∧r.map flOf=fs.map some:=by
 obtain⟨v,r,rfl,h1,h2⟩:=zu0 h
 unfold flOf at h1;split at h1<;>simp at h1
 exact⟨_,r,rfl,h2⟩
theorem z9d {vs:List (V Un)} {fs:List Fl} (h:vs.map flOf=(Fl.str::fs).map some) : ∃ n r,vs=cs n::r∧r.map flOf=fs.map some:=by
 obtain⟨v,r,rfl,h1,h2⟩:=zu0 h
 unfold flOf at h1;split at h1<;>simp at h1
 exact⟨_,r,rfl,h2⟩
theorem z2s {vs:List (V Un)} {τ:Ty} {fs:List Fl} (h:vs.map flOf=(Fl.sl τ::fs).map some) : ∃ (l:List (Den τ)) (r:List (V Un)),vs=.dat (U:=Un) τ l::r∧r.map flOf=fs.map some:=by
 obtain⟨v,r,rfl,h1,h2⟩:=zu0 h
 unfold flOf at h1;split at h1<;>simp at h1
 subst h1
 exact⟨_,r,rfl,h2⟩
section
variable {H:Type} {enc':TypeId×Value→H} {P:Program} {w:World} {spare:Nat→Bool} {held:Bool}
def z1be (P:Program) (lay:TypeId→Option (List Fl)) : List Field→Nat→Option (List Fl)
 | [],_=>some []
 | f::r,off=>match lay f.type with
  | some l=>if f.offset=off∧l.length=P.cellsOf f.type then (z1be P lay r (off+l.length)).map (l++·) else none
  | none=>none
def lay (P:Program) (tab:TypeId→TI Un) : Nat→TypeId→Option (List Fl)
 | 0,_=>none
 | k+1,t=>match P.underlying t with
  | some (.int .i64)=>some [.int]
  | some (.int k)=>some [.num k]
  | some (.array n e)=>match lay P tab k e with
   | some l=>if l.length=P.cellsOf e∧n*l.length=P.cellsOf t then some ((List.replicate n l).flatten) else none
   | none=>none
  | some .bool=>some [.bool]
  | some .string=>some [.str]
  | some (.slice e)=>match tab t with
   | .sl e' τ _=>if e'=e then some [.sl τ] else none
   | _=>none
  | some (.struct fs)=>match z1be P (lay P tab k) fs.toList 0 with
   | some l=>if l.length=P.cellsOf t then some l else none
   | none=>none
  | _=>none
inductive VB (byt:Ty→Nat) : V Un→Prop
 | s (x:Value) : VB byt (.s x)
 | dat (τ:Ty) (xs:List (Den τ)) (h:xs.length*byt τ≤reachBytes) (h2:∀ x∈xs,∀ d∈enc τ x,VB byt d) : VB byt (.dat (U:=Un) τ xs)
mutual
inductive BK : V Un→Nat→Prop
 | s (x:Value) (n:Nat) (h:∀ b,x=.string b→b.size≤n) : BK (.s x) n
 | dat (τ:Ty) (xs:List (Den τ)) (n:Nat) (h:BKL τ xs n) : BK (.dat (U:=Un) τ xs) n
inductive BKL : (τ:Ty)→List (Den τ)→Nat→Prop
 | nil (τ:Ty) (n:Nat) : BKL τ [] n
 | cons (τ:Ty) (x:Den τ) (xs:List (Den τ)) (a b n:Nat) (h1:BKS (enc τ x) a) (h2:BKL τ xs b) (hn:a+1+b≤n) : BKL τ (x::xs) n
inductive BKS : List (V Un)→Nat→Prop
 | nil (n:Nat) : BKS [] n
 | cons (v:V Un) (vs:List (V Un)) (a b n:Nat) (h1:BK v a) (h2:BKS vs b) (hn:a+b≤n) : BKS (v::vs) n
end
theorem BKS.mono {vs:List (V Un)} {n m:Nat} (h:BKS vs n) (hm:n≤m) : BKS vs m:=by
 cases h with
 | nil _=>exact .nil _
 | cons v vs a b _ h1 h2 hn=>exact .cons v vs a b _ h1 h2 (by omega)
theorem BKL.mono {τ:Ty} {xs:List (Den τ)} {n m:Nat} (h:BKL τ xs n) (hm:n≤m) : BKL τ xs m:=by
 cases h with
 | nil _ _=>exact .nil _ _
 | cons _ x xs a b _ h1 h2 hn=>exact .cons _ x xs a b _ h1 h2 (by omega)
theorem BKS.append {us:List (V Un)} {n:Nat} (h:BKS us n) {vs:List (V Un)} {m:Nat} (h2:BKS vs m) : BKS (us++vs) (n+m):=by
 induction us generalizing n with
 | nil=>exact h2.mono (by omega)
 | cons u us ih =>
  cases h with
  | cons _ _ a b _ g1 g2 hn=>exact .cons u _ a (b+m) _ g1 (ih g2) (by omega)
theorem BKS.one (x:Value) (n:Nat) (h:∀ b,x=.string b→b.size≤n) : BKS [.s x] n:=.cons _ _ n 0 _ (.s _ _ h) (.nil _) (by omega)
theorem BKS.none (τ:Ty) (n:Nat) : BKS [.dat (U:=Un) τ []] n:=.cons _ _ 0 0 _ (.dat _ _ _ (.nil _ _)) (.nil _) (by omega)
theorem z217 (d:DataW H) : 1≤Rows.uptoBulk d:=by
 cases d with
 | lit l=>cases l<;>simp [Rows.uptoBulk]
 | nil=>simp [Rows.uptoBulk]
 | ptr d=>simp [Rows.uptoBulk]
 | slice elems spare=>simp [Rows.uptoBulk]
 | agg parts=>simp [Rows.uptoBulk]
 | iface t d=>simp [Rows.uptoBulk]
 | map entries=>simp [Rows.uptoBulk]
 | held h=>simp [Rows.uptoBulk]
theorem z1y9 {τ:Ty} : ∀ (xs:List (Den τ)) (es:List (DataW H)),xs.length=es.length→(∀ (i:Nat) x e,xs[i]? = some x→es[i]? = some e→BKS (enc τ x) (Rows.uptoBulk e - 1))→BKL τ xs (Rows.uptoBulkAll es)
 | [],[],_,_=>.nil _ _
 | x::xs,e::es,h,hh=>.cons _ _ _ _ _ _ (hh 0 x e rfl rfl) (z1y9 xs es (by simpa using h) fun i x e hx he=>hh (i+1) x e (by simpa using hx) (by simpa using he)) (by have:=z217 e;simp only[Rows.uptoBulkAll];omega)
 | [],_::_,h,_=>by simp at h
 | _::_,[],h,_=>by simp at h
theorem zu1 {d:DataW H} {e:TypeId} {k:Nat} : ∀ {l:List (DataW H)},d∈l→k∈d.weights P e→k∈DataW.weightsAll P e l
 | x::l,hd,hk=>by
  rw[DataW.weightsAll]
  rcases List.mem_cons.1 hd with rfl | hd
  ·exact List.mem_append.2 (.inl hk)
  ·exact List.mem_append.2 (.inr (zu1 hd hk))
theorem z15g {α β:Type} {R:α→β→Prop} : ∀ {l:List α} {r:List β},l.length=r.length→(∀ (i:Nat) (x:α) (y:β),l[i]? = some x→r[i]? = some y→R x y)→All2 R l r
 | [],[],_,_=>trivial
 | x::l,y::r,h,hh=>⟨hh 0 x y rfl rfl,z15g (by simpa using h) fun i a b ha hb=>hh (i+1) a b (by simpa using ha) (by simpa using hb)⟩
 | [],_::_,h,_=>by simp at h
 | _::_,[],h,_=>by simp at h
def StA (w:World) (b _o:Nat) : Prop:=b<w.heap.size
def z258 (P:Program) (tab:TypeId→TI Un) : Prop:=∀ t e τ b,tab t=.sl e τ b→∃ k,lay P tab k e=some (fls τ)
def z1ya : Prop:=∀ (τ:Ty) (vs:List (V Un)),vs.map flOf=(fls τ).map some→∃ x,dec τ vs=some x
theorem All2.at {α β:Type} {R:α→β→Prop} : ∀ {l:List α} {r:List β},All2 R l r→∀ (i:Nat) (x:α) (y:β),l[i]? = some x→r[i]? = some y→R x y
 | [],[],_,i,x,y,hx,_=>by simp at hx
 | a::l,b::r,h,i,x,y,hx,hy=>by
  cases i with
  | zero=>simp at hx hy;subst hx;subst hy;exact h.1
  | succ i=>simp at hx hy;exact All2.at h.2 i x y hx hy
theorem z15h {tab:TypeId→TI Un} {byt:Ty→Nat} {k n:Nat} {cs:List Value}
  (IH:∀ t cs (x:DataW H×List MemPlace) fl,DataW.trod enc' P w 0 spare held n t cs=some x→lay P tab k t=some fl→∃ vs,All2 (VRel En (StA w) w) cs vs∧vs.map flOf=fl.map some∧((∀ q∈x.1.weights P t,q≤reachBytes)→∀ v∈vs,VB byt v)∧BKS vs (Rows.uptoBulk x.1 - 1)) :
  ∀ (fs:List Field) (ys:List (DataW H×List MemPlace)) (off:Nat) (fl:List Fl),z1be P (lay P tab k) fs off=some fl→All2 (fun f y=>DataW.trod enc' P w 0 spare held n f.type ((cs.drop f.offset).take (P.cellsOf f.type))=some y) fs ys →
   off+fl.length=cs.length→∃ vs,All2 (VRel En (StA w) w) (cs.drop off) vs∧vs.map flOf=fl.map some∧((∀ q∈DataW.weightsEach P (fs.map (·.type)) (ys.map (·.1)),q≤reachBytes)→∀ v∈vs,VB byt v)∧BKS vs (Rows.uptoBulkAll (ys.map (·.1)))
 | [],ys,off,fl,h,_,hl=>by
  simp [z1be] at h;subst h
  refine⟨[],?_,rfl,fun _ v hv=>by simp at hv,.nil _⟩
  rw[List.drop_of_length_le (by simp at hl;omega)];trivial
 | f::r,[],off,fl,h,hf,hl=>hf.elim
 | f::r,y::ys,off,fl,h,hf,hl=>by
  simp only[z1be] at h
  split at h
  ·rename_i l hlf
   split at h
   ·rename_i hc
    rw[Option.map_eq_some_iff] at h
    obtain⟨fl',h1,rfl⟩:=h
    obtain⟨hy,hf2⟩:=hf
    rw[hc.1,← hc.2] at hy
    obtain⟨vs1,a1,a2,a3,a4⟩:=IH _ _ _ _ hy hlf
    obtain⟨vs2,b1,b2,b3,b4⟩:=z15h IH r ys (off+l.length) fl' h1 hf2 (by simp at hl;omega)
    refine⟨vs1++vs2,?_,by simp [a2,b2],fun hq v hv=>?_,(a4.append b4).mono (by simp only[List.map_cons,Rows.uptoBulkAll];omega)⟩
    ·rw[← List.take_append_drop l.length (cs.drop off),List.drop_drop]
     exact a1.append b1
    ·simp only[List.map_cons] at hq
     rw[DataW.weightsEach] at hq
     rcases List.mem_append.1 hv with hv | hv
     ·exact a3 (fun q hh=>hq q (List.mem_append.2 (.inl hh))) v hv
     ·exact b3 (fun q hh=>hq q (List.mem_append.2 (.inr hh))) v hv
   ·simp at h
  ·simp at h
theorem z1bf {byt:Ty→Nat} {n:Nat} {cs:List Value} {e:TypeId} {l:List Fl}
  (IH:∀ cs (x:DataW H×List MemPlace),DataW.trod enc' P w 0 spare held n e cs=some x→∃ vs,All2 (VRel En (StA w) w) cs vs∧vs.map flOf=l.map some∧((∀ q∈x.1.weights P e,q≤reachBytes)→∀ v∈vs,VB byt v)∧BKS vs (Rows.uptoBulk x.1 - 1)) (hle:l.length=P.cellsOf e) :
  ∀ (m:Nat) (ys:List (DataW H×List MemPlace)) (off:Nat),ys.length=m→(∀ i,i<m→DataW.trod enc' P w 0 spare held n e ((cs.drop (off+i*P.cellsOf e)).take (P.cellsOf e))=ys[i]?) →
   off+m*l.length=cs.length→∃ vs,All2 (VRel En (StA w) w) (cs.drop off) vs∧vs.map flOf=((List.replicate m l).flatten).map some∧((∀ q∈DataW.weightsAll P e (ys.map (·.1)),q≤reachBytes)→∀ v∈vs,VB byt v)∧BKS vs (Rows.uptoBulkAll (ys.map (·.1)))
 | 0,ys,off,_,_,hl=>by
  refine⟨[],?_,rfl,fun _ v hv=>by simp at hv,.nil _⟩
  rw[List.drop_of_length_le (by omega)];trivial
 | m+1,[],off,h,_,_=>by simp at h
 | m+1,y::ys,off,hlen,hf,hl=>by
  have h0:=hf 0 (by omega)
  simp only[Nat.zero_mul,Nat.add_zero,List.getElem?_cons_zero] at h0
  obtain⟨vs1,a1,a2,a3,a4⟩:=IH _ _ h0
  obtain⟨vs2,b1,b2,b3,b4⟩:=z1bf IH hle m ys (off+l.length) (by simpa using hlen) (fun i hi=>by
   have:=hf (i+1) (by omega)
   rw[List.getElem?_cons_succ] at this
   rw[← this,hle];congr 3;rw[Nat.add_mul,Nat.one_mul];omega) (by rw[Nat.add_mul,Nat.one_mul] at hl;omega)
  refine⟨vs1++vs2,?_,by rw[List.replicate_succ,List.flatten_cons];simp [a2,b2],fun hq v hv=>?_,(a4.append b4).mono (by simp only[List.map_cons,Rows.uptoBulkAll];omega)⟩
  ·have e1:=List.take_append_drop l.length (cs.drop off)
   rw[List.drop_drop] at e1
   rw[← e1]
   have a1':All2 (VRel En (StA w) w) ((cs.drop off).take l.length) vs1:=by rw[hle];exact a1
   exact a1'.append b1
  ·simp only[List.map_cons] at hq
   rw[DataW.weightsAll] at hq
   rcases List.mem_append.1 hv with hv | hv
   ·exact a3 (fun q hh=>hq q (List.mem_append.2 (.inl hh))) v hv
   ·exact b3 (fun q hh=>hq q (List.mem_append.2 (.inr hh))) v hv
theorem z1yb {a:Addr} {n:Nat} {cs:List Value} (h:w.cells? 0 a n=some cs) : cs.length=n∧∀ j,j<n→w.cell? (a.add j)=cs[j]?:=by
 unfold World.cells? at h
 rw[if_pos (Nat.zero_le _)] at h
 refine⟨by simpa using mapM_some_length h,fun j hj=>?_⟩
 exact mapM_some_get h j j (by simp [hj])
theorem z1yc {tab:TypeId→TI Un} {byt:Ty→Nat} (hbyt:∀ t e τ b,tab t=.sl e τ b→P.bytesOf e=byt τ) (hlay:z258 P tab) (hdec:z1ya) (hsz:∀ τ,0<sz τ) (hcell:∀ t e τ b,tab t=.sl e τ b→P.cellsOf e=sz τ) :
  ∀ (n:Nat) (t:TypeId) (cs:List Value) (x:DataW H×List MemPlace) (k:Nat) (fl:List Fl),DataW.trod enc' P w 0 spare held n t cs=some x→lay P tab k t=some fl →
   ∃ vs,All2 (VRel En (StA w) w) cs vs∧vs.map flOf=fl.map some∧((∀ q∈x.1.weights P t,q≤reachBytes)→∀ v∈vs,VB byt v)∧BKS vs (Rows.uptoBulk x.1 - 1):=by
 intro n
 induction n with
 | zero=>intro t cs x k fl h;simp [DataW.trod] at h
 | succ n IH =>
  intro t cs x k fl h hl
  cases k with
  | zero=>simp [lay] at hl
  | succ k =>
   simp only[lay] at hl
   split at hl
   ·rename_i hu
    obtain⟨m,rfl,-,hw⟩:=DataW.trod_int hu h
    simp at hl;subst hl
    refine⟨[ci m],⟨.s _ ?_,trivial⟩,rfl,fun _ v hv=>by rw[List.mem_singleton] at hv;subst hv;exact .s _,.one _ _ (fun _ e=>by cases e)⟩
    simpa [Lit.wf,oneC] using hw
   ·rename_i kd hne hu
    obtain⟨m,rfl,-,hw⟩:=DataW.trod_int hu h
    simp at hl;subst hl
    refine⟨[.s (.int kd m)],⟨.s _ ?_,trivial⟩,?_,fun _ v hv=>by rw[List.mem_singleton] at hv;subst hv;exact .s _,.one _ _ (fun _ e=>by cases e)⟩
    ·simpa [Lit.wf,oneC] using hw
    ·cases kd<;>first | rfl | exact (hne rfl).elim
   ·rename_i m e hu
    split at hl
    ·rename_i l hle
     split at hl
     ·rename_i hc
      simp only[Option.some.injEq] at hl;subst hl
      obtain⟨xs,n',hn',hx0,g1,g2,g3⟩:=DataW.trod_array hu h
      obtain rfl : n'=n:=by omega
      obtain⟨vs,b1,b2,b3,b4⟩:=z1bf (byt:=byt) (cs:=cs) (e:=e) (l:=l) (fun cs x hx=>IH _ _ _ _ _ hx hle) hc.1 m xs 0 g2 (fun i hi=>by rw[Nat.zero_add];exact g3 i hi) (by rw[g1,← hc.2];omega)
      refine⟨vs,by simpa using b1,b2,fun hq=>b3 (fun q hh=>hq q ?_),b4.mono (by rw[hx0];simp only[Rows.uptoBulk];omega)⟩
      rw[hx0]
      simp only[DataW.weights,hu]
      exact hh
     ·simp at hl
    ·simp at hl
   ·rename_i hu
    simp at hl;subst hl
    obtain⟨b,rfl⟩ : ∃ b,cs=[.bool b]:=by
     unfold DataW.trod at h;rw[hu] at h
     split at h<;>first | exact⟨_,rfl⟩ | simp_all
    exact⟨[cb b],⟨.s _ rfl,trivial⟩,rfl,fun _ v hv=>by rw[List.mem_singleton] at hv;subst hv;exact .s _,.one _ _ (fun _ e=>by cases e)⟩
   ·rename_i hu
    simp at hl;subst hl
    obtain⟨s,rfl,hs,hbk⟩ : ∃ s : ByteArray,cs=[.string s]∧s.size≤maxLen∧s.size≤Rows.uptoBulk x.1 - 1:=by
     unfold DataW.trod at h;rw[hu] at h
     split at h<;>first | (rename_i s _;simp at h;exact⟨_,rfl,h.1,by rw[← h.2];simp only[Rows.uptoBulk];first | (rw[z38];omega) | simp | (trace_state;omega)⟩) | simp_all
    exact⟨[B.cs s],⟨.s _ (decide_eq_true hs),trivial⟩,rfl,fun _ v hv=>by rw[List.mem_singleton] at hv;subst hv;exact .s _,.one _ _ (fun b e=>by cases e;exact hbk)⟩
   ·rename_i e hu
    split at hl
    ·rename_i e' τ b ht
     split at hl
     ·rename_i he;subst he
      simp at hl;subst hl
      rcases DataW.trod_slice hu h with ⟨rfl,-⟩ | ⟨a,len,cap,elems,rest,m,hm,rfl,hx0,-,h1,h2,h3,h4,-,-⟩
      ·exact⟨[.dat (U:=Un) τ []],⟨.nil _ _ _,trivial⟩,rfl,fun _ v hv=>by rw[List.mem_singleton] at hv;subst hv;exact .dat τ [] (by simp) (by simp),.none _ _⟩
      ·obtain rfl : m=n:=by omega
       obtain⟨ke,hke⟩:=hlay t e' τ b ht
       have hc:=hcell t e' τ b ht
       have hz:=hsz τ
       have key:∀ i,i<len→∃ (x':Den τ) (cs:List Value),All2 (VRel En (StA w) w) cs (enc τ x')∧cs.length=sz τ∧(∀ j,j<sz τ→w.cell? ((a.add (i*sz τ)).add j)=cs[j]?)∧((∀ q∈x.1.weights P t,q≤reachBytes)→∀ d∈enc τ x',VB byt d)∧(∀ e,elems[i]? = some e→BKS (enc τ x') (Rows.uptoBulk e.1 - 1)):=by
        intro i hi
        have:=h4 i hi
        rw[hc] at this
        have he:elems[i]? = some elems[i]:=List.getElem?_eq_getElem (by omega)
        rw[he,Option.bind_eq_some_iff] at this
        obtain⟨ci,g1,g2⟩:=this
        obtain⟨vs,g3,g4,g8,g9⟩:=IH _ _ _ _ _ g2 hke
        obtain⟨x',hx⟩:=hdec τ vs g4
        obtain⟨g5,g6⟩:=z1yb g1
        have hbk:=z18r τ vs x' hx
        refine⟨x',ci,by rw[hbk];exact g3,g5,g6,fun hq d hd=>?_,fun e' he'=>by rw[he] at he';injection he' with he';subst he';rw[hbk];exact g9⟩
        rw[hbk] at hd
        refine g8 (fun q hh=>hq q ?_) d hd
        rw[hx0]
        simp only[DataW.weights,hu]
        refine List.mem_cons_of_mem _ (List.mem_append.2 (.inl (zu1 (List.mem_map.2 ⟨_,List.getElem_mem (by omega:i<elems.length),rfl⟩) hh)))
       cases len with
       | zero=>exact⟨[.dat (U:=Un) τ []],⟨.nil _ _ _,trivial⟩,rfl,fun _ v hv=>by rw[List.mem_singleton] at hv;subst hv;exact .dat τ [] (by simp) (by simp),.none _ _⟩
       | succ len =>
        obtain⟨blk,off,spot⟩:=a
        have hspot:spot=none:=by
         obtain⟨x',cs,-,g1,g2,-,-⟩:=key 0 (by omega)
         have:=g2 0 hz
         rw[List.getElem?_eq_getElem (by omega)] at this
         simp [Addr.add,World.cell?] at this
         split at this
         ·cases spot with
          | none=>rfl
          | some _=>simp at this
         ·simp at this
        subst hspot
        have hadd:∀ p q : Nat,((⟨blk,off,none⟩ : Addr).add p).add q=⟨blk,off+p+q,none⟩:=by
         intro p q;unfold Addr.add
         by_cases hp : p=0<;>by_cases hq : q=0<;>simp [hp,hq]
        let f : Nat→Den τ:=fun i=>if hi : i<len+1 then Classical.choose (key i hi) else dflt τ
        let xs : List (Den τ):=(List.range (len+1)).map f
        have hxl:xs.length=len+1:=by simp [xs]
        have hVB:(∀ q∈x.1.weights P t,q≤reachBytes)→VB byt (.dat (U:=Un) τ xs):=by
         intro hq
         refine .dat τ xs ?_ ?_
         ·have:=hq ((elems.length+rest.length)*P.bytesOf e') (by rw[hx0];simp only[DataW.weights,hu,List.length_map];exact List.mem_cons_self)
          rw[hbyt t e' τ b ht] at this
          rw[hxl]
          exact Nat.le_trans (Nat.mul_le_mul_right _ (by omega)) this
         ·intro y hy d hd
          obtain⟨i,hi,rfl⟩:=List.getElem_of_mem hy
          have hi':i<len+1:=by omega
          have hxi:xs[i]=Classical.choose (key i hi'):=by
           simp only[xs,List.getElem_map,List.getElem_range,f]
           rw[dif_pos hi']
          obtain⟨cs,-,-,-,g3,-⟩:=Classical.choose_spec (key i hi')
          rw[hxi] at hd
          exact g3 hq d hd
        have hBK:BKL τ xs (Rows.uptoBulkAll (elems.map (·.1))):=by
         refine z1y9 xs _ (by rw[hxl,List.length_map];omega) fun i x' e hx' he=>?_
         have hi':i<len+1:=by rw[← hxl];exact (List.getElem?_eq_some_iff.1 hx').1
         obtain⟨cs,-,-,-,-,g4⟩:=Classical.choose_spec (key i hi')
         have hxi:x'=Classical.choose (key i hi'):=by
          rw[List.getElem?_eq_getElem (by omega)] at hx'
          injection hx' with hx'
          rw[← hx']
          simp only[xs,List.getElem_map,List.getElem_range,f]
          rw[dif_pos hi']
         rw[List.getElem?_map,Option.map_eq_some_iff] at he
         obtain⟨e0,h5,rfl⟩:=he
         rw[hxi]
         exact g4 e0 h5
        refine⟨[.dat (U:=Un) τ xs],⟨?_,trivial⟩,rfl,fun hq v hv=>by rw[List.mem_singleton] at hv;subst hv;exact hVB hq,.cons _ _ (Rows.uptoBulkAll (elems.map (·.1))) 0 _ (.dat _ _ _ hBK) (.nil _) (by rw[hx0];simp only[Rows.uptoBulk];omega)⟩
        have hrel:VRel En (StA w) w (.slice (some ⟨blk,off,none⟩) xs.length cap) (.dat (U:=Un) τ xs):=by
         refine .dat (U:=Un) τ xs blk off cap (fun i j=>(w.cell? ⟨blk,off+i*sz τ+j,none⟩).getD .nilIface) ⟨by omega,by rw[hxl];exact Nat.le_trans h1 h2⟩ ?_ ?_
         ·intro i j hi hj
          obtain⟨cs,-,g1,g2,-,-⟩:=Classical.choose_spec (key i (by omega))
          obtain⟨v,hv⟩ : ∃ v,cs[j]? = some v:=⟨_,List.getElem?_eq_getElem (by rw[g1];exact hj)⟩
          have:=g2 j hj
          rw[hadd,hv] at this
          have this':w.cell? ⟨blk,off+i*sz τ+j,none⟩=some v:=this
          refine⟨?_,?_⟩
          ·exact z6l this'
          ·show w.cell? ⟨blk,off+i*sz τ+j,none⟩=some ((w.cell? ⟨blk,off+i*sz τ+j,none⟩).getD .nilIface)
           rw[this'];rfl
         ·intro i hi j d hd
          have hi':i<len+1:=by omega
          have hxi:xs[i]=Classical.choose (key i hi'):=by
           simp only[xs,List.getElem_map,List.getElem_range,f]
           rw[dif_pos hi']
          obtain⟨cs,g0,g1,g2,-,-⟩:=Classical.choose_spec (key i hi')
          rw[hxi] at hd
          have hj:j<sz τ:=by
           have:=(List.getElem?_eq_some_iff.1 hd).1
           have hh:=zei τ (Classical.choose (key i hi'))
           exact hh ▸ this
          obtain⟨v,hv⟩ : ∃ v,cs[j]? = some v:=⟨_,List.getElem?_eq_getElem (by rw[g1];exact hj)⟩
          have:=g2 j hj
          rw[hadd,hv] at this
          have this':w.cell? ⟨blk,off+i*sz τ+j,none⟩=some v:=this
          show VRel En (StA w) w ((w.cell? ⟨blk,off+i*sz τ+j,none⟩).getD .nilIface) d
          rw[this']
          exact All2.at g0 j _ _ hv hd
        rw[hxl] at hrel
        exact hrel
     ·simp at hl
    ·simp at hl
   ·rename_i fs hu
    split at hl
    ·rename_i l hfs
     split at hl
     ·rename_i hlen
      simp at hl;subst hl
      obtain⟨xs,m,hm,hx0,g1,g2,g3⟩:=DataW.trod_struct hu h
      obtain rfl : m=n:=by omega
      have:=z15h (tab:=tab) (byt:=byt) (k:=k) (n:=m) (cs:=cs) (fun t cs x fl hx hy=>IH t cs x k fl hx hy) fs.toList xs 0 l hfs (z15g (by simpa using g2.symm) (fun i f y hi hy=>by
       have:=g3 i f (by simpa using hi)
       rw[hy] at this;exact this)) (by omega)
      obtain⟨vs,b1,b2,b3,b4⟩:=this
      refine⟨vs,by simpa using b1,b2,fun hq=>b3 (fun q hh=>hq q ?_),b4.mono (by rw[hx0];simp only[Rows.uptoBulk];omega)⟩
      rw[hx0]
      simp only[DataW.weights,hu]
      exact hh
     ·simp at hl
    ·simp at hl
   ·simp at hl
end
end Go.Proofs.YtjfpbchdcbhfgaaGreat.B
namespace Go.Proofs.YtjfpbchdcbhfgaaGreat.B
open Go Go.RowKit Go.ChangeShapes
set_option maxRecDepth 1000000
theorem z232 {vs:List (V Un)} (h:vs.map flOf=(fls .int).map some) : ∃ x,dec .int vs=some x:=by
 have h0:vs.map flOf=([.int] : List Fl).map some:=h
 clear h
 obtain⟨a0,r0,rfl,h1⟩:=z1y h0;clear h0
 obtain rfl:=z3g h1
 exact⟨_,rfl⟩
theorem z233 {vs:List (V Un)} (h:vs.map flOf=(fls .str).map some) : ∃ x,dec .str vs=some x:=by
 have h0:vs.map flOf=([.str] : List Fl).map some:=h
 clear h
 obtain⟨a0,r0,rfl,h1⟩:=z9d h0;clear h0
 obtain rfl:=z3g h1
 exact⟨_,rfl⟩
theorem z234 {vs:List (V Un)} (h:vs.map flOf=(fls .row).map some) : ∃ x,dec .row vs=some x:=by
 have h0:vs.map flOf=([.sl .val] : List Fl).map some:=h
 clear h
 obtain⟨a0,r0,rfl,h1⟩:=z2s h0;clear h0
 obtain rfl:=z3g h1
 exact⟨_,rfl⟩
theorem z218 {vs:List (V Un)} (h:vs.map flOf=(fls .ints).map some) : ∃ x,dec .ints vs=some x:=by
 have h0:vs.map flOf=([.sl .int] : List Fl).map some:=h
 clear h
 obtain⟨a0,r0,rfl,h1⟩:=z2s h0;clear h0
 obtain rfl:=z3g h1
 exact⟨_,rfl⟩
theorem z219 {vs:List (V Un)} (h:vs.map flOf=(fls .trms).map some) : ∃ x,dec .trms vs=some x:=by
 have h0:vs.map flOf=([.sl .term] : List Fl).map some:=h
 clear h
 obtain⟨a0,r0,rfl,h1⟩:=z2s h0;clear h0
 obtain rfl:=z3g h1
 exact⟨_,rfl⟩
theorem z1yd {vs:List (V Un)} (h:vs.map flOf=(fls .colss).map some) : ∃ x,dec .colss vs=some x:=by
 have h0:vs.map flOf=([.sl .col] : List Fl).map some:=h
 clear h
 obtain⟨a0,r0,rfl,h1⟩:=z2s h0;clear h0
 obtain rfl:=z3g h1
 exact⟨_,rfl⟩
theorem z1ye {vs:List (V Un)} (h:vs.map flOf=(fls .rowss).map some) : ∃ x,dec .rowss vs=some x:=by
 have h0:vs.map flOf=([.sl .row] : List Fl).map some:=h
 clear h
 obtain⟨a0,r0,rfl,h1⟩:=z2s h0;clear h0
 obtain rfl:=z3g h1
 exact⟨_,rfl⟩
theorem z21a {vs:List (V Un)} (h:vs.map flOf=(fls .pair).map some) : ∃ x,dec .pair vs=some x:=by
 have h0:vs.map flOf=([.int,.int] : List Fl).map some:=h
 clear h
 obtain⟨a0,r0,rfl,h1⟩:=z1y h0;clear h0
 obtain⟨a1,r1,rfl,h2⟩:=z1y h1;clear h1
 obtain rfl:=z3g h2
 exact⟨_,rfl⟩
theorem z235 {vs:List (V Un)} (h:vs.map flOf=(fls .val).map some) : ∃ x,dec .val vs=some x:=by
 have h0:vs.map flOf=([.int,.int,.str] : List Fl).map some:=h
 clear h
 obtain⟨a0,r0,rfl,h1⟩:=z1y h0;clear h0
 obtain⟨a1,r1,rfl,h2⟩:=z1y h1;clear h1
 obtain⟨a2,r2,rfl,h3⟩:=z9d h2;clear h2
 obtain rfl:=z3g h3
 exact⟨_,rfl⟩
theorem z236 {vs:List (V Un)} (h:vs.map flOf=(fls .col).map some) : ∃ x,dec .col vs=some x:=by
 have h0:vs.map flOf=([.str,.str,.int] : List Fl).map some:=h
 clear h
 obtain⟨a0,r0,rfl,h1⟩:=z9d h0;clear h0
 obtain⟨a1,r1,rfl,h2⟩:=z9d h1;clear h1
 obtain⟨a2,r2,rfl,h3⟩:=z1y h2;clear h2
 obtain rfl:=z3g h3
 exact⟨_,rfl⟩
theorem z237 {vs:List (V Un)} (h:vs.map flOf=(fls .by_).map some) : ∃ x,dec .by_ vs=some x:=by
 have h0:vs.map flOf=([.int,.bool] : List Fl).map some:=h
 clear h
 obtain⟨a0,r0,rfl,h1⟩:=z1y h0;clear h0
 obtain⟨a1,r1,rfl,h2⟩:=z6y h1;clear h1
 obtain rfl:=z3g h2
 exact⟨_,rfl⟩
theorem z1yf {vs:List (V Un)} (h:vs.map flOf=(fls .bound).map some) : ∃ x,dec .bound vs=some x:=by
 have h0:vs.map flOf=([.bool,.bool,.sl .val] : List Fl).map some:=h
 clear h
 obtain⟨a0,r0,rfl,h1⟩:=z6y h0;clear h0
 obtain⟨a1,r1,rfl,h2⟩:=z6y h1;clear h1
 obtain⟨a2,r2,rfl,h3⟩:=z2s h2;clear h2
 obtain rfl:=z3g h3
 exact⟨_,rfl⟩
theorem z1yg {vs:List (V Un)} (h:vs.map flOf=(fls .often).map some) : ∃ x,dec .often vs=some x:=by
 have h0:vs.map flOf=([.int,.int,.str,.int] : List Fl).map some:=h
 clear h
 obtain⟨a0,r0,rfl,h1⟩:=z1y h0;clear h0
 obtain⟨a1,r1,rfl,h2⟩:=z1y h1;clear h1
 obtain⟨a2,r2,rfl,h3⟩:=z9d h2;clear h2
 obtain⟨a3,r3,rfl,h4⟩:=z1y h3;clear h3
 obtain rfl:=z3g h4
 exact⟨_,rfl⟩
theorem z1sf {vs:List (V Un)} (h:vs.map flOf=(fls .colStat).map some) : ∃ x,dec .colStat vs=some x:=by
 have h0:vs.map flOf=([.int,.int,.sl .val,.sl .often] : List Fl).map some:=h
 clear h
 obtain⟨a0,r0,rfl,h1⟩:=z1y h0;clear h0
 obtain⟨a1,r1,rfl,h2⟩:=z1y h1;clear h1
 obtain⟨a2,r2,rfl,h3⟩:=z2s h2;clear h2
 obtain⟨a3,r3,rfl,h4⟩:=z2s h3;clear h3
 obtain rfl:=z3g h4
 exact⟨_,rfl⟩
theorem z21b {vs:List (V Un)} (h:vs.map flOf=(fls .data).map some) : ∃ x,dec .data vs=some x:=by
 have h0:vs.map flOf=([.str,.sl .row] : List Fl).map some:=h
 clear h
 obtain⟨a0,r0,rfl,h1⟩:=z9d h0;clear h0
 obtain⟨a1,r1,rfl,h2⟩:=z2s h1;clear h1
 obtain rfl:=z3g h2
 exact⟨_,rfl⟩
theorem z238 {vs:List (V Un)} (h:vs.map flOf=(fls .acc).map some) : ∃ x,dec .acc vs=some x:=by
 have h0:vs.map flOf=([.str,.bool,.int,.int,.int,.int,.int,.str,.sl .val] : List Fl).map some:=h
 clear h
 obtain⟨a0,r0,rfl,h1⟩:=z9d h0;clear h0
 obtain⟨a1,r1,rfl,h2⟩:=z6y h1;clear h1
 obtain⟨a2,r2,rfl,h3⟩:=z1y h2;clear h2
 obtain⟨a3,r3,rfl,h4⟩:=z1y h3;clear h3
 obtain⟨a4,r4,rfl,h5⟩:=z1y h4;clear h4
 obtain⟨a5,r5,rfl,h6⟩:=z1y h5;clear h5
 obtain⟨a6,r6,rfl,h7⟩:=z1y h6;clear h6
 obtain⟨a7,r7,rfl,h8⟩:=z9d h7;clear h7
 obtain⟨a8,r8,rfl,h9⟩:=z2s h8;clear h8
 obtain rfl:=z3g h9
 exact⟨_,rfl⟩
theorem z21c {vs:List (V Un)} (h:vs.map flOf=(fls .stat).map some) : ∃ x,dec .stat vs=some x:=by
 have h0:vs.map flOf=([.str,.int,.int,.sl .colStat] : List Fl).map some:=h
 clear h
 obtain⟨a0,r0,rfl,h1⟩:=z9d h0;clear h0
 obtain⟨a1,r1,rfl,h2⟩:=z1y h1;clear h1
 obtain⟨a2,r2,rfl,h3⟩:=z1y h2;clear h2
 obtain⟨a3,r3,rfl,h4⟩:=z2s h3;clear h3
 obtain rfl:=z3g h4
 exact⟨_,rfl⟩
theorem z1vg {vs:List (V Un)} (h:vs.map flOf=(fls .column).map some) : ∃ x,dec .column vs=some x:=by
 have h0:vs.map flOf=([.int,.int,.sl .val,.sl .often,.int,.int,.int] : List Fl).map some:=h
 clear h
 obtain⟨a0,r0,rfl,h1⟩:=z1y h0;clear h0
 obtain⟨a1,r1,rfl,h2⟩:=z1y h1;clear h1
 obtain⟨a2,r2,rfl,h3⟩:=z2s h2;clear h2
 obtain⟨a3,r3,rfl,h4⟩:=z2s h3;clear h3
 obtain⟨a4,r4,rfl,h5⟩:=z1y h4;clear h4
 obtain⟨a5,r5,rfl,h6⟩:=z1y h5;clear h5
 obtain⟨a6,r6,rfl,h7⟩:=z1y h6;clear h6
 obtain rfl:=z3g h7
 exact⟨_,rfl⟩
theorem z21d {vs:List (V Un)} (h:vs.map flOf=(fls .term).map some) : ∃ x,dec .term vs=some x:=by
 have h0:vs.map flOf=([.int,.int,.int,.str,.int,.int,.str,.sl .term,.sl .rel,.int] : List Fl).map some:=h
 clear h
 obtain⟨a0,r0,rfl,h1⟩:=z1y h0;clear h0
 obtain⟨a1,r1,rfl,h2⟩:=z1y h1;clear h1
 obtain⟨a2,r2,rfl,h3⟩:=z1y h2;clear h2
 obtain⟨a3,r3,rfl,h4⟩:=z9d h3;clear h3
 obtain⟨a4,r4,rfl,h5⟩:=z1y h4;clear h4
 obtain⟨a5,r5,rfl,h6⟩:=z1y h5;clear h5
 obtain⟨a6,r6,rfl,h7⟩:=z9d h6;clear h6
 obtain⟨a7,r7,rfl,h8⟩:=z2s h7;clear h7
 obtain⟨a8,r8,rfl,h9⟩:=z2s h8;clear h8
 obtain⟨a9,r9,rfl,h10⟩:=z1y h9;clear h9
 obtain rfl:=z3g h10
 exact⟨_,rfl⟩
theorem z239 {vs:List (V Un)} (h:vs.map flOf=(fls .agg).map some) : ∃ x,dec .agg vs=some x:=by
 have h0:vs.map flOf=([.str,.bool,.sl .term] : List Fl).map some:=h
 clear h
 obtain⟨a0,r0,rfl,h1⟩:=z9d h0;clear h0
 obtain⟨a1,r1,rfl,h2⟩:=z6y h1;clear h1
 obtain⟨a2,r2,rfl,h3⟩:=z2s h2;clear h2
 obtain rfl:=z3g h3
 exact⟨_,rfl⟩
theorem z23a {vs:List (V Un)} (h:vs.map flOf=(fls .rel).map some) : ∃ x,dec .rel vs=some x:=by
 have h0:vs.map flOf=([.int,.str,.sl .col,.sl .rel,.sl .term,.sl .agg,.sl .by_,.int,.int,.bool,.sl .row] : List Fl).map some:=h
 clear h
 obtain⟨a0,r0,rfl,h1⟩:=z1y h0;clear h0
 obtain⟨a1,r1,rfl,h2⟩:=z9d h1;clear h1
 obtain⟨a2,r2,rfl,h3⟩:=z2s h2;clear h2
 obtain⟨a3,r3,rfl,h4⟩:=z2s h3;clear h3
 obtain⟨a4,r4,rfl,h5⟩:=z2s h4;clear h4
 obtain⟨a5,r5,rfl,h6⟩:=z2s h5;clear h5
 obtain⟨a6,r6,rfl,h7⟩:=z2s h6;clear h6
 obtain⟨a7,r7,rfl,h8⟩:=z1y h7;clear h7
 obtain⟨a8,r8,rfl,h9⟩:=z1y h8;clear h8
 obtain⟨a9,r9,rfl,h10⟩:=z6y h9;clear h9
 obtain⟨a10,r10,rfl,h11⟩:=z2s h10;clear h10
 obtain rfl:=z3g h11
 exact⟨_,rfl⟩
theorem z21e {vs:List (V Un)} (h:vs.map flOf=(fls .plan).map some) : ∃ x,dec .plan vs=some x:=by
 have h0:vs.map flOf=([.int,.str,.str,.sl .col,.sl .plan,.sl .term,.sl .term,.sl .term,.sl .agg,.sl .by_,.sl .int,.bool,.bool,.sl .val,.bool,.bool,.sl .val,.int,.int,.bool,.sl .row,.int,.int] : List Fl).map some:=h
 clear h
 obtain⟨a0,r0,rfl,h1⟩:=z1y h0;clear h0
 obtain⟨a1,r1,rfl,h2⟩:=z9d h1;clear h1
 obtain⟨a2,r2,rfl,h3⟩:=z9d h2;clear h2
 obtain⟨a3,r3,rfl,h4⟩:=z2s h3;clear h3
 obtain⟨a4,r4,rfl,h5⟩:=z2s h4;clear h4
 obtain⟨a5,r5,rfl,h6⟩:=z2s h5;clear h5
 obtain⟨a6,r6,rfl,h7⟩:=z2s h6;clear h6
 obtain⟨a7,r7,rfl,h8⟩:=z2s h7;clear h7
 obtain⟨a8,r8,rfl,h9⟩:=z2s h8;clear h8
 obtain⟨a9,r9,rfl,h10⟩:=z2s h9;clear h9
 obtain⟨a10,r10,rfl,h11⟩:=z2s h10;clear h10
 obtain⟨a11,r11,rfl,h12⟩:=z6y h11;clear h11
 obtain⟨a12,r12,rfl,h13⟩:=z6y h12;clear h12
 obtain⟨a13,r13,rfl,h14⟩:=z2s h13;clear h13
 obtain⟨a14,r14,rfl,h15⟩:=z6y h14;clear h14
 obtain⟨a15,r15,rfl,h16⟩:=z6y h15;clear h15
 obtain⟨a16,r16,rfl,h17⟩:=z2s h16;clear h16
 obtain⟨a17,r17,rfl,h18⟩:=z1y h17;clear h17
 obtain⟨a18,r18,rfl,h19⟩:=z1y h18;clear h18
 obtain⟨a19,r19,rfl,h20⟩:=z6y h19;clear h19
 obtain⟨a20,r20,rfl,h21⟩:=z2s h20;clear h20
 obtain⟨a21,r21,rfl,h22⟩:=z1y h21;clear h21
 obtain⟨a22,r22,rfl,h23⟩:=z1y h22;clear h22
 obtain rfl:=z3g h23
 exact⟨_,rfl⟩
theorem z21f {vs:List (V Un)} (h:vs.map flOf=(fls .span).map some) : ∃ x,dec .span vs=some x:=by
 have h0:vs.map flOf=([.sl .val,.bool,.bool,.sl .val,.bool,.bool,.sl .val,.int,.sl .term] : List Fl).map some:=h
 clear h
 obtain⟨a0,r0,rfl,h1⟩:=z2s h0;clear h0
 obtain⟨a1,r1,rfl,h2⟩:=z6y h1;clear h1
 obtain⟨a2,r2,rfl,h3⟩:=z6y h2;clear h2
 obtain⟨a3,r3,rfl,h4⟩:=z2s h3;clear h3
 obtain⟨a4,r4,rfl,h5⟩:=z6y h4;clear h4
 obtain⟨a5,r5,rfl,h6⟩:=z6y h5;clear h5
 obtain⟨a6,r6,rfl,h7⟩:=z2s h6;clear h6
 obtain⟨a7,r7,rfl,h8⟩:=z1y h7;clear h7
 obtain⟨a8,r8,rfl,h9⟩:=z2s h8;clear h8
 obtain rfl:=z3g h9
 exact⟨_,rfl⟩
theorem z24e {vs:List (V Un)} (h:vs.map flOf=(fls .u8).map some) : ∃ x,dec .u8 vs=some x:=by
 have h0:vs.map flOf=([.num .u8] : List Fl).map some:=h
 clear h
 obtain⟨a0,r0,rfl,h1⟩:=z1y8 h0;clear h0
 obtain rfl:=z3g h1
 exact⟨_,rfl⟩
theorem z23b {vs:List (V Un)} (h:vs.map flOf=(fls .bol).map some) : ∃ x,dec .bol vs=some x:=by
 have h0:vs.map flOf=([.bool] : List Fl).map some:=h
 clear h
 obtain⟨a0,r0,rfl,h1⟩:=z6y h0;clear h0
 obtain rfl:=z3g h1
 exact⟨_,rfl⟩
theorem z21g {vs:List (V Un)} (h:vs.map flOf=(fls .sign).map some) : ∃ x,dec .sign vs=some x:=by
 have h0:vs.map flOf=([.int,.num .u8] : List Fl).map some:=h
 clear h
 obtain⟨a0,r0,rfl,h1⟩:=z1y h0;clear h0
 obtain⟨a1,r1,rfl,h2⟩:=z1y8 h1;clear h1
 obtain rfl:=z3g h2
 exact⟨_,rfl⟩
theorem z1yh {vs:List (V Un)} (h:vs.map flOf=(fls .bunch).map some) : ∃ x,dec .bunch vs=some x:=by
 have h0:vs.map flOf=([.sl .val,.sl .row] : List Fl).map some:=h
 clear h
 obtain⟨a0,r0,rfl,h1⟩:=z2s h0;clear h0
 obtain⟨a1,r1,rfl,h2⟩:=z2s h1;clear h1
 obtain rfl:=z3g h2
 exact⟨_,rfl⟩
theorem z23c {vs:List (V Un)} (h:vs.map flOf=(fls .wld).map some) : ∃ x,dec .wld vs=some x:=by
 have h0:vs.map flOf=([.sl .row,.sl .data] : List Fl).map some:=h
 clear h
 obtain⟨a0,r0,rfl,h1⟩:=z2s h0;clear h0
 obtain⟨a1,r1,rfl,h2⟩:=z2s h1;clear h1
 obtain rfl:=z3g h2
 exact⟨_,rfl⟩
theorem z24f : z1ya:=by
 intro τ vs h
 cases τ with
 | int=>exact z232 h
 | str=>exact z233 h
 | row=>exact z234 h
 | ints=>exact z218 h
 | trms=>exact z219 h
 | colss=>exact z1yd h
 | rowss=>exact z1ye h
 | pair=>exact z21a h
 | u8=>exact z24e h
 | bol=>exact z23b h
 | val=>exact z235 h
 | col=>exact z236 h
 | by_=>exact z237 h
 | bound=>exact z1yf h
 | often=>exact z1yg h
 | colStat=>exact z1sf h
 | data=>exact z21b h
 | acc=>exact z238 h
 | stat=>exact z21c h
 | column=>exact z1vg h
 | term=>exact z21d h
 | agg=>exact z239 h
 | rel=>exact z23a h
 | plan=>exact z21e h
 | sign=>exact z21g h
 | bunch=>exact z1yh h
 | wld=>exact z23c h
 | span=>exact z21f h
theorem z24g : ∀ τ,0<sz τ:=by intro τ;cases τ<;>decide
def byt : Ty→Nat
 | .int=>8
 | .str=>16
 | .row=>24
 | .ints=>24
 | .trms=>24
 | .colss=>24
 | .rowss=>24
 | .pair=>16
 | .u8=>1
 | .bol=>1
 | .sign=>16
 | .bunch=>48
 | .wld=>48
 | .val=>32
 | .col=>40
 | .by_=>16
 | .bound=>32
 | .often=>40
 | .colStat=>64
 | .data=>40
 | .acc=>104
 | .stat=>56
 | .column=>88
 | .term=>128
 | .agg=>48
 | .rel=>192
 | .plan=>360
 | .span=>120
def tl : Option (TI Un)→TI Un
 | some (.sl _ .pair _)=>.oth
 | some x=>x
 | none=>.oth
theorem z22r {x:TI Un} {e:TypeId} {τ:Ty} {b:Nat} (h:tl (some x)=.sl e τ b) : x=.sl e τ b∧τ≠.pair:=by
 cases x with
 | sl e' τ' b' =>
  cases τ'<;>simp [tl] at h<;>(obtain⟨rfl,rfl,rfl⟩:=h;exact⟨rfl,by simp⟩)
 | _=>simp [tl] at h
def tiL (t:TypeId) : TI Un:=tl (look t tab)
noncomputable def lay1 : TI Un→Bool
 | .sl _ .pair _=>true
 | .sl e τ b=>lay Tryz.prog tiL 8 e == some (fls τ) && Tryz.prog.cellsOf e == sz τ && Tryz.prog.bytesOf e == byt τ && b == byt τ
 | _=>true
theorem z1u9 {e:TypeId} {τ:Ty} {b:Nat} (h:lay1 (.sl e τ b)=true) (hp:τ≠.pair)   : (lay Tryz.prog tiL 8 e=some (fls τ)∧Tryz.prog.cellsOf e=sz τ)∧Tryz.prog.bytesOf e=byt τ:=by
 cases τ<;>first | exact absurd rfl hp | (simp only[lay1,Bool.and_eq_true,beq_iff_eq] at h;exact h.1)
noncomputable def layB : Bool:=tab.all fun x=>lay1 x.2
theorem z1jd : layB=true:=by kernel_rfl
theorem z1vh {t e:TypeId} {τ:Ty} {b:Nat} (h:tiL t=.sl e τ b) : (lay Tryz.prog tiL 8 e=some (fls τ)∧Tryz.prog.cellsOf e=sz τ)∧Tryz.prog.underlying t=some (.slice e):=by
 have hb:=z1jd
 unfold layB at hb
 rw[List.all_eq_true] at hb
 unfold tiL at h
 cases hl : look t tab with
 | none=>rw[hl] at h;simp [tl] at h
 | some x =>
  rw[hl] at h
  have hm:=hb _ (zh1 hl)
  obtain⟨rfl,hp⟩:=z22r h
  have ht:=(z1nc (fun _=>none) (fun _=>none) (fun _=>none) (fun _=>none) (fun _=>none)).ti t
  have hti:(mach (fun _=>none) (fun _=>none) (fun _=>none) (fun _=>none) (fun _=>none)).ti t=.sl e τ b:=by
   unfold Mc.ti mach;simp only[hl]
  rw[hti] at ht
  exact⟨(z1u9 hm hp).1,ht.2.1⟩
theorem z259 {t e:TypeId} {τ:Ty} {b:Nat} (h:tiL t=.sl e τ b) : Tryz.prog.bytesOf e=byt τ:=by
 have hb:=z1jd
 unfold layB at hb
 rw[List.all_eq_true] at hb
 unfold tiL at h
 cases hl : look t tab with
 | none=>rw[hl] at h;simp [tl] at h
 | some x =>
  rw[hl] at h
  have hm:=hb _ (zh1 hl)
  obtain⟨rfl,hp⟩:=z22r h
  exact (z1u9 hm hp).2
section
variable {H:Type} {enc':TypeId×Value→H} {w:World} {spare:Nat→Bool} {held:Bool} {base:Nat} {r:Reach} {b0:Nat}
theorem z1oj {t:TypeId} {cs:List Value} {d:DataW H} {ps:List MemPlace} {k:Nat} {fl:List Fl} (h:∃ n,DataW.trod enc' Tryz.prog w 0 spare held n t cs=some (d,ps)) (hl:lay Tryz.prog tiL k t=some fl) :
  ∃ vs,All2 (VRel En (StA w) w) cs vs∧vs.map flOf=fl.map some∧((∀ q∈d.weights Tryz.prog t,q≤reachBytes)→∀ v∈vs,VB byt v):=by
 obtain⟨n,h⟩:=h
 obtain⟨vs,h1,h2,h3,_⟩:=z1yc (fun t e τ b ht=>z259 ht) (fun t e τ b ht=>⟨8,(z1vh ht).1.1⟩) z24f z24g (fun t e τ b ht=>(z1vh ht).1.2) n t cs _ k fl h hl
 exact⟨vs,h1,h2,h3⟩
theorem z1yi {t e:TypeId} {τ:Ty} {b:Nat} (ht:tiL t=.sl e τ b) {v:Value} {d:DataW H} {ps:List MemPlace} (hval:Value.okWide Tryz.prog w r b0 t v) (hd:DataW.Trod enc' Tryz.prog w 0 spare held t v d ps) :
  ∃ l : List (Den τ),DRel Tryz.prog En (StA w) w v (.d (.v (.dat (U:=Un) τ l)))∧((∀ q∈d.weights Tryz.prog t,q≤reachBytes)→VB byt (.dat (U:=Un) τ l)):=by
 have hu:=(z1vh ht).2
 obtain⟨a,len,cap,rfl⟩:=Go.WideShapes.okWide_slice hu hval
 obtain⟨vs,h1,h2,h4⟩:=z1oj (k:=1) (fl:=[.sl τ]) hd (by simp only[lay,hu,ht,if_true])
 obtain⟨l,rs,rfl,h3⟩:=z2s h2
 exact⟨l,h1.1,fun hq=>h4 hq _ List.mem_cons_self⟩
theorem z23d {t e:TypeId} {n:Nat} {fl:List Fl} (hu:Tryz.prog.underlying t=some (.array n e)) (hl:lay Tryz.prog tiL 8 t=some fl) {v:Value} {d:DataW H} {ps:List MemPlace} (hval:Value.okWide Tryz.prog w r b0 t v) (hd:DataW.Trod enc' Tryz.prog w 0 spare held t v d ps) :
  ∃ vs : List (V Un),DRel Tryz.prog En (StA w) w v (.d (.agg vs))∧vs.map flOf=fl.map some∧((∀ q∈d.weights Tryz.prog t,q≤reachBytes)→∀ c∈vs,VB byt c):=by
 have hv:=hval
 simp only[Value.okWide,hu] at hv
 obtain⟨cs,rfl,hsz,_⟩:=hv
 obtain⟨vs,h1,h2,h4⟩:=z1oj hd hl
 exact⟨vs,⟨cs,rfl,h1⟩,h2,h4⟩
end
def isSl (τ:Ty) : TI Un→Bool
 | .sl _ τ' _=>decide (τ'=τ)
 | _=>false
theorem z1yj {t:TypeId} {τ:Ty} (h:isSl τ (tiL t)=true) : tiL t=.sl (match tiL t with | .sl e _ _=>e | _=>0) τ (match tiL t with | .sl _ _ b=>b | _=>0):=by
 cases hx : tiL t with
 | sl e τ' b =>
  rw[hx] at h
  have : τ'=τ:=of_decide_eq_true h
  subst this;rfl
 | _=>rw[hx] at h;simp [isSl] at h
theorem z1yk {f:FuncId} {F:FnC Un} (hok:FnOK f F) {args:List (D Un)} {ob:List Prop} (hF:F args=some (ob,[.c (.s (.bool true))],[])) (hob:∀ p∈ob,p) {w:World} {vs:List Value} (hrel:All2 (DRel Tryz.prog En (StA w) w) vs args) (hld:Laid w:=by exact Laid.none _) :
  Calls Tryz.prog f vs.toArray w fun e w'=>e=.returned (.bool true)∧Ext w w':=by
 refine ((hok args ob _ [] hF hob).1 w (StA w) vs (fun b o h=>h) hrel hld).mono ?_
 rintro e w' ⟨v,rfl,hx,g,-,-,-,hr,-⟩
 exact⟨by rw[show v=.bool true from hr.1],hx⟩
end Go.Proofs.YtjfpbchdcbhfgaaGreat.B
