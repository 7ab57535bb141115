/- Part 7 of the proof: BRegion BNorm BSound. -/
import Derived.Orders
import Derived.LoopN
import Derived.Test.YtjfpbchdcbhfgaaGreatNsrt6
namespace Go.Proofs.YtjfpbchdcbhfgaaGreat.B
open Go Go.RowKit
variable {U:Uni} {P:Program} {M:Mc U} {fr:Fr} {w:World} {g:G} {s:S U} {a:Act} {o:Oper}
theorem z10i {E:Enc U} (h:Sim P E fr g s a w) {ops:Array Oper} {b:Bool} (hw:zn8 ops.toList s o=some b) : Region.wanted o (yielded ops a.tmps)=b:=by
 unfold zn8 at hw
 unfold Region.wanted
 split at hw
 ·rename_i hg;rw[hg];simpa using hw
 ·rename_i j want hg
  rw[hg]
  dsimp only
  cases hd : (ops.toList[j]?).bind (·.dst) with
  | none=>rw[hd] at hw;simp at hw
  | some d =>
   simp only[hd] at hw
   have hd':(ops[j]?).bind (·.dst)=some d:=by rw[Array.getElem?_toList] at hd;exact hd
   split at hw
   ·rename_i x hx
    obtain⟨v,hv,hr⟩:=All2.get d h.tms hx
    rw[Array.getElem?_toList] at hv
    have hvx:v=.bool x:=hr.1
    subst hvx
    simp [yielded,hd',hv]
    simpa using hw
   ·rename_i hx
    obtain⟨v,hv,hr⟩:=All2.get d h.tms hx
    rw[Array.getElem?_toList] at hv
    have hvx:v=undef:=hr
    subst hvx
    simp [yielded,hd',hv,undef]
    simpa using hw
   ·simp at hw
def Step (M:Mc U) (ops:List Oper) (o:Oper) (f:Fp) (s s':S U) : Prop :=
 (∃ r,zn8 ops s o=some true∧eff M s o=some r∧(∀ p∈r.ob,p)∧s'=s.upd o.dst r∧f=s.fp M ops o r)∨(zn8 ops s o=some false∧s'=s.upd o.dst z103∧f=S.fp0 ops o)
def Run (M:Mc U) (ops:List Oper) : List (Oper×Fp)→S U→S U→Prop
 | [],s,s'=>s=s'
 | (o,f)::rest,s,s'=>∃ s1,Step M ops o f s s1∧Run M ops rest s1 s'
theorem obs_iff {ps:List Prop} {K:Prop} : obs ps K↔(∀ p∈ps,p)∧K:=by
 induction ps with
 | nil=>simp [obs]
 | cons p ps ih=>simp only[obs,ih,List.mem_cons,forall_eq_or_imp];exact⟨fun ⟨h1,h2,h3⟩=>⟨⟨h1,h2⟩,h3⟩,fun ⟨⟨h1,h2⟩,h3⟩=>⟨h1,h2,h3⟩⟩
theorem zwn {ops:List Oper} {K:S U→List Fp→Prop} : ∀ (l:List Oper) (i:Nat) (s:S U) (fs:List Fp),zlm M ops l i s fs K→∃ l' s',l'.map (·.1)=l∧Run M ops l' s s'∧K s' ((l'.map (·.2)).reverse++fs)
 | [],_,s,fs,h=>⟨[],s,rfl,rfl,h⟩
 | o::rest,i,s,fs,h=>by
  simp only[zlm] at h
  split at h
  ·rename_i hw
   split at h
   ·rename_i r hr
    unfold z1ut at h
    rw[obs_iff] at h
    obtain⟨hob,h⟩:=h
    have go:∀ v,v=r.v→zlm M ops rest (i+1) (s.upd o.dst { r with v:=v }) (s.fp M ops o r::fs) K→∃ l' s',l'.map (·.1)=o::rest∧Run M ops l' s s'∧K s' ((l'.map (·.2)).reverse++fs):=by
     intro v hv hh
     subst hv
     obtain⟨l',s',h1,h2,h3⟩:=zwn rest (i+1) _ _ hh
     refine⟨(o,s.fp M ops o r)::l',s',by simp [h1],⟨_,.inl ⟨r,hw,hr,hob,rfl,rfl⟩,h2⟩,?_⟩
     simpa using h3
    split at h
    ·rename_i x _ hv
     cases x with
     | true=>exact go _ hv.symm h
     | false=>exact go _ hv.symm h
    ·exact go _ rfl h
   ·exact h.elim
  ·rename_i hw
   obtain⟨l',s',h1,h2,h3⟩:=zwn rest (i+1) _ _ h
   refine⟨(o,S.fp0 ops o)::l',s',by simp [h1],⟨_,.inr ⟨hw,rfl,rfl⟩,h2⟩,?_⟩
   simpa using h3
  ·exact h.elim
theorem Sim.undef (h:Sim P M.E fr g s a w) (dst:Option Nat) : Sim P M.E fr g (s.upd dst z103) (a.put dst Go.undef) w:=h.put rfl rfl rfl
theorem z1b6 (hT:TabOK P M) (hF:FnsOK P M) {ops:Array Oper} {Q:Exit→Act→World→Prop} {i:Nat} (ho:ops[i]? = some o) {f:Fp} {s':S U} (h:Sim P M.E fr g s a w) (hs:Step M ops.toList o f s s') {K:Act→World→Prop}
  (hK:∀ g' a' w',Sim P M.E fr g' s' a' w'→K a' w') : wpOp P ops Q i K a w:=by
 unfold wpOp
 rw[ho]
 dsimp only
 rcases hs with ⟨r,hw,hr,hob,rfl,_⟩ | ⟨hw,rfl,_⟩
 ·rw[z10i h hw,if_pos rfl]
  refine .inl ?_
  have hd:=z1xm hT hF h hr hob Q
  exact Oper.wp_mono (fun a' w' ⟨g',hs'⟩=>hK g' a' w' hs') hd
 ·rw[z10i h hw]
  simp only[Bool.false_eq_true,if_false]
  exact hK g _ _ (h.undef _)
theorem z1j4 (hT:TabOK P M) (hF:FnsOK P M) {ops:Array Oper} {Q:Exit→Act→World→Prop} {s':S U} (hK:∀ g' a' w',Sim P M.E fr g' s' a' w'→Q .normal a' w') :
  ∀ (l:List (Oper×Fp)) (k:Nat) {g:G} {s:S U} {a:Act} {w:World},(∀ (j:Nat),(l.map (·.1))[j]? = ops[k+j]?)→Sim P M.E fr g s a w→Run M ops.toList l s s'→wpOps P ops Q (List.range' k l.length) a w
 | [],k,g,s,a,w,_,h,hr=>by
  have : s=s':=hr
  subst this
  exact hK g a w h
 | (o,f)::l,k,g,s,a,w,hl,h,hr=>by
  obtain⟨s1,h1,h2⟩:=hr
  rw[List.length_cons,List.range'_succ,wpOps_cons]
  refine z1b6 hT hF (by have:=hl 0;simpa using this.symm) h h1 fun g' a' w' h'=>?_
  exact z1j4 hT hF hK l (k+1) (fun j=>by have:=hl (j+1);simpa [Nat.add_assoc,Nat.add_comm 1 j] using this) h' h2
theorem zty {α:Type} {q:Nat} : ∀ {x:List (Nat×α)} {l:List α},q ∉ x.map (·.1)→(sets l x)[q]? = l[q]?
 | [],_,_=>rfl
 | (k,y)::x,l,h=>by
  simp only[List.map_cons,List.mem_cons,not_or] at h
  simp only[sets]
  rw[zty h.2,List.getElem?_set_ne (Ne.symm h.1)]
theorem z1o8 {α:Type} {q:Nat} {z:α} : ∀ {x:List (Nat×α)} {l:List α},q ∉ x.map (·.1)→sets (l.set q z) x=(sets l x).set q z
 | [],_,_=>rfl
 | (k,y)::x,l,h=>by
  simp only[List.map_cons,List.mem_cons,not_or] at h
  simp only[sets]
  rw[List.set_comm _ _ h.1,z1o8 h.2]
theorem z10j {α:Type} : ∀ {y x:List (Nat×α)} {l:List α},(∀ k∈x.map (·.1),k ∉ y.map (·.1))→sets (sets l x) y=sets (sets l y) x
 | [],_,_,_=>rfl
 | (k,z)::y,x,l,h=>by
  simp only[sets]
  have hk:k ∉ x.map (·.1):=fun hk=>h k hk (by simp)
  rw[← z1o8 hk,z10j (fun q hq hq'=>h q hq (by simp [hq']))]
structure Frame' (f:Fp) (s s1:S U) : Prop where
 base : s1.base=s.base
 tm : ∀ t,t ∉ f.ws→s1.tm[t]? = s.tm[t]?
 bx : ∀ k,k ∉ f.wb→s1.bx[k]? = s.bx[k]?
 ob : ∀ k,k ∉ f.wo→s1.ob[k]? = s.ob[k]?
theorem z1j5 {r:Res U} {dst:Option Nat} {f:Fp} (h1:f.ws=dst.toList) (h2:f.wb=r.bw.map (·.1)) (h3:f.wo=r.ow.map (·.1)) : Frame' f s (s.upd dst r):=by
 refine⟨rfl,fun t ht=>?_,fun k hk=>?_,fun k hk=>?_⟩
 ·rw[h1] at ht
  cases dst with
  | none=>rfl
  | some d =>
   have : t≠d:=by simpa using ht
   exact List.getElem?_set_ne (Ne.symm this)
 ·rw[h2] at hk;exact zty hk
 ·rw[h3] at hk;exact zty hk
theorem z20q {r r':Res U} {d d':Option Nat} (h1:∀ x∈d.toList,x ∉ d'.toList) (h2:∀ k∈r.bw.map (·.1),k ∉ r'.bw.map (·.1)) (h3:∀ k∈r.ow.map (·.1),k ∉ r'.ow.map (·.1)) : (s.upd d r).upd d' r'=(s.upd d' r').upd d r:=by
 unfold S.upd
 congr 1
 ·cases d with
  | none=>rfl
  | some x =>
   cases d' with
   | none=>rfl
   | some y =>
    have : x≠y:=by simpa using h1 x (by simp)
    exact List.set_comm _ _ this
 ·exact z10j h2
 ·exact z10j h3
theorem z1j6 {ops:List Oper} {s s':S U} (h:∀ t∈zq6 ops o,s'.tm[t]? = s.tm[t]?) : zn8 ops s' o=zn8 ops s o:=by
 unfold zn8
 unfold zq6 at h
 cases hg : o.guard with
 | none=>rfl
 | some x =>
  obtain⟨j,want⟩:=x
  rw[hg] at h
  dsimp only at h ⊢
  cases hd : (ops[j]?).bind (·.dst) with
  | none=>rfl
  | some d =>
   rw[hd] at h
   dsimp only
   rw[h d (by simp)]
theorem zc1 {s s':S U} {x:Operand} (h:∀ t,x=.tmp t→s'.tm[t]? = s.tm[t]?) : s'.obsX x=s.obsX x:=by
 cases x with
 | tmp t=>simp only[S.obsX,h t rfl]
 | _=>rfl
theorem zwo {s s':S U} : ∀ {xs:List Operand},(∀ x∈xs,∀ t,x=.tmp t→s'.tm[t]? = s.tm[t]?)→s'.obsXs xs=s.obsXs xs
 | [],_=>rfl
 | x::xs,h=>by simp only[S.obsXs,zc1 (h x (by simp)),zwo (xs:=xs) (fun y hy=>h y (by simp [hy]))]
theorem zwp {s s':S U} {x:Operand} (h:∀ t,x=.tmp t→s'.tm[t]? = s.tm[t]?) : s'.bxX x=s.bxX x:=by
 cases x with
 | tmp t=>simp only[S.bxX,h t rfl]
 | _=>rfl
theorem z10k {s s':S U} : ∀ {xs:List Operand},(∀ x∈xs,∀ t,x=.tmp t→s'.tm[t]? = s.tm[t]?)→s'.bxXs xs=s.bxXs xs
 | [],_=>rfl
 | x::xs,h=>by simp only[S.bxXs,zwp (h x (by simp)),z10k (xs:=xs) (fun y hy=>h y (by simp [hy]))]
theorem zkh {s s':S U} : ∀ {ks:List Nat},(∀ k∈ks,s'.bx[k]? = s.bx[k]?)→s'.boxObs ks=s.boxObs ks
 | [],_=>rfl
 | k::ks,h=>by simp only[S.boxObs,h k (by simp),zkh (ks:=ks) (fun y hy=>h y (by simp [hy]))]
theorem Agree.read {s s':S U} (h:Agree M s s' o) : s'.readB o=s.readB o∧s'.readO M o=s.readO M o:=by
 have hx:∀ x∈o.op.operands.toList,∀ t,x=.tmp t→s'.tm[t]? = s.tm[t]?:=fun x hx t e=>by subst e;exact h.tm t (List.mem_filterMap.2 ⟨_,hx,rfl⟩)
 have hb:s'.readB o=s.readB o:=by
  unfold S.readB
  cases hop : o.op with
  | alloc t=>simp only[h.key]
  | box t x=>simp only[h.key]
  | load t x=>rw[hop] at hx;exact zwp (hx x (by simp [Op.operands]))
  | store t x y=>rw[hop] at hx;exact zwp (hx x (by simp [Op.operands]))
  | makeFunc fn first captured=>rw[hop] at hx;exact z10k (fun x hm=>hx x (by simp [Op.operands] at hm ⊢;exact .inr hm))
  | call c =>
   rw[hop] at hx
   have h1:s'.bxXs c.args.toList=s.bxXs c.args.toList:=z10k (fun x hm=>hx x (by simp [Op.operands,Call.operands] at hm ⊢;exact .inr hm))
   have h2:s'.capX c=s.capX c:=by
    unfold S.capX
    split
    ·rename_i t hc;rw[hx (.tmp t) (by simp [Op.operands,Call.operands,hc]) t rfl]
    ·rfl
   dsimp only
   rw[h1,h2]
  | _=>rfl
 refine⟨hb,?_⟩
 unfold S.readO
 cases hop : o.op with
 | load t x=>rw[hop] at hx;exact zc1 (hx x (by simp [Op.operands]))
 | store t x y =>
  have hbx:=zkh (s:=s) (s':=s') (ks:=s.bxX x) (fun k hk=>h.bx k (by unfold S.readB;simp only[hop];exact hk))
  rw[hop] at hx;simp only[zc1 (hx x (by simp [Op.operands])),zc1 (hx y (by simp [Op.operands])),zwp (hx x (by simp [Op.operands])),hbx]
 | buildSlice t n ps =>
  rw[hop] at hx
  have : s'.obsXs (ps.toList.map (·.2))=s.obsXs (ps.toList.map (·.2)):=zwo (fun x hm=>hx x (by simpa [Op.operands] using hm))
  simp only[this,h.okey]
 | makeSlice t x y=>simp only[h.okey]
 | slice t x lo hi mx=>rw[hop] at hx;exact zc1 (hx x (by simp [Op.operands]))
 | indexAddr t x y=>rw[hop] at hx;exact zc1 (hx x (by simp [Op.operands]))
 | nilCheck x=>rw[hop] at hx;exact zc1 (hx x (by simp [Op.operands]))
 | fieldAddr t x f=>rw[hop] at hx;exact zc1 (hx x (by simp [Op.operands]))
 | makeFunc fn first captured =>
  have h1:s'.bxXs captured.toList=s.bxXs captured.toList:=by unfold S.readB at hb;simpa [hop] using hb
  dsimp only
  rw[h1]
  exact zkh (fun k hk=>h.bx k (by unfold S.readB;simp only[hop];exact hk))
 | call c =>
  rw[hop] at hx
  have : s'.obsXs c.args.toList=s.obsXs c.args.toList:=zwo (fun x hm=>hx x (by simp [Op.operands,Call.operands] at hm ⊢;exact .inr hm))
  have h1:s'.bxXs c.args.toList++s'.capX c=s.bxXs c.args.toList++s.capX c:=by unfold S.readB at hb;simpa only [hop] using hb
  have h2:=zkh (s:=s) (s':=s') (ks:=s.bxXs c.args.toList++s.capX c) (fun k hk=>h.bx k (by unfold S.readB;simp only[hop];exact hk))
  simp only[this,h.okey,h1,h2]
 | _=>rfl
theorem Step.move {ops:List Oper} {f:Fp} {s s1:S U} (h:Step M ops o f s s1) :
  ∃ r,f.ws=o.dst.toList∧f.wb=r.bw.map (·.1)∧f.wo=r.ow.map (·.1)∧s1=s.upd o.dst r ∧
   ∀ s' : S U,s'.base=s.base→(∀ t∈f.rs,s'.tm[t]? = s.tm[t]?)→(∀ k∈f.rb,s'.bx[k]? = s.bx[k]?)→(∀ k∈f.ro,s'.ob[k]? = s.ob[k]?)→Step M ops o f s' (s'.upd o.dst r):=by
 rcases h with ⟨r,hw,hr,hobl,rfl,rfl⟩ | ⟨hw,rfl,rfl⟩
 ·refine⟨r,rfl,rfl,rfl,rfl,fun s' hb htm hbx hob=>?_⟩
  have hA:Agree M s s' o:=⟨hb,fun t ht=>htm t (by simp [S.fp,ht]),fun k hk=>hbx k hk,fun k hk=>hob k hk⟩
  refine .inl ⟨r,?_,?_,hobl,rfl,?_⟩
  ·rw[z1j6 (fun t ht=>htm t (by simp [S.fp,ht]))];exact hw
  ·rw[z20p hA];exact hr
  ·simp only[S.fp,hA.read.1,hA.read.2]
 ·refine⟨z103,rfl,rfl,rfl,rfl,fun s' hb htm hbx hob=>.inr ⟨?_,rfl,rfl⟩⟩
  rw[z1j6 (fun t ht=>htm t ht)];exact hw
theorem swap {ops:List Oper} {p:Oper} {f h:Fp} {s s1 s2:S U} (hc:f.clash h=false) (h1:Step M ops o f s s1) (h2:Step M ops p h s1 s2) : ∃ s1',Step M ops p h s s1'∧Step M ops o f s1' s2:=by
 simp only[Fp.clash,Bool.or_eq_false_iff] at hc
 obtain⟨⟨⟨⟨⟨⟨⟨⟨c1,c2⟩,c3⟩,c4⟩,c5⟩,c6⟩,c7⟩,c8⟩,c9⟩:=hc
 obtain⟨r,e1,e2,e3,rfl,ho⟩:=h1.move
 have fr1:Frame' f s (s.upd o.dst r):=z1j5 e1 e2 e3
 obtain⟨r',i1,i2,i3,rfl,hp⟩:=h2.move
 have hp':=hp s fr1.base.symm (fun t ht=>(fr1.tm t (fun hh=>z50 c1 t hh ht)).symm) (fun k hk=>(fr1.bx k (fun hh=>z50 c3 k hh hk)).symm) (fun k hk=>(fr1.ob k (fun hh=>z50 c5 k hh hk)).symm)
 refine⟨_,hp',?_⟩
 have fr2:Frame' h s (s.upd p.dst r'):=z1j5 i1 i2 i3
 have ho':=ho (s.upd p.dst r') fr2.base (fun t ht=>fr2.tm t (fun hh=>z50 c7 t ht hh)) (fun k hk=>fr2.bx k (fun hh=>z50 c8 k hk hh)) (fun k hk=>fr2.ob k (fun hh=>z50 c9 k hk hh))
 rw[z20q (s:=s) (r:=r) (r':=r') (d:=o.dst) (d':=p.dst) (fun x hx=>by have:=z50 c2 x (by rw[e1];exact hx);rw[i1] at this;exact this)
  (fun x hx=>by have:=z50 c4 x (by rw[e2];exact hx);rw[i2] at this;exact this) (fun x hx=>by have:=z50 c6 x (by rw[e3];exact hx);rw[i3] at this;exact this)]
 exact ho'
theorem front {ops:List Oper} {f:Fp} : ∀ {pre post:List (Oper×Fp)} {s s':S U},(∀ x∈pre,x.2.clash f=false)→Run M ops (pre++(o,f)::post) s s'→Run M ops ((o,f)::(pre++post)) s s'
 | [],_,_,_,_,h=>h
 | (p,h)::pre,post,s,s',hc,hr=>by
  obtain⟨s1,h1,h2⟩:=hr
  obtain⟨s2,h3,h4⟩:=front (fun x hx=>hc x (by simp [hx])) h2
  obtain⟨s1',h5,h6⟩:=swap (hc (p,h) (by simp)) h1 h3
  exact⟨s1',h5,s2,h6,h4⟩
theorem zol {done:List Nat} {j:Nat} : ∀ {es:List Edge},(zln done es).testBit j=true→∃ e∈es,Region.binds .any e=true∧(j=e.on∨(done.getD e.on 0).testBit j=true)
 | [],h=>by simp [zln] at h
 | e::es,h=>by
  simp only[zln] at h
  split at h
  ·rename_i hb
   rw[Nat.testBit_or,Nat.testBit_or,Nat.testBit_two_pow] at h
   simp only[Bool.or_eq_true,decide_eq_true_eq] at h
   rcases h with (h | h) | h
   ·obtain⟨e',he,h2,h3⟩:=zol h
    exact⟨e',by simp [he],h2,h3⟩
   ·exact⟨e,by simp,hb,.inl h.symm⟩
   ·exact⟨e,by simp,hb,.inr h⟩
  ·obtain⟨e',he,h2,h3⟩:=zol h
   exact⟨e',by simp [he],h2,h3⟩
theorem z10l : ∀ (ops:List Oper) (done:List Nat),(z9v ops done).length=done.length+ops.length∧(∀ i,i<done.length→(z9v ops done).getD i 0=done.getD i 0) ∧
  ∀ (i j:Nat),i<ops.length→((z9v ops done).getD (done.length+i) 0).testBit j=true→∃ o,ops[i]? = some o∧∃ e∈o.after.toList,Region.binds .any e=true∧(j=e.on∨(e.on<done.length+i∧((z9v ops done).getD e.on 0).testBit j=true))
 | [],done=>⟨by simp [z9v],fun i _=>rfl,fun i j hi=>by simp at hi⟩
 | o::r,done=>by
  obtain⟨h1,h2,h3⟩:=z10l r (done++[zln done o.after.toList])
  simp only[z9v]
  refine⟨by rw[h1];simp;omega,fun i hi=>?_,fun i j hi hb=>?_⟩
  ·rw[h2 i (by simp;omega),List.getD_eq_getElem?_getD,List.getD_eq_getElem?_getD,List.getElem?_append_left hi]
  ·cases i with
   | zero =>
    rw[Nat.add_zero,h2 done.length (by simp),List.getD_eq_getElem?_getD,List.getElem?_append_right (Nat.le_refl _)] at hb
    simp only[Nat.sub_self,List.getElem?_cons_zero,Option.getD_some] at hb
    obtain⟨e,he,hbd,hor⟩:=zol hb
    refine⟨o,rfl,e,he,hbd,?_⟩
    rcases hor with hor | hor
    ·exact .inl hor
    ·right
     have hlt:e.on<done.length:=by
      rcases Nat.lt_or_ge e.on done.length with h | h
      ·exact h
      ·rw[List.getD_eq_getElem?_getD,List.getElem?_eq_none h] at hor;simp at hor
     refine⟨by omega,?_⟩
     rw[h2 e.on (by simp;omega),List.getD_eq_getElem?_getD,List.getElem?_append_left hlt,← List.getD_eq_getElem?_getD]
     exact hor
   | succ i =>
    have hl:(done++[zln done o.after.toList]).length+i=done.length+(i+1):=by simp;omega
    rw[← hl] at hb
    obtain⟨o',ho',e,he,hbd,hor⟩:=h3 i j (by simpa using hi) hb
    refine⟨o',by simpa using ho',e,he,hbd,?_⟩
    rcases hor with hor | ⟨hor1,hor2⟩
    ·exact .inl hor
    ·exact .inr ⟨by rw[← hl];exact hor1,hor2⟩
theorem ztz {bs:List Nat} {j:Nat} {fj:Fp} : ∀ (fs:List Fp) (k:Nat),zq7 bs j fj k fs=true→∀ (i:Nat) fi,fs[i]? = some fi→fi.clash fj=true→(bs.getD j 0).testBit (k+i)=true
 | [],_,_,i,fi,h,_=>by simp at h
 | f::fs,k,h,i,fi,hi,hc=>by
  simp only[zq7,Bool.and_eq_true,Bool.or_eq_true,Bool.not_eq_true'] at h
  cases i with
  | zero =>
   simp at hi;subst hi
   rcases h.1 with h1 | h1
   ·rw[hc] at h1;simp at h1
   ·rw[Nat.add_zero];exact h1
  | succ i =>
   have:=ztz fs (k+1) h.2 i fi (by simpa using hi) hc
   rw[show k+(i+1)=k+1+i from by omega];exact this
theorem zy4 {bs:List Nat} : ∀ (fs done:List Fp) (k:Nat),k=done.length→zoh bs k done fs=true→∀ (i j:Nat) fi fj,i<j→done.length≤j→(done++fs)[i]? = some fi→(done++fs)[j]? = some fj→fi.clash fj=true→(bs.getD j 0).testBit i=true
 | [],done,k,_,_,i,j,fi,fj,_,hj,_,h2,_=>by
  rw[List.append_nil,List.getElem?_eq_none hj] at h2;simp at h2
 | f::fs,done,k,hk,h,i,j,fi,fj,hij,hj,h1,h2,hc=>by
  simp only[zoh,Bool.and_eq_true] at h
  rcases Nat.eq_or_lt_of_le hj with rfl | hlt
  ·rw[List.getElem?_append_right (Nat.le_refl _)] at h2
   simp at h2;subst h2
   rw[List.getElem?_append_left hij] at h1
   have:=ztz done 0 h.1 i fi h1 hc
   rw[Nat.zero_add,hk] at this
   exact this
  ·have:=zy4 fs (done++[f]) (k+1) (by simp [hk]) h.2 i j fi fj hij (by simp;omega) (by simpa using h1) (by simpa using h2) hc
   exact this
theorem z1b7 : ∀ (ops:List Oper) (k:Nat),zo2 k ops=true→∀ (i:Nat) o,ops[i]? = some o→∀ e∈o.after.toList,Region.binds .any e=true→e.on<k+i
 | [],_,_,i,o,h=>by simp at h
 | o::r,k,h,i,o',hi=>by
  simp only[zo2,Bool.and_eq_true,List.all_eq_true] at h
  cases i with
  | zero =>
   simp at hi;subst hi
   intro e he hb
   have:=h.1 e he
   rw[hb] at this
   simp [Nat.blt] at this
   omega
  | succ i =>
   intro e he hb
   have:=z1b7 r (k+1) h.2 i o' (by simpa using hi) e he hb
   omega
structure Left (ops:Array Oper) (fs:List Fp) (listed:Array Bool) (L:List (Nat×Oper×Fp)) : Prop where
 size : listed.size=ops.size
 sorted : L.Pairwise (fun x y=>x.1<y.1)
 what : ∀ x∈L,ops[x.1]? = some x.2.1∧fs[x.1]? = some x.2.2
 all : ∀ i,i<ops.size→(listed.getD i true=false↔∃ x∈L,x.1=i)
 down : ∀ k,listed.getD k false=true→∀ j,((z9v ops.toList []).getD k 0).testBit j=true→listed.getD j false=true
theorem z1xt {α:Type} {x:α} {l:List α} (h:x∈l) : ∃ a b,l=a++x::b:=List.append_of_mem h
theorem z1o9 (l:Array Bool) (i j:Nat) (d:Bool) : (l.setIfInBounds i true).getD j d=if i=j∧i<l.size then true else l.getD j d:=by
 simp only[Array.getD_eq_getD_getElem?,Array.getElem?_setIfInBounds]
 split
 ·rename_i e;subst e
  split
  ·rename_i h;simp [h]
  ·rename_i h;simp [h,Array.getElem?_eq_none (Nat.le_of_not_lt h)]
 ·rename_i e;simp [e]
theorem z1j7 (hT:TabOK P M) (hF:FnsOK P M) {ops:Array Oper} {Q:Exit→Act→World→Prop} {s':S U} {fs:List Fp} (hK:∀ g' a' w',Sim P M.E fr g' s' a' w'→Q .normal a' w')
  (hedge:zo2 0 ops.toList=true) (hap:∀ (i j:Nat) fi fj,i<j→fs[i]? = some fi→fs[j]? = some fj→fi.clash fj=true→((z9v ops.toList []).getD j 0).testBit i=true) :
  ∀ (fuel:Nat) (listed:Array Bool) (L:List (Nat×Oper×Fp)) {g:G} {s:S U} {a:Act} {w:World},L.length=fuel→Left ops fs listed L→Sim P M.E fr g s a w→Run M ops.toList (L.map (·.2)) s s'→wpAny P .any ops Q fuel listed a w
 | 0,listed,L,g,s,a,w,hl,hL,h,hr=>by
  have : L=[]:=List.eq_nil_of_length_eq_zero hl
  subst this
  have e:s=s':=hr
  subst e
  refine⟨?_,hK g a w h⟩
  unfold Region.ready
  rw[List.filter_eq_nil_iff]
  intro i hi
  have hlt:i<ops.size:=by simpa using hi
  have : listed.getD i true=true:=by
   cases hg : listed.getD i true with
   | true=>rfl
   | false=>obtain⟨x,hx,_⟩:=(hL.all i hlt).1 hg;simp at hx
  simp [this]
 | fuel+1,listed,L,g,s,a,w,hl,hL,h,hr=>by
  have hnotempty:Region.ready .any ops listed≠[]:=by
   cases L with
   | nil=>simp at hl
   | cons x L =>
    obtain⟨i,o,f⟩:=x
    have hx:=hL.what (i,o,f) (by simp)
    have hlt:i<ops.size:=(Array.getElem?_eq_some_iff.1 hx.1).1
    have hun:=(hL.all i hlt).2 ⟨(i,o,f),by simp,rfl⟩
    have hmem:i∈Region.ready .any ops listed:=by
     unfold Region.ready
     refine List.mem_filter.2 ⟨by simpa using hlt,?_⟩
     rw[hun,hx.1]
     simp only[Bool.not_false,Bool.true_and,Option.map_some,Option.getD_some,Array.all_eq_true']
     intro e he
     simp only[Bool.or_eq_true,Bool.not_eq_true']
     cases hb : Region.binds .any e with
     | false=>exact .inl rfl
     | true =>
      right
      have hlt2:=z1b7 ops.toList 0 hedge i o (by rw[Array.getElem?_toList];exact hx.1) e (by simpa using he) hb
      have hlt3:e.on<ops.size:=by omega
      cases hg : listed.getD e.on true with
      | true =>
       have hsz:e.on<listed.size:=by rw[hL.size];exact hlt3
       simp only[Array.getD_eq_getD_getElem?,Array.getElem?_eq_getElem hsz,Option.getD_some] at hg ⊢
       exact hg
      | false =>
       obtain⟨y,hy,hyi⟩:=(hL.all e.on hlt3).1 hg
       have hs:=List.pairwise_cons.1 hL.sorted
       rcases List.mem_cons.1 hy with rfl | hy
       ·have : i=e.on:=hyi;omega
       ·have : i<y.1:=hs.1 y hy;omega
    intro hnil;rw[hnil] at hmem;simp at hmem
  refine⟨fun hn=>(hnotempty hn).elim,fun i hi=>?_⟩
  unfold Region.ready at hi
  obtain⟨hi1,hi2⟩:=List.mem_filter.1 hi
  have hlt:i<ops.size:=by simpa using hi1
  simp only[Bool.and_eq_true,Bool.not_eq_true'] at hi2
  obtain⟨⟨i',o,f⟩,hx,hii⟩:=(hL.all i hlt).1 hi2.1
  have hii':i'=i:=hii
  subst hii'
  have hw:=hL.what _ hx
  have hready:∀ e∈o.after.toList,Region.binds .any e=true→listed.getD e.on false=true:=by
   have:=hi2.2
   rw[hw.1] at this
   simp only[Option.map_some,Option.getD_some,Array.all_eq_true'] at this
   intro e he hb
   have:=this e (by simpa using he)
   rw[hb] at this
   simpa using this
  have hbefore:∀ j,((z9v ops.toList []).getD i' 0).testBit j=true→listed.getD j false=true:=by
   intro j hj
   have hspec:=(z10l ops.toList []).2.2 i' j (by simpa using hlt) (by simpa using hj)
   obtain⟨o',ho',e,he,hb,hor⟩:=hspec
   rw[Array.getElem?_toList,hw.1] at ho'
   simp at ho';subst ho'
   have hle:=hready e he hb
   rcases hor with rfl | ⟨_,hor⟩
   ·exact hle
   ·exact hL.down e.on hle j hor
  obtain⟨pre,post,rfl⟩:=z1xt hx
  have hpw:=List.pairwise_append.1 hL.sorted
  have hlisted:∀ x∈pre++post,listed.getD x.1 true=false:=by
   intro x hxm
   have hm:x∈pre++(i',o,f)::post:=by
    rcases List.mem_append.1 hxm with hh | hh
    ·exact List.mem_append_left _ hh
    ·exact List.mem_append_right _ (List.mem_cons_of_mem _ hh)
   exact (hL.all x.1 (Array.getElem?_eq_some_iff.1 (hL.what x hm).1).1).2 ⟨x,hm,rfl⟩
  have hne:∀ x∈pre++post,x.1≠i':=by
   intro x hxm
   rcases List.mem_append.1 hxm with hh | hh
   ·have:=hpw.2.2 x hh (i',o,f) (by simp);exact Nat.ne_of_lt this
   ·have:=(List.pairwise_cons.1 hpw.2.1).1 x hh;exact (Nat.ne_of_lt this).symm
  have hrun:Run M ops.toList ((o,f)::((pre++post).map (·.2))) s s':=by
   have hr':Run M ops.toList (pre.map (·.2)++(o,f)::post.map (·.2)) s s':=by simpa using hr
   have:=front (fun x hxm=>by
    obtain⟨y,hy,rfl⟩:=List.mem_map.1 hxm
    cases hcl : y.2.2.clash f with
    | false=>rfl
    | true =>
     have hyl:=hpw.2.2 y hy (i',o,f) (by simp)
     have hyw:=hL.what y (by simp [hy])
     have hbit:=hap y.1 i' y.2.2 f hyl hyw.2 hw.2 hcl
     have h1:=hbefore y.1 hbit
     have h2:=hlisted y (by simp [hy])
     simp only[Array.getD_eq_getD_getElem?] at h1 h2
     cases hq : listed[y.1]? with
     | none=>rw[hq] at h1;simp at h1
     | some b=>rw[hq] at h1 h2;simp at h1 h2;rw[h1] at h2;simp at h2) hr'
   simpa using this
  obtain⟨s1,hs1,hs2⟩:=hrun
  refine z1b6 hT hF hw.1 h hs1 fun g' a' w' h'=>?_
  refine z1j7 hT hF hK hedge hap fuel (listed.setIfInBounds i' true) (pre++post) (by simp at hl ⊢;omega) ?_ h' hs2
  have hil:i'<listed.size:=by rw[hL.size];exact hlt
  refine⟨by simp [hL.size],?_,fun x hxm=>hL.what x (by
   rcases List.mem_append.1 hxm with hh | hh
   ·exact List.mem_append_left _ hh
   ·exact List.mem_append_right _ (List.mem_cons_of_mem _ hh)),fun j hj=>?_,fun k hk j hj=>?_⟩
  ·rw[List.pairwise_append]
   refine⟨hpw.1,(List.pairwise_cons.1 hpw.2.1).2,fun x hxm y hym=>hpw.2.2 x hxm y (by simp [hym])⟩
  ·rw[z1o9]
   by_cases e : i'=j
   ·subst e
    rw[if_pos ⟨rfl,hil⟩]
    simp only[Bool.true_eq_false,false_iff]
    rintro ⟨x,hxm,hxe⟩
    exact hne x hxm hxe
   ·rw[if_neg (by rintro ⟨h1,_⟩;exact e h1),hL.all j hj]
    constructor
    ·rintro ⟨x,hxm,hxe⟩
     refine⟨x,?_,hxe⟩
     rcases List.mem_append.1 hxm with hh | hh
     ·exact List.mem_append_left _ hh
     ·rcases List.mem_cons.1 hh with rfl | hh
      ·exact (e hxe).elim
      ·exact List.mem_append_right _ hh
    ·rintro ⟨x,hxm,hxe⟩
     refine⟨x,?_,hxe⟩
     rcases List.mem_append.1 hxm with hh | hh
     ·exact List.mem_append_left _ hh
     ·exact List.mem_append_right _ (List.mem_cons_of_mem _ hh)
  ·rw[z1o9] at hk ⊢
   by_cases e : i'=j
   ·rw[if_pos ⟨e,hil⟩]
   ·rw[if_neg (by rintro ⟨h1,_⟩;exact e h1)]
    by_cases e2 : i'=k
    ·subst e2;exact hbefore j hj
    ·rw[if_neg (by rintro ⟨h1,_⟩;exact e2 h1)] at hk
     exact hL.down k hk j hj
end Go.Proofs.YtjfpbchdcbhfgaaGreat.B
namespace Go.Proofs.YtjfpbchdcbhfgaaGreat.B
open Go Go.RowKit
variable {U:Uni} {P:Program} {E:Enc U} {fr:Fr} {w:World} {g:G} {s:S U} {a:Act}
theorem z1j8 {α:Type} {t:Nat} {x:α} : ∀ {l:List (Nat×α)},look t l=some x→(t,x)∈l:=fun h=>zh1 h
theorem z15d {k q:Nat} : ∀ {mp:List (Nat×Nat)},z4a (mp.map (·.1))=true→(k,q)∈mp→look k mp=some q
 | [],_,h=>by simp at h
 | (k',q')::r,hu,h=>by
  obtain⟨h1,h2⟩:=z8o hu
  simp only[look]
  rcases List.mem_cons.1 h with e | h
  ·simp at e;obtain⟨rfl,rfl⟩:=e;simp
  ·have : k'≠k:=by rintro rfl;exact h1 (List.mem_map.2 ⟨_,h,rfl⟩)
   have hb:Nat.beq k' k=false:=by cases hh : Nat.beq k' k with | false=>rfl | true=>exact (this (Nat.eq_of_beq_eq_true hh)).elim
   rw[hb];exact z15d h2 h
def back (q:Nat) : List (Nat×Nat)→Option Nat
 | []=>none
 | (k,q')::r=>if q'=q then some k else back q r
theorem z15e {k q:Nat} : ∀ {mp:List (Nat×Nat)},z4a (mp.map (·.2))=true→(k,q)∈mp→back q mp=some k
 | [],_,h=>by simp at h
 | (k',q')::r,hu,h=>by
  obtain⟨h1,h2⟩:=z8o hu
  simp only[back]
  rcases List.mem_cons.1 h with e | h
  ·simp at e;obtain⟨rfl,rfl⟩:=e;simp
  ·have : q'≠q:=by rintro rfl;exact h1 (List.mem_map.2 ⟨_,h,rfl⟩)
   rw[if_neg this];exact z15e h2 h
theorem z1j9 {q:Nat} {o:Ob U} : ∀ {mp:List (Nat×Nat)} {l:List (Option (Ob U))},z4a (mp.map (·.2))=true→(∀ x∈mp,x.2<l.length)→(∀ o,l[q]? ≠ some (some o))→(sets l (s.moved mp))[q]? = some (some o)→∃ k o0,(k,q)∈mp∧s.ob[k]? = some (some o0)∧o={ o0 with ver:=0 }
 | [],l,_,_,hn,h=>(hn o h).elim
 | (k,q')::r,l,hu,hl,hn,h=>by
  obtain⟨h1,h2⟩:=z8o hu
  simp only[S.moved,sets] at h
  by_cases e : q=q'
  ·subst e
   have hnr:q ∉ (s.moved r).map (·.1):=by
    have : ∀ r : List (Nat×Nat),(s.moved r).map (·.1)=r.map (·.2):=by
     intro r;induction r with
     | nil=>rfl
     | cons x r ih=>simp [S.moved,ih]
    rw[this];exact h1
   rw[zty hnr,List.getElem?_set_self (hl (k,q) (by simp))] at h
   simp at h
   split at h
   ·rename_i o0 ho;simp at h;exact⟨k,o0,by simp,ho,h.symm⟩
   ·simp at h
  ·obtain⟨k',o0,m1,m2,m3⟩:=z1j9 (mp:=r) h2 (fun x hx=>by simpa using hl x (by simp [hx])) (fun o' ho'=>by rw[List.getElem?_set_ne (Ne.symm e)] at ho';exact hn o' ho') h
   exact⟨k',o0,by simp [m1],m2,m3⟩
theorem zwq {k q:Nat} {o:Ob U} (ho:s.ob[k]? = some (some o)) : ∀ {mp:List (Nat×Nat)} {l:List (Option (Ob U))},z4a (mp.map (·.2))=true→(∀ x∈mp,x.2<l.length)→(k,q)∈mp→(sets l (s.moved mp))[q]? = some (some { o with ver:=0 })
 | [],l,_,_,h=>by simp at h
 | (k',q')::r,l,hu,hl,h=>by
  obtain⟨h1,h2⟩:=z8o hu
  have hkeys:∀ r : List (Nat×Nat),(s.moved r).map (·.1)=r.map (·.2):=by
   intro r;induction r with
   | nil=>rfl
   | cons x r ih=>simp [S.moved,ih]
  simp only[S.moved,sets]
  rcases List.mem_cons.1 h with e | h
  ·simp at e;obtain⟨rfl,rfl⟩:=e
   rw[zty (by rw[hkeys];exact h1),List.getElem?_set_self (hl (k,q) (by simp)),ho]
  ·exact zwq ho h2 (fun x hx=>by simpa using hl x (by simp [hx])) h
theorem All2.keep {α β:Type} {R:α→β→Prop} {z:β} (hz:∀ a,R a z) : ∀ (bs:List Bool) {l:List α} {r:List β},All2 R l r→All2 R l (zai z bs r)
 | [],[],[],_=>trivial
 | [],_::_,_::_,h=>⟨hz _,All2.keep hz [] h.2⟩
 | _::_,[],[],_=>trivial
 | b::bs,_::_,_::_,h=>⟨by cases b;exact hz _;exact h.1,All2.keep hz bs h.2⟩
theorem z10m {α:Type} {z:α} : ∀ (bs:List Bool) (l:List α) (k:Nat) (x:α),(zai z bs l)[k]? = some x→(l[k]? = some x∧bs[k]? = some true)∨x=z
 | _,[],k,x,h=>by simp [zai] at h
 | [],y::l,0,x,h=>by simp [zai] at h;exact .inr h.symm
 | [],y::l,k+1,x,h=>by
  simp only[zai,List.getElem?_cons_succ] at h
  rcases z10m [] l k x h with ⟨_,h2⟩ | h
  ·simp at h2
  ·exact .inr h
 | b::bs,y::l,0,x,h=>by
  cases b
  ·simp [zai] at h;exact .inr h.symm
  ·simp [zai] at h;exact .inl ⟨by simp [h],rfl⟩
 | b::bs,y::l,k+1,x,h=>by
  simp only[zai,List.getElem?_cons_succ] at h ⊢
  exact z10m bs l k x h
theorem z1b8 {α:Type} {z:α} : ∀ (bs:List Bool) (l:List α) (k:Nat) (x:α),l[k]? = some x→bs[k]? = some true→(zai z bs l)[k]? = some x
 | [],_,_,_,_,h=>by simp at h
 | _::_,[],_,_,h,_=>by simp at h
 | b::bs,y::l,0,x,h,hb=>by simp at hb h;subst hb h;rfl
 | b::bs,y::l,k+1,x,h,hb=>by
  simp only[zai,List.getElem?_cons_succ] at h hb ⊢
  exact z1b8 bs l k x h hb
theorem Sim.ren (h:Sim P E fr g s a w) {mp:List (Nat×Nat)} (ts bs:List Bool) (hu1:z4a (mp.map (·.1))=true) (hu2:z4a (mp.map (·.2))=true) (hlt:∀ x∈mp,x.2<s.ob.length) : ∃ g',Sim P E fr g' (s.ren mp ts bs) a w:=by
  let g' : G := { β := g.β, lb := fun k => g.lb k ∧ bs[k]? = some true,
                  ω:=fun b i=>match g.ω b i with | some (.obj k)=>(look k mp).map Own.obj | x=>x,
                  tk:=fun q=>match back q mp with | some k=>g.tk k | none=>g.tk q }
  have hlt':∀ x∈mp,x.2<(List.replicate s.ob.length (none:Option (Ob U))).length:=fun x hx=>by simpa using hlt x hx
  have hst:∀ b i,g.St b i→g'.St b i:=fun b i hs=>by show (match g.ω b i with | some (.obj k)=>_ | x=>x)=_;rw[show g.ω b i=some .st from hs]
  have hobj:∀ b i k q,(k,q)∈mp→g.ω b i=some (.obj k)→g'.ω b i=some (.obj q):=fun b i k q hm he=>by
    show (match g.ω b i with | some (.obj k)=>_ | x=>x)=_;rw[he];simp only[z15d hu1 hm];rfl
  have htk:∀ k q,(k,q)∈mp→g'.tk q=g.tk k:=fun k q hm=>by show (match back q mp with | some k=>_ | none=>_)=_;rw[z15e hu2 hm]
  have hk:Keeps g.St w g'.St w:=fun b i hs=>⟨hst b i hs,rfl⟩
  have hc:∀ v c,CRel P E g s.ob w v c→CRel P E g' (s.ren mp ts bs).ob w v (c.ren s mp bs):=by
    intro v c hv
    cases c with
    | s x=>exact hv
    | sl τ xs f=>exact⟨hv.1.mono hk,hv.2⟩
    | ob k ver =>
      simp only[C.ren]
      split
      · rename_i q o hl ho
        obtain⟨h1,h2⟩:=z7c ho
        obtain⟨i1,o',i2,i3,i4⟩:=hv
        rw[h1] at i2;simp at i2;subst i2
        have hm:=z1j8 hl
        exact⟨i1,_,zwq h1 hu2 hlt' hm,Nat.le_refl _,fun _=>by rw[htk k q hm];exact i4 h2.symm⟩
      · exact hv.1
    | bx k off =>
      simp only[C.ren]
      split
      · rename_i hb;exact⟨⟨hv.1,hb⟩,hv.2⟩
      · rw[hv.2];rfl
    | el τ xs i off=>obtain⟨h1,b,o,cap,h2,h3⟩:=hv;exact⟨h1,b,o,cap,h2,h3.mono hk⟩
    | em k ver i off =>
      simp only[C.ren]
      split
      · rename_i q o hl ho
        obtain⟨h1,h2⟩:=z7c ho
        obtain⟨i1,o',i2,i3,i4⟩:=hv
        rw[h1] at i2;simp at i2;subst i2
        have hm:=z1j8 hl
        obtain⟨j1,b,off',j2,j3⟩:=i4 h2.symm
        exact⟨i1,_,zwq h1 hu2 hlt' hm,Nat.le_refl _,fun _=>⟨j1,b,off',by rw[htk k q hm];exact j2,j3⟩⟩
      · exact hv.1
    | fv φ=>exact FunRel.mono hk hv
    | fc f caps =>
      simp only[C.ren]
      split
      · rename_i hall
        refine⟨hv.1,fun k hk'=>⟨hv.2 k hk',?_⟩⟩
        have:=List.all_eq_true.1 hall k hk'
        rw[List.getD_eq_getElem?_getD] at this
        cases hb : bs[k]? with
        | none=>rw[hb] at this;simp at this
        | some x=>rw[hb] at this;simp at this;rw[this]
      · rw[hv.1];rfl
    | top=>exact hv
  have hcs:∀ {us:List Value} {cs:List (C U)},All2 (CRel P E g s.ob w) us cs→All2 (CRel P E g' (s.ren mp ts bs).ob w) us (cs.map (C.ren s mp bs)):=fun hh=>All2.map_right (C.ren s mp bs) (fun x y hxy=>hc x y hxy) hh
  have ha:∀ v x,ARel P E g s.ob w v x→ARel P E g' (s.ren mp ts bs).ob w v (x.ren s mp bs):=by
    intro v x hv
    cases x with
    | c y=>exact hc v y hv
    | agg cs=>obtain⟨arr,e,h2⟩:=hv;exact⟨arr,e,hcs h2⟩
    | top=>trivial
  have hav:∀ v x,AVRel P E g s.ob w v x→AVRel P E g' (s.ren mp ts bs).ob w v (x.ren s mp bs):=by
    intro v x hv
    cases x with
    | one y=>exact ha v y hv
    | tup al=>obtain⟨arr,e,h2⟩:=hv;exact⟨arr,e,All2.map_right (A.ren s mp bs) (fun x y hxy=>ha x y hxy) h2⟩
    | undef=>exact hv
  refine⟨g',{ ext:=h.ext,tms:=?_,bxs:=?_,lbs:=?_,obs:=?_,own:=?_,dfr:=h.dfr,fix:=fun k hk hl=>h.fix k hk hl.1,bas:=h.bas }⟩
  · exact All2.map_right (AV.ren s mp bs) (fun x y hxy=>hav x y hxy) (All2.keep (fun _=>trivial) ts h.tms)
  · intro k fz cells hk'
    have hk2:((zai none bs s.bx).map (Option.map fun x=>(x.1,x.2.map (C.ren s mp bs))))[k]? = some (some (fz,cells)):=hk'
    rw[List.getElem?_map] at hk2
    cases hb : (zai none bs s.bx)[k]? with
    | none=>rw[hb] at hk2;simp at hk2
    | some x =>
      cases x with
      | none=>rw[hb] at hk2;simp at hk2
      | some x =>
        obtain⟨fz0,c0⟩:=x
        rw[hb] at hk2;simp at hk2;obtain⟨rfl,rfl⟩:=hk2
        rcases z10m bs s.bx k _ hb with ⟨h1,h2⟩ | h1
        · obtain⟨hl,vs,i1,i2⟩:=h.bxs k fz0 c0 h1
          refine⟨⟨hl,h2⟩,vs,hcs i1,fun i v hv=>?_⟩
          obtain⟨j1,j2,j3⟩:=i2 i v hv
          refine⟨j1,fun hz=>⟨(j2 hz).1,?_⟩,fun hz=>hst _ _ (j3 hz)⟩
          show (match g.ω (g.β k) i with | some (.obj k)=>_ | x=>x)=_
          rw[(j2 hz).2]
        · simp at h1
  · intro k hl
    obtain⟨c,hc'⟩:=h.lbs k hl.1
    obtain⟨fz,cells⟩:=c
    refine⟨(fz,cells.map (C.ren s mp bs)),?_⟩
    show ((zai none bs s.bx).map _)[k]? = _
    rw[List.getElem?_map,z1b8 bs s.bx k _ hc' hl.2];rfl
  · intro q o hq
    obtain⟨k,o0,hm,ho,rfl⟩:=z1j9 (mp:=mp) hu2 hlt' (fun o' ho'=>by rw[List.getElem?_replicate] at ho';split at ho'<;>simp at ho') hq
    obtain⟨⟨h1,h1'⟩,h2⟩:=h.obs k o0 ho
    refine⟨⟨by rw[htk k q hm];exact h1,h1'⟩,fun hcap=>?_⟩
    rw[htk k q hm] at hcap ⊢
    obtain⟨b,off,cv,e,hA⟩:=h2 hcap
    refine⟨b,off,cv,e,⟨fun i j hi hj=>?_,fun i hi j d hd=>(hA.rel i hi j d hd).mono hk,fun hl x hx hx'=>?_⟩⟩
    · obtain⟨c1,c2⟩:=hA.cell i j hi hj
      refine⟨c1,?_⟩
      unfold Mode at c2 ⊢
      show match o0.fr with | none=>_ | some f=>_
      split at c2
      · rename_i hf;simp only[hf];exact hst _ _ c2
      · rename_i f hf
        simp only[hf]
        exact⟨fun hh=>hst _ _ (c2.1 hh),fun hh=>⟨hobj _ _ _ _ hm (c2.2 hh).1,(c2.2 hh).2⟩⟩
    · obtain⟨d1,d2,d3⟩:=hA.spare hl x hx hx'
      exact⟨hobj _ _ _ _ hm d1,d2,d3⟩
  · intro b i x hx
    have hx':(match g.ω b i with | some (.obj k)=>(look k mp).map Own.obj | x=>x)=some x:=hx
    cases hw : g.ω b i with
    | none=>rw[hw] at hx';simp at hx'
    | some y =>
      rw[hw] at hx'
      cases y with
      | st=>simp at hx';subst hx';exact h.own b i _ hw
      | box k=>simp at hx';subst hx';exact h.own b i _ hw
      | obj k =>
        refine⟨(h.own b i _ hw).1,?_⟩
        rcases (h.own b i _ hw).2 with h1 | h1 | ⟨h1,_⟩
        · exact .inl h1
        · exact .inr (.inl h1)
        · simp at h1
theorem Sim.objNils : ∀ {nm:List (Pos×Nat)} {g:G} {s s':S U},s.objNils nm=some s'→Sim P E fr g s a w→∃ g',Sim P E fr g' s' a w
 | [],g,s,s',hn,h=>by simp [S.objNils] at hn;subst hn;exact⟨g,h⟩
 | (p,q)::r,g,s,s',hn,h=>by
  simp only[S.objNils] at hn
  split at hn
  ·rename_i s1 h1
   obtain⟨g1,hs1⟩:=h.objNil h1
   exact Sim.objNils hn hs1
  ·simp at hn
theorem z1oa {g:G} {ob:List (Option (Ob U))} {v:Value} {c:C U} (h:CRel P E g ob w v c) : CRel P E g ob w v c.weak:=by
 cases c with
 | sl τ xs f=>exact⟨h.1,by simp⟩
 | _=>exact h
theorem Sim.weakB : ∀ (l:List Nat) {s:S U},Sim P E fr g s a w→Sim P E fr g (S.weakB l s) a w
 | [],s,h=>h
 | k::r,s,h=>by
  refine Sim.weakB r ?_
  refine { ext:=h.ext,tms:=h.tms,bxs:=?_,lbs:=?_,obs:=h.obs,own:=h.own,dfr:=h.dfr,fix:=h.fix,bas:=h.bas }
  ·intro q fz cells hq
   have hq':(s.bx.modify k (Option.map fun x=>(x.1,x.2.map C.weak)))[q]? = some (some (fz,cells)):=hq
   rw[List.getElem?_modify] at hq'
   by_cases e : k=q
   ·subst e
    cases hb : s.bx[k]? with
    | none=>rw[hb] at hq';simp at hq'
    | some x =>
     cases x with
     | none=>rw[hb] at hq';simp at hq'
     | some x =>
      obtain⟨f0,c0⟩:=x
      rw[hb] at hq';simp at hq';obtain⟨rfl,rfl⟩:=hq'
      obtain⟨hl,vs,h1,h2⟩:=h.bxs k f0 c0 hb
      exact⟨hl,vs,All2.map_right C.weak (fun _ _ hh=>z1oa hh) h1,h2⟩
   ·have : s.bx[q]? = some (some (fz,cells)):=by simpa [e] using hq'
    exact h.bxs q fz cells this
  ·intro q hl
   obtain⟨c,hc⟩:=h.lbs q hl
   show ∃ c,(s.bx.modify k _)[q]? = some (some c)
   rw[List.getElem?_modify,hc]
   by_cases e : k=q
   ·simp [e]
   ·simp [e]
theorem Sim.weakS : ∀ (l:List Nat) {s:S U},Sim P E fr g s a w→Sim P E fr g (S.weakS l s) a w
 | [],s,h=>h
 | d::r,s,h=>by
  refine Sim.weakS r { h with tms:=?_ }
  show All2 _ a.tmps.toList (s.tm.modify d AV.weak)
  refine All2.of_get (by rw[h.tms.length];simp) fun i v x hv hx=>?_
  rw[List.getElem?_modify] at hx
  cases hi : s.tm[i]? with
  | none=>rw[hi] at hx;simp at hx
  | some y =>
   obtain⟨v',hv',hr⟩:=h.tms.get i hi
   rw[hv] at hv';simp at hv';subst hv'
   rw[hi] at hx
   by_cases e : d=i
   ·simp [e] at hx;subst hx
    cases y with
    | one z =>
     cases z with
     | c c=>exact z1oa hr
     | _=>exact hr
    | _=>exact hr
   ·simp [e] at hx;subst hx;exact hr
theorem Sim.frzB1 (h:Sim P E fr g s a w) {k:Nat} {fz:Bool} {cells:List (C U)} {vs:List (V U)} (hk:s.bx[k]? = some (some (fz,cells))) (hv:s.toVs cells=some vs) :
  ∃ g',Sim P E fr g' { s with bx:=s.bx.set k (some (fz,vs.map C.ofV)),ob:=sets s.ob (s.frz (Cs.obs cells)) } a w:=by
 obtain⟨g1,hs1,hg1,hf1,hfz⟩:=Sim.frzs (Cs.obs cells) (s0:=s) rfl h (FrzLe.refl _)
 refine⟨g1,{ ext:=hs1.ext,tms:=hs1.tms,bxs:=?_,lbs:=?_,obs:=hs1.obs,own:=hs1.own,dfr:=hs1.dfr,fix:=hs1.fix,bas:=hs1.bas }⟩
 ·intro q fz' cells' hq
  have hq':(s.bx.set k (some (fz,vs.map C.ofV)))[q]? = some (some (fz',cells')):=hq
  by_cases e : q=k
  ·subst e
   rw[List.getElem?_set_self (List.getElem?_eq_some_iff.1 hk).1] at hq'
   simp at hq';obtain⟨rfl,rfl⟩:=hq'
   obtain⟨hl,us,h1,h2⟩:=hs1.bxs q fz cells hk
   have hvr:=hs1.frozenVs (s0:=s) hf1 (fun q' hq'=>hfz q' (.inl hq')) hv h1
   exact⟨hl,us,All2.map_right C.ofV (fun _ _ hh=>zlp rfl hh) hvr,h2⟩
  ·rw[List.getElem?_set_ne (Ne.symm e)] at hq'
   exact hs1.bxs q fz' cells' hq'
 ·intro q hl
  obtain⟨c,hc⟩:=hs1.lbs q hl
  show ∃ c,(s.bx.set k (some (fz,vs.map C.ofV)))[q]? = some (some c)
  by_cases e : q=k
  ·subst e;exact⟨_,List.getElem?_set_self (List.getElem?_eq_some_iff.1 hk).1⟩
  ·rw[List.getElem?_set_ne (Ne.symm e)];exact⟨c,hc⟩
theorem Sim.frzB : ∀ (l:List Nat) {g:G} {s:S U},Sim P E fr g s a w→∃ g',Sim P E fr g' (S.frzB l s) a w
 | [],g,s,h=>⟨g,h⟩
 | k::r,g,s,h=>by
  simp only[S.frzB]
  split
  ·rename_i fz cells hk
   split
   ·rename_i vs hv
    obtain⟨g1,h1⟩:=h.frzB1 hk hv
    exact Sim.frzB r h1
   ·exact Sim.frzB r h
  ·exact Sim.frzB r h
theorem Sim.norm (h:Sim P E fr g s a w) {n:NS} {s':S U} (hn:s.norm n=some s') : ∃ g',Sim P E fr g' s' a w:=by
 unfold S.norm at hn
 obtain⟨g0,hs0⟩:=h.frzB n.gb
 split at hn
 ·rename_i s1 h1
  obtain⟨g1,hs1⟩:=Sim.objNils h1 hs0
  split at hn
  ·rename_i mp hmp
   split at hn
   ·rename_i hc
    simp at hn;subst hn
    simp only[Bool.and_eq_true,List.all_eq_true] at hc
    obtain⟨g2,hs2⟩:=hs1.ren n.ts n.bs hc.1.1 hc.1.2 (fun x hx=>by have:=hc.2 x hx;simp [Nat.blt] at this;omega)
    exact⟨g2,(hs2.weakB n.gb).weakS n.gs⟩
   ·simp at hn
  ·simp at hn
 ·simp at hn
end Go.Proofs.YtjfpbchdcbhfgaaGreat.B
namespace Go.Proofs.YtjfpbchdcbhfgaaGreat.B
open Go Go.RowKit
variable {U:Uni} {P:Program} {M:Mc U} {fr:Fr}
def Post (P:Program) (M:Mc U) (fr:Fr) (Q:Exit→S U→Prop) (R:Exit→Act→World→Prop) : Prop :=
 ∀ e s g a w,Q e s→Sim P M.E fr g s a w→R e a w
theorem z20r {ops:Array Oper} {l:List (Oper×Fp)} (hl:l.map (·.1)=ops.toList) : ∀ (i:Nat) (x:Oper×Fp),l[i]? = some x→ops[i]? = some x.1∧(l.map (·.2))[i]? = some x.2:=by
 intro i x hx
 refine⟨?_,by rw[List.getElem?_map,hx];rfl⟩
 rw[← Array.getElem?_toList,← hl,List.getElem?_map,hx];rfl
theorem z1v5 {ops:Array Oper} {l:List (Oper×Fp)} (hl:l.map (·.1)=ops.toList) : Left ops (l.map (·.2)) (Array.replicate ops.size false) (l.zipIdx.map fun x=>(x.2,x.1)):=by
 have hlen:l.length=ops.size:=by rw[← Array.length_toList,← hl];simp
 refine⟨by simp,?_,?_,?_,?_⟩
 ·rw[List.pairwise_map]
  have : (l.zipIdx).Pairwise (fun x y=>x.2<y.2):=by
   rw[List.pairwise_iff_getElem]
   intro i j hi hj hij
   simp;exact hij
  exact this
 ·intro x hx
  obtain⟨y,hy,rfl⟩:=List.mem_map.1 hx
  obtain⟨i,hi⟩:=List.getElem?_of_mem hy
  rw[List.getElem?_zipIdx] at hi
  cases hli : l[i]? with
  | none=>rw[hli] at hi;simp at hi
  | some z =>
   rw[hli] at hi;simp at hi;subst hi
   exact z20r hl i z hli
 ·intro i hi
  have h1:(Array.replicate ops.size false).getD i true=false:=by
   rw[Array.getD_eq_getD_getElem?,Array.getElem?_replicate,if_pos hi];rfl
  rw[h1]
  simp only[true_iff]
  have hil:i<l.length:=by omega
  refine⟨(i,l[i]),List.mem_map.2 ⟨(l[i],i),?_,rfl⟩,rfl⟩
  refine List.mem_of_getElem? (i:=i) ?_
  rw[List.getElem?_zipIdx,List.getElem?_eq_getElem hil];simp
 ·intro k hk
  rw[Array.getD_eq_getD_getElem?,Array.getElem?_replicate] at hk
  split at hk<;>simp at hk
theorem Sim.drawn {g:G} {s:S U} {a:Act} {w:World} (h:Sim P M.E fr g s a w) : Sim P M.E fr g s a { w with drawn:=w.drawn+1 } :=
 h.later ((Ext.refl w).drew)
theorem z1xu (hT:TabOK P M) (hF:FnsOK P M) (hm:P.follows .mixedOrders=true) {id:Nat} {ops:Array Oper} {drawn:Bool} {R:Exit→Act→World→Prop} {K:S U→Prop} {g:G} {s:S U} {a:Act} {w:World} (h:Sim P M.E fr g s a w) (hw:z104 M ops drawn s K)
  (hK:∀ s' g' a' w',K s'→Sim P M.E fr g' s' a' w'→R .normal a' w') : (Code.region id ops drawn).wp P R a w:=by
 unfold z104 at hw
 obtain⟨l,s',hl,hr,hk⟩:=zwn _ _ _ _ hw
 cases drawn with
 | false =>
  dsimp only at hk
  refine wp_region ?_
  have hlen:l.length=ops.size:=by rw[← Array.length_toList,← hl];simp
  rw[List.range_eq_range',← hlen]
  exact z1j4 hT hF (fun g' a' w' h'=>hK s' g' a' w' hk h') l 0 (fun j=>by rw[hl];simp) h hr
 | true =>
  dsimp only at hk
  rw[List.append_nil,List.reverse_reverse] at hk
  unfold iff' at hk
  split at hk
  ·rename_i hb
   simp only[Bool.and_eq_true] at hb
   refine wp_region_any hm ?_
   have hlen:l.length=ops.size:=by rw[← Array.length_toList,← hl];simp
   refine z1j7 hT hF (fun g' a' w' h'=>hK s' g' a' w' hk h') hb.1 (fun i j fi fj hij h1 h2 hc=>?_) ops.size _ (l.zipIdx.map fun x=>(x.2,x.1)) (by simp [hlen]) (z1v5 hl) h.drawn ?_
   ·exact zy4 (l.map (·.2)) [] 0 rfl hb.2 i j fi fj hij (Nat.zero_le _) (by simpa using h1) (by simpa using h2) hc
   ·have : (l.zipIdx.map fun x=>(x.2,x.1)).map (·.2)=l:=by
     rw[List.map_map]
     apply List.ext_getElem?
     intro i
     rw[List.getElem?_map,List.getElem?_zipIdx]
     cases l[i]?<;>rfl
    rw[this];exact hr
  ·exact hk.elim
theorem S.onX_eq {U:Uni} {M:Mc U} {s:S U} {f:Bool} {c:Operand} {v:Bool} (h:s.ev M c=some (.one (.c (.s (.bool v))))) : s.onX f c v=s:=by
 unfold S.onX
 split
 ·rename_i t
  obtain⟨hl,h⟩:=List.getElem?_eq_some_iff.1 (show s.tm[t]? = some _ from h)
  rw[← h,List.set_getElem_self]
 ·rfl
theorem zc2 (hT:TabOK P M) (hF:FnsOK P M) (hm:P.follows .mixedOrders=true) (N:Nat→NS) : ∀ (c:Code) {Q:Exit→S U→Prop} {R:Exit→Act→World→Prop} {g:G} {s:S U} {a:Act} {w:World},Post P M fr Q R→Sim P M.E fr g s a w→awp M N c s Q→c.wp P R a w
 | .skip,Q,R,g,s,a,w,hQ,h,hw=>wp_skip (hQ _ _ _ _ _ hw h)
 | .region id ops drawn,Q,R,g,s,a,w,hQ,h,hw=>z1xu hT hF hm h hw fun s' g' a' w' hk h'=>hQ _ _ _ _ _ hk h'
 | .seq x y,Q,R,g,s,a,w,hQ,h,hw=>by
  refine wp_seq ?_
  refine zc2 hT hF hm N x (Q:=z1uu (fun s'=>awp M N y s' Q) Q) ?_ h hw
  intro e s1 g1 a1 w1 hq h1
  cases e with
  | normal=>exact zc2 hT hF hm N y hQ h1 hq
  | exit id=>exact hQ _ _ _ _ _ hq h1
  | goto l=>exact hQ _ _ _ _ _ hq h1
  | ret=>exact hQ _ _ _ _ _ hq h1
  | panic ch=>exact hQ _ _ _ _ _ hq h1
  | outgrown=>exact hQ _ _ _ _ _ hq h1
 | .cond c x y,Q,R,g,s,a,w,hQ,h,hw=>by
  simp only[awp] at hw
  split at hw
  ·rename_i b hc
   have hcv:a.eval c=.bool b:=(h.ev hF hc).1
   cases b with
   | true=>exact wp_cond_true hcv (zc2 hT hF hm N x hQ h (by rw[← S.onX_eq hc (f:=(N 0).cs)];exact hw))
   | false=>exact wp_cond_false hcv (zc2 hT hF hm N y hQ h (by rw[← S.onX_eq hc (f:=(N 0).cs)];exact hw))
  ·exact hw.elim
 | .block id c,Q,R,g,s,a,w,hQ,h,hw=>by
  refine wp_block ?_
  refine zc2 hT hF hm N c (Q:=z105 id Q) ?_ h hw
  intro e s1 g1 a1 w1 hq h1
  cases e with
  | exit id' =>
   simp only[z105] at hq
   simp only[Exit.inBlock]
   split at hq
   ·rename_i e;rw[if_pos e];exact hQ _ _ _ _ _ hq h1
   ·rename_i e;rw[if_neg e];exact hQ _ _ _ _ _ hq h1
  | normal=>exact hQ _ _ _ _ _ hq h1
  | goto l=>exact hQ _ _ _ _ _ hq h1
  | ret=>exact hQ _ _ _ _ _ hq h1
  | panic ch=>exact hQ _ _ _ _ _ hq h1
  | outgrown=>exact hQ _ _ _ _ _ hq h1
 | .loop c,Q,R,g,s,a,w,hQ,h,hw=>by
  have nrm:∀ {K:S U→Prop} {g:G} {s:S U} {a:Act} {w:World},Sim P M.E fr g s a w→zn9 (N (lid c)) K s→∃ g' s',Sim P M.E fr g' s' a w∧K s':=by
   intro K g s a w h hk
   unfold zn9 at hk
   split at hk
   ·rename_i s1 hn
    obtain⟨g1,hs1⟩:=h.norm hn
    exact⟨g1,s1,hs1,hk⟩
   ·exact hk.elim
  have hw':zn9 (N (lid c)) (z12 (N (lid c)) (awp M N c) Q) s:=hw
  obtain⟨g0,s0,hs0,k,hk⟩:=nrm h hw'
  refine wp_loop_rounds k ?_
  have key:∀ (k:Nat) {g:G} {s:S U} {a:Act} {w:World},Sim P M.E fr g s a w→z1o (N (lid c)) (awp M N c) Q k s→Code.rounds P c R k a w:=by
   intro k
   induction k with
   | zero=>intro g s a w _ hk;exact hk.elim
   | succ k ih =>
    intro g s a w h hk
    simp only[z1o] at hk
    rw[rounds_succ]
    refine zc2 hT hF hm N c (Q:=z1nn (N (lid c)) (z1o (N (lid c)) (awp M N c) Q k) Q) ?_ h hk
    intro e s2 g2 a2 w2 hq h2
    cases e with
    | normal=>obtain⟨g3,s3,h3,hq3⟩:=nrm h2 hq;exact ih h3 hq3
    | exit id=>obtain⟨g3,s3,h3,hq3⟩:=nrm h2 hq;exact hQ _ _ _ _ _ hq3 h3
    | goto l=>obtain⟨g3,s3,h3,hq3⟩:=nrm h2 hq;exact hQ _ _ _ _ _ hq3 h3
    | ret=>obtain⟨g3,s3,h3,hq3⟩:=nrm h2 hq;exact hQ _ _ _ _ _ hq3 h3
    | panic ch=>obtain⟨g3,s3,h3,hq3⟩:=nrm h2 hq;exact hQ _ _ _ _ _ hq3 h3
    | outgrown=>obtain⟨g3,s3,h3,hq3⟩:=nrm h2 hq;exact hQ _ _ _ _ _ hq3 h3
  exact key k hs0 hk
 | .exit id,Q,R,g,s,a,w,hQ,h,hw=>wp_exit (hQ _ _ _ _ _ hw h)
 | .ret,Q,R,g,s,a,w,hQ,h,hw=>wp_ret (hQ _ _ _ _ _ hw h)
 | .scope c,Q,R,g,s,a,w,hQ,h,hw=>by simp [awp] at hw
 | .label l,Q,R,g,s,a,w,hQ,h,hw=>by simp [awp] at hw
 | .goto l,Q,R,g,s,a,w,hQ,h,hw=>by simp [awp] at hw
 | .refuse m,Q,R,g,s,a,w,hQ,h,hw=>by simp [awp] at hw
end Go.Proofs.YtjfpbchdcbhfgaaGreat.B
