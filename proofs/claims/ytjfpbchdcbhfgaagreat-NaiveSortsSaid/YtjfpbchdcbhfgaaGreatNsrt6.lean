/- Part 6 of the proof: BView. -/
import Derived.Test.YtjfpbchdcbhfgaaGreatNsrt5
namespace Go.Proofs.YtjfpbchdcbhfgaaGreat.B
open Go Go.RowKit
variable {U:Uni} {M:Mc U} {s s':S U} {o:Oper}
theorem z71 {k v:Nat} (h:s'.ob[k]? = s.ob[k]?) : s'.obAt k v=s.obAt k v:=by unfold S.obAt;rw[h]
theorem zls {k:Nat} (h:s'.ob[k]? = s.ob[k]?) : s'.nver k=s.nver k:=by unfold S.nver;rw[h]
theorem z18h {c:C U} (h:∀ k∈c.obs,s'.ob[k]? = s.ob[k]?) : s'.lst c=s.lst c:=by
 cases c with
 | ob k v=>simp only[S.lst,z71 (h k (by simp [C.obs]))]
 | _=>rfl
theorem zok {c:C U} (h:∀ k∈c.obs,s'.ob[k]? = s.ob[k]?) : s'.toV c=s.toV c:=by
 cases c with
 | ob k v=>simp only[S.toV,z71 (h k (by simp [C.obs]))]
 | _=>rfl
theorem zc0 : ∀ {cs:List (C U)},(∀ k∈Cs.obs cs,s'.ob[k]? = s.ob[k]?)→s'.toVs cs=s.toVs cs
 | [],_=>rfl
 | c::cs,h=>by simp only[S.toVs,zok (c:=c) (fun k hk=>h k (by simp [Cs.obs,hk])),zc0 (cs:=cs) (fun k hk=>h k (by simp [Cs.obs,hk]))]
theorem z1xn {c:C U} (h:∀ k∈c.obs,s'.ob[k]? = s.ob[k]?) : s'.toDC c=s.toDC c:=by
 have:=zok (s:=s) (s':=s') h
 cases c<;>simp only[S.toDC,this]
theorem z1b0 : ∀ {cs:List (C U)},(∀ k∈Cs.obs cs,s'.ob[k]? = s.ob[k]?)→s'.toDCs cs=s.toDCs cs
 | [],_=>rfl
 | c::cs,h=>by simp only[S.toDCs,z1xn (c:=c) (fun k hk=>h k (by simp [Cs.obs,hk])),z1b0 (cs:=cs) (fun k hk=>h k (by simp [Cs.obs,hk]))]
theorem z20m {x:A U} (h:∀ k∈x.obs,s'.ob[k]? = s.ob[k]?) : s'.toD x=s.toD x:=by
 cases x with
 | c y =>
  have:=zok (s:=s) (s':=s') (c:=y) h
  cases y<;>simp only[S.toD,this]
 | agg cs=>simp only[S.toD,zc0 (cs:=cs) h]
 | top=>rfl
theorem z10e : ∀ {al:List (A U)},(∀ k∈As.obs al,s'.ob[k]? = s.ob[k]?)→s'.toDs al=s.toDs al
 | [],_=>rfl
 | c::cs,h=>by simp only[S.toDs,z20m (x:=c) (fun k hk=>h k (by simp [As.obs,hk])),z10e (al:=cs) (fun k hk=>h k (by simp [As.obs,hk]))]
theorem z1xo {x:A U} (h:∀ k∈x.obs,s'.ob[k]? = s.ob[k]?) : s'.toD0 x=s.toD0 x:=by
 cases x with
 | c y=>simp only[S.toD0,zok (s:=s) (s':=s') (c:=y) h]
 | agg cs=>simp only[S.toD0,zc0 (cs:=cs) h]
 | top=>rfl
theorem z1b1 : ∀ {al:List (A U)},(∀ k∈As.obs al,s'.ob[k]? = s.ob[k]?)→s'.toD0s al=s.toD0s al
 | [],_=>rfl
 | c::cs,h=>by simp only[S.toD0s,z1xo (x:=c) (fun k hk=>h k (by simp [As.obs,hk])),z1b1 (al:=cs) (fun k hk=>h k (by simp [As.obs,hk]))]
theorem zb0 : ∀ {ks:List Nat},(∀ k∈ks,s'.ob[k]? = s.ob[k]?)→s'.frz ks=s.frz ks
 | [],_=>rfl
 | k::ks,h=>by simp only[S.frz,h k (by simp),zb0 (ks:=ks) (fun q hq=>h q (by simp [hq]))]
theorem z10f : ∀ {os:List (Ob U)} {q:Nat},(∀ j,j<os.length→s'.ob[q+j]? = s.ob[q+j]?)→s'.vers q os=s.vers q os
 | [],_,_=>rfl
 | o::os,q,h=>by
  have h0:=h 0 (by simp)
  rw[Nat.add_zero] at h0
  simp only[S.vers,zls h0,z10f (os:=os) (q:=q+1) (fun j hj=>by have:=h (j+1) (by simpa using hj);rw[show q+1+j=q+(j+1) from by omega];exact this)]
structure Agree (M:Mc U) (s s':S U) (o:Oper) : Prop where
 base : s'.base=s.base
 tm : ∀ t∈z1ft o.op,s'.tm[t]? = s.tm[t]?
 bx : ∀ k∈s.readB o,s'.bx[k]? = s.bx[k]?
 ob : ∀ k∈s.readO M o,s'.ob[k]? = s.ob[k]?
theorem Agree.ev (h:Agree M s s' o) {x:Operand} (hx:x∈o.op.operands.toList) : s'.ev M x=s.ev M x:=by
 cases x with
 | tmp t=>exact h.tm t (List.mem_filterMap.2 ⟨_,hx,rfl⟩)
 | _=>rfl
theorem Agree.evT (h:Agree M s s' o) {t:TypeId} {x:Operand} (hx:x∈o.op.operands.toList) : s'.evT M t x=s.evT M t x:=by
 unfold S.evT;rw[h.ev hx]
theorem Agree.key (h:Agree M s s' o) (d:Nat) : s'.key d=s.key d:=by unfold S.key;rw[h.base]
theorem Agree.okey (h:Agree M s s' o) (d:Nat) : s'.okey d=s.okey d:=by unfold S.okey;rw[h.base]
theorem Agree.args (h:Agree M s s' o) : ∀ {xs:List Operand} {ts:List TypeId},(∀ x∈xs,x∈o.op.operands.toList)→z4l M s' xs ts=z4l M s xs ts
 | [],_,_=>rfl
 | x::xs,ts,hx=>by simp only[z4l,h.evT (hx x (by simp)),h.args (xs:=xs) (fun y hy=>hx y (by simp [hy]))]
theorem Agree.parts (h:Agree M s s' o) : ∀ {ps:List (Nat×Operand)},(∀ x∈ps,x.2∈o.op.operands.toList)→zlj M s' ps=zlj M s ps
 | [],_=>rfl
 | (i,x)::ps,hx=>by simp only[zlj,h.ev (hx (i,x) (by simp)),h.parts (ps:=ps) (fun y hy=>hx y (by simp [hy]))]
theorem Agree.partsK (h:Agree M s s' o) {e:TypeId} : ∀ {ps:List (Nat×Operand)},(∀ x∈ps,x.2∈o.op.operands.toList)→partsK M s' e ps=partsK M s e ps
 | [],_=>rfl
 | (i,x)::ps,hx=>by
  have : z13y M s' e x=z13y M s e x:=by
   unfold z13y;split
   ·rfl
   ·rw[h.evT (hx (i,x) (by simp))]
  simp only[B.partsK,this,h.partsK (ps:=ps) (fun y hy=>hx y (by simp [hy]))]
theorem meets_true : ∀ {l r:List Nat},z7h l r=true↔∃ k,k∈l∧k∈r
 | [],r=>by simp [z7h]
 | x::l,r=>by
  simp only[z7h,Bool.or_eq_true,meets_true (l:=l),List.any_eq_true]
  constructor
  ·rintro (⟨y,h1,h2⟩ | ⟨k,h1,h2⟩)
   ·exact⟨x,by simp,by rw[Nat.eq_of_beq_eq_true h2];exact h1⟩
   ·exact⟨k,by simp [h1],h2⟩
  ·rintro ⟨k,h1,h2⟩
   rcases List.mem_cons.1 h1 with rfl | h1
   ·exact .inl ⟨k,h2,Nat.beq_refl k⟩
   ·exact .inr ⟨k,h1,h2⟩
theorem obs_mem2 {k:Nat} : ∀ {cs:List (C U)},k∈Cs.obs cs↔∃ c∈cs,k∈c.obs
  | []=>by simp [Cs.obs]
  | c :: cs => by simp only [Cs.obs, List.mem_append, obs_mem2 (cs := cs), List.mem_cons]; constructor
                  · rintro (h | ⟨c',h1,h2⟩)
                    · exact⟨c,.inl rfl,h⟩
                    · exact⟨c',.inr h1,h2⟩
                  · rintro ⟨c',rfl | h1,h2⟩
                    · exact .inl h2
                    · exact .inr ⟨c',h1,h2⟩
theorem z20n {k i j:Nat} {cs:List (C U)} (h:k∈Cs.obs (cs.take i++cs.drop j)) : k∈Cs.obs cs:=by
 obtain⟨c,h1,h2⟩:=obs_mem2.1 h
 refine obs_mem2.2 ⟨c,?_,h2⟩
 rcases List.mem_append.1 h1 with h1 | h1
 ·exact List.mem_of_mem_take h1
 ·exact List.mem_of_mem_drop h1
theorem zsh {s:S U} {k q:Nat} {fz:Bool} {cells:List (C U)} (hb:s.bx[k]? = some (some (fz,cells))) (hq:q∈Cs.obs cells) : ∀ {ks:List Nat},k∈ks→q∈s.boxObs ks
 | [],h=>by simp at h
 | k'::ks,h=>by
  simp only[S.boxObs,List.mem_append]
  rcases List.mem_cons.1 h with rfl | h
  ·left;rw[hb];exact hq
  ·right;exact zsh hb hq h
theorem z1v1 {c:Value} {v:AV U} (h:evC c=some v) : ∃ x,v=.one (.c (.s x)):=by
 cases c<;>simp only[evC] at h<;>first
  | (simp at h;done)
  | (split at h<;>first | (simp at h;done) | (simp at h;exact⟨_,h.symm⟩))
  | (simp at h;exact⟨_,h.symm⟩)
theorem zlt {x:Operand} {v:AV U} (h:s.ev M x=some v) {k:Nat} (hk:k∈v.obs) : k∈s.obsX x:=by
 cases x with
 | tmp t =>
  have h':s.tm[t]? = some v:=h
  simp only[S.obsX,h'];exact hk
 | const c=>obtain⟨x,rfl⟩:=z1v1 h;simp [AV.obs,A.obs,C.obs] at hk
 | func f =>
  simp only[S.ev] at h
  split at h<;>(simp at h;subst h;simp [AV.obs,A.obs,C.obs] at hk)
 | global n=>simp [S.ev] at h
theorem zo4 {t:TypeId} {x:Operand} {v:AV U} (h:s.evT M t x=some v) {k:Nat} (hk:k∈v.obs) : k∈s.obsX x:=by
 unfold S.evT at h
 split at h
 ·split at h
  ·simp at h;subst h;simp [AV.obs,A.obs,C.obs] at hk
  ·simp at h
 ·exact zlt h hk
theorem zjq : ∀ {xs:List Operand} {ts:List TypeId} {al:List (A U)},z4l M s xs ts=some al→∀ k∈As.obs al,k∈s.obsXs xs
 | [],_,al,h,k,hk=>by simp [z4l] at h;subst h;simp [As.obs] at hk
 | x::xs,ts,al,h,k,hk=>by
  simp only[z4l] at h
  split at h
  ·rename_i a0 al0 h1 h2
   simp at h;subst h
   simp only[As.obs,List.mem_append] at hk
   simp only[S.obsXs,List.mem_append]
   rcases hk with hk | hk
   ·exact .inl (zo4 h1 hk)
   ·exact .inr (zjq h2 k hk)
  ·simp at h
theorem z10g {v:AV U} {cs:List (C U)} (h:v.cells=some cs) {k:Nat} (hk:k∈Cs.obs cs) : k∈v.obs:=by
 cases v with
 | one a =>
  cases a with
  | c x=>simp [AV.cells] at h;subst h;simpa [Cs.obs,AV.obs,A.obs] using hk
  | agg zs=>simp [AV.cells] at h;subst h;exact hk
  | top=>simp [AV.cells] at h
 | _=>simp [AV.cells] at h
theorem Cs.obs_append : ∀ (x y:List (C U)),Cs.obs (x++y)=Cs.obs x++Cs.obs y
 | [],_=>rfl
 | c::x,y=>by simp [Cs.obs,Cs.obs_append x y]
theorem Cs.obs_sub : ∀ {x y:List (C U)},(∀ c∈x,c∈y)→∀ k∈Cs.obs x,k∈Cs.obs y
 | [],_,_,k,hk=>by simp [Cs.obs] at hk
 | c::x,y,h,k,hk=>by
  simp only[Cs.obs,List.mem_append] at hk
  rcases hk with hk | hk
  ·obtain⟨i,hi⟩:=List.getElem?_of_mem (h c (by simp))
   exact z144 hk hi
  ·exact Cs.obs_sub (fun c hc=>h c (by simp [hc])) k hk
theorem z1o5 {place:Nat→Option (Nat×Nat)} : ∀ {l:List (Nat×List (C U))} {cells cs:List (C U)},zdh place cells l=some cs→∀ k∈Cs.obs cs,k∈Cs.obs cells∨∃ x∈l,k∈Cs.obs x.2
 | [],cells,cs,h,k,hk=>by simp [zdh] at h;subst h;exact .inl hk
 | (i,c)::l,cells,cs,h,k,hk=>by
  simp only[zdh] at h
  split at h
  ·simp at h
  ·split at h
   ·rcases z1o5 h k hk with hk | ⟨x,hx,hk⟩
    ·rw[Cs.obs_append,Cs.obs_append] at hk
     simp only[List.mem_append] at hk
     rcases hk with (hk | hk) | hk
     ·exact .inl (Cs.obs_sub (fun _=>List.mem_of_mem_take) k hk)
     ·exact .inr ⟨(i,c),by simp,hk⟩
     ·exact .inl (Cs.obs_sub (fun _=>List.mem_of_mem_drop) k hk)
    ·exact .inr ⟨x,by simp [hx],hk⟩
   ·simp at h
theorem z1iv {e:TypeId} : ∀ {ps:List (Nat×Operand)} {l:List (Nat×List (C U))},partsK M s e ps=some l→∀ x∈l,∀ k∈Cs.obs x.2,k∈s.obsXs (ps.map (·.2))∨(∃ z,M.zero e=some z∧k∈Cs.obs z)
 | [],l,h,x,hx=>by simp [partsK] at h;subst h;simp at hx
 | (i,y)::ps,l,h,x,hx=>by
  simp only[partsK] at h
  split at h
  ·rename_i cs l0 h1 h2
   simp at h;subst h
   intro k hk
   rcases List.mem_cons.1 hx with rfl | hx
   ·unfold z13y at h1
    split at h1
    ·split at h1
     ·rename_i z hz
      split at h1
      ·simp only[Option.some.injEq] at h1;subst h1;exact .inr ⟨_,hz,hk⟩
      ·cases h1
     ·cases h1
    ·left
     simp only[List.map_cons,S.obsXs,List.mem_append]
     left
     cases hv : s.evT M e y with
     | none=>simp [hv] at h1
     | some v=>simp [hv] at h1;exact zo4 hv (z10g h1 hk)
   ·rcases z1iv h2 x hx k hk with h3 | h3
    ·left;simp only[List.map_cons,S.obsXs,List.mem_append];exact .inr h3
    ·exact .inr h3
  ·simp at h
theorem z1o6 {z:List (C U)} : ∀ (n:Nat),∀ k∈Cs.obs ((List.replicate n z).flatten),k∈Cs.obs z
 | 0,k,hk=>by simp [Cs.obs] at hk
 | n+1,k,hk=>by
  rw[List.replicate_succ,List.flatten_cons,Cs.obs_append,List.mem_append] at hk
  rcases hk with hk | hk
  ·exact hk
  ·exact z1o6 n k hk
theorem z1iw {z:Nat} : ∀ (n:Nat) {cs r:List (C U)},r∈zlk z n cs→∀ c∈r,c∈cs
 | 0,_,_,h,_,_=>by simp [zlk] at h
 | n+1,cs,r,h,c,hc=>by
  simp only[zlk] at h
  rcases List.mem_cons.1 h with rfl | h
  ·exact List.mem_of_mem_take hc
  ·exact List.mem_of_mem_drop (z1iw n h c hc)
theorem z1o7 {τ:U.Ty} : ∀ {rs:List (List (C U))},(∀ r∈rs,∀ k∈Cs.obs r,s'.ob[k]? = s.ob[k]?)→zhg M s' τ rs=zhg M s τ rs
 | [],_=>rfl
 | r::rs,h=>by simp only[zhg,zc0 (cs:=r) (h r (by simp)),z1o7 (rs:=rs) (fun x hx=>h x (by simp [hx]))]
theorem z22x {p:C U} {n:Nat} (hb:∀ k off,p=.bx k off→s'.bx[k]? = s.bx[k]?) (ho:∀ k∈p.obs,s'.ob[k]? = s.ob[k]?) : s'.at M p n=s.at M p n:=by
 cases p with
 | bx k off=>simp only[S.at,hb k off rfl]
 | em k v i off=>simp only[S.at,z71 (ho k (by simp [C.obs]))]
 | _=>rfl
theorem z1b2 {x:Operand} {k off:Nat} (h:s.ev M x=some (.one (.c (.bx k off)))) : k∈s.bxX x:=by
 cases x with
 | tmp t =>
  have h':s.tm[t]? = some _:=h
  simp [S.bxX,h']
 | const c=>obtain⟨x,e⟩:=z1v1 h;simp at e
 | func f=>simp only[S.ev] at h;split at h<;>simp at h
 | global n=>simp [S.ev] at h
theorem z253 {x:Operand} {f:Nat} {ks:List Nat} (h:s.ev M x=some (.one (.c (.fc f ks)))) : ∀ k∈ks,k∈s.bxX x:=by
 intro k hk
 cases x with
 | tmp t =>
  have h':s.tm[t]? = some _:=h
  simp [S.bxX,h',hk]
 | const c=>obtain⟨x,e⟩:=z1v1 h;simp at e
 | func f=>simp only[S.ev] at h;split at h<;>simp at h;obtain⟨_,rfl⟩:=h;simp at hk
 | global n=>simp [S.ev] at h
theorem z1xp {p:C U} {d:Nat} (ho:∀ k∈p.obs,s'.ob[k]? = s.ob[k]?) : s'.move d p=s.move d p:=by
 cases p with
 | em k v i off=>simp only[S.move,z71 (ho k (by simp [C.obs]))]
 | _=>rfl
theorem Agree.caps (h:Agree M s s' o) : ∀ {xs:List Operand},(∀ x∈xs,x∈o.op.operands.toList)→z9u s' M xs=z9u s M xs
 | [],_=>rfl
 | x::xs,hx=>by simp only[z9u,h.ev (hx x (by simp)),h.caps (xs:=xs) (fun y hy=>hx y (by simp [hy]))]
theorem z1ix : ∀ {xs:List Operand} {ks:List Nat},z9u s M xs=some ks→∀ k∈ks,k∈s.bxXs xs
 | [],ks,h,k,hk=>by simp [z9u] at h;subst h;simp at hk
 | x::xs,ks,h,k,hk=>by
  simp only[z9u] at h
  split at h
  ·rename_i k0 ks0 h1 h2
   simp at h;subst h
   simp only[S.bxXs,List.mem_append]
   rcases List.mem_cons.1 hk with rfl | hk
   ·exact .inl (z1b2 h1)
   ·exact .inr (z1ix h2 k hk)
  ·simp at h
theorem zna : ∀ {ks:List Nat} {ks':List Nat},(∀ k∈ks,k∈ks')→∀ q∈s.boxObs ks,q∈s.boxObs ks'
 | [],_,_,q,hq=>by simp [S.boxObs] at hq
 | k::ks,ks',h,q,hq=>by
  simp only[S.boxObs,List.mem_append] at hq
  rcases hq with hq | hq
  ·split at hq
   ·rename_i fz cells hk;exact zsh hk hq (h k (by simp))
   ·simp at hq
  ·exact zna (fun x hx=>h x (by simp [hx])) q hq
theorem z1iy : ∀ {ks:List Nat},(∀ k∈ks,s'.bx[k]? = s.bx[k]?)→(∀ q∈s.boxObs ks,s'.ob[q]? = s.ob[q]?)→s'.caps ks=s.caps ks
 | [],_,_=>rfl
 | k::ks,hb,ho=>by
  have h1:=hb k (by simp)
  have h2:=z1iy (ks:=ks) (fun q hq=>hb q (by simp [hq])) (fun q hq=>ho q (by simp [S.boxObs,hq]))
  simp only[S.caps,h1,h2]
  cases hk : s.bx[k]? with
  | none=>rfl
  | some x =>
   cases x with
   | none=>rfl
   | some x =>
    obtain⟨fz,cells⟩:=x
    have h3:∀ q∈Cs.obs cells,s'.ob[q]? = s.ob[q]?:=fun q hq=>ho q (by simp [S.boxObs,hk,hq])
    cases s.caps ks with
    | none=>rfl
    | some y =>
     obtain⟨dl,bw,ow⟩:=y
     dsimp only
     rw[z1b0 h3,zb0 h3]
theorem Agree.bnd (h:Agree M s s' o) {x:Option Operand} (hx:∀ y,x=some y→y∈o.op.operands.toList) : bndO s' M x=bndO s M x:=by
 cases x with
 | none=>rfl
 | some y=>simp only[bndO,h.ev (hx y rfl)]
theorem z1sa (h:Agree M s s' o) {d:Nat} {tx:TypeId} {x y:AV U} (hq:s'.ob[s.okey d]? = s.ob[s.okey d]?) (hx:∀ k∈x.obs,s'.ob[k]? = s.ob[k]?) (hy:∀ k∈y.obs,s'.ob[k]? = s.ob[k]?) : zll s' M d tx x y=zll s M d tx x y:=by
 unfold zll
 rw[h.okey]
 cases y with
 | one y =>
  cases y with
  | c cy =>
   dsimp only
   rw[z18h (c:=cy) hy,zls hq]
   split
   ·cases x with
    | one x =>
     cases x with
     | c cx =>
      cases cx with
      | ob k v=>simp only[z71 (hx k (by simp [AV.obs,A.obs,C.obs]))]
      | sl τ xs f=>cases f<;>rfl
      | _=>rfl
     | _=>rfl
    | _=>rfl
   ·rfl
  | _=>rfl
 | _=>rfl
theorem z10h : ∀ {cs:List (C U)},(∀ k∈Cs.obs cs,s'.ob[k]? = s.ob[k]?)→s'.curs cs=s.curs cs
 | [],_=>rfl
 | c::cs,h=>by
  have ih:=z10h (cs:=cs) (fun k hk=>h k (by simp only[Cs.obs];exact List.mem_append_right _ hk))
  cases c with
  | ob k v=>simp only[S.curs,ih,z71 (h k (by simp [Cs.obs,C.obs]))]
  | _=>simp only[S.curs,ih]
theorem zwk : ∀ {cs:List (C U)},∀ k∈s.curs cs,k∈Cs.obs cs
 | [],k,hk=>by simp [S.curs] at hk
 | c::cs,k,hk=>by
  simp only[Cs.obs,List.mem_append]
  cases c with
  | ob q v =>
   simp only[S.curs,List.mem_append] at hk
   rcases hk with hk | hk
   ·split at hk
    ·exact .inl hk
    ·simp at hk
   ·exact .inr (zwk k hk)
  | _=>exact .inr (zwk k hk)
theorem z15c : ∀ {ks:List Nat} {bs:List (Bool×List (C U))},s.boxesAt ks=some bs→∀ b∈bs,∀ k∈Cs.obs b.2,k∈s.boxObs ks
 | [],bs,h,b,hb,k,_=>by simp [S.boxesAt] at h;subst h;simp at hb
 | q::ks,bs,h,b,hb,k,hk=>by
  simp only[S.boxesAt] at h
  split at h
  ·rename_i b0 r h1 h2
   simp at h;subst h
   simp only[S.boxObs,List.mem_append]
   rcases List.mem_cons.1 hb with rfl | hb
   ·left;rw[h1];exact hk
   ·exact .inr (z15c h2 b hb k hk)
  ·simp at h
theorem z1b3 : ∀ {bs:List (Bool×List (C U))},(∀ b∈bs,∀ k∈Cs.obs b.2,s'.ob[k]? = s.ob[k]?)→s'.cursB bs=s.cursB bs
 | [],_=>rfl
 | b::bs,h=>by simp only[S.cursB,z10h (h b (List.mem_cons_self ..)),z1b3 (bs:=bs) (fun x hx=>h x (List.mem_cons_of_mem _ hx))]
theorem z1iz : ∀ {bs:List (Bool×List (C U))},∀ k∈s.cursB bs,∃ b∈bs,k∈Cs.obs b.2
 | [],k,hk=>by simp [S.cursB] at hk
 | b::bs,k,hk=>by
  simp only[S.cursB,List.mem_append] at hk
  rcases hk with hk | hk
  ·exact⟨b,by simp,zwk k hk⟩
  ·obtain⟨x,h1,h2⟩:=z1iz k hk;exact⟨x,by simp [h1],h2⟩
theorem z1j0 {ks oks:List Nat} {c:C U} (h:∀ k∈c.obs,s'.ob[k]? = s.ob[k]?) : c.pass s' ks oks=c.pass s ks oks:=by
 cases c with
 | ob k v=>simp only[C.pass,z71 (h k (by simp [C.obs]))]
 | em k v i off=>simp only[C.pass,z71 (h k (by simp [C.obs]))]
 | _=>rfl
theorem z1v2 {own m:Bool} {x:A U} (h:∀ k∈x.obs,s'.ob[k]? = s.ob[k]?) : zw9 s' own m x=zw9 s own m x:=by
 unfold zw9
 split
 ·rename_i y;exact z10h (cs:=[y]) (fun k hk=>h k (by simpa [Cs.obs,A.obs] using hk))
 ·rfl
 ·rfl
 ·rfl
theorem z1xq {own m:Bool} {x:A U} : ∀ k∈zw9 s own m x,k∈x.obs:=by
 intro k hk
 unfold zw9 at hk
 split at hk
 ·have:=zwk k hk;simpa [Cs.obs,A.obs] using this
 ·exact hk
 ·exact hk
 ·simp at hk
theorem zsi {own:Bool} : ∀ {ms:List Bool} {al:List (A U)},(∀ k∈As.obs al,s'.ob[k]? = s.ob[k]?)→z4n s' own ms al=z4n s own ms al
 | _,[],_=>rfl
 | ms,x::al,h=>by
  simp only[z4n]
  rw[z1v2 (fun k hk=>h k (by simp only[As.obs];exact List.mem_append_left _ hk)),zsi (al:=al) (fun k hk=>h k (by simp only[As.obs];exact List.mem_append_right _ hk))]
theorem zwl {own:Bool} : ∀ {ms:List Bool} {al:List (A U)},∀ k∈z4n s own ms al,k∈As.obs al
 | _,[],k,hk=>by simp [z4n] at hk
 | ms,x::al,k,hk=>by
  simp only[z4n,List.mem_append] at hk
  simp only[As.obs,List.mem_append]
  rcases hk with hk | hk
  ·exact .inl (z1xq k hk)
  ·exact .inr (zwl k hk)
theorem z1xr {ks oks:List Nat} {m:Bool} {x:A U} (h:∀ k∈x.obs,s'.ob[k]? = s.ob[k]?) : argG s' ks oks m x=argG s ks oks m x:=by
 cases x with
 | top=>rfl
 | agg cs=>simp only[argG,zc0 h]
 | c c =>
  have h1:=zok (s:=s) (s':=s') (c:=c) h
  have h2:=z1j0 (s:=s) (s':=s') (ks:=ks) (oks:=oks) (c:=c) h
  cases c<;>cases m<;>simp only[argG,h1,h2]
theorem z1b4 {ks oks:List Nat} : ∀ {ms:List Bool} {al:List (A U)},(∀ k∈As.obs al,s'.ob[k]? = s.ob[k]?)→zq5 s' ks oks ms al=zq5 s ks oks ms al
 | _,[],_=>rfl
 | ms,x::al,h=>by
  simp only[zq5]
  rw[z1xr (fun k hk=>h k (by simp only[As.obs];exact List.mem_append_left _ hk)),z1b4 (al:=al) (fun k hk=>h k (by simp only[As.obs];exact List.mem_append_right _ hk))]
theorem z1j1 {d:Nat} {F:FnG U} {ms:List Bool} {al:List (A U)} (hk:s'.okey d=s.okey d) (hq:∀ j,j<4→s'.ob[s.okey d+j]? = s.ob[s.okey d+j]?) (ha:∀ k∈As.obs al,s'.ob[k]? = s.ob[k]?)
  (hb:∀ k∈As.bxs al,s'.bx[k]? = s.bx[k]?) (hbo:∀ k∈s.boxObs (As.bxs al),s'.ob[k]? = s.ob[k]?) : effG s' d F ms al=effG s d F ms al:=by
 unfold effG
 rw[zoj hb]
 cases hbs : s.boxesAt (As.bxs al) with
 | none=>rfl
 | some bs =>
  have hbb:∀ b∈bs,∀ k∈Cs.obs b.2,s'.ob[k]? = s.ob[k]?:=fun b hb k hk=>hbo k (z15c hbs b hb k hk)
  dsimp only
  rw[zsi (own:=true) ha,zsi (own:=false) ha,z1b3 hbb]
  have hoks:∀ k∈z4n s true ms al++s.cursB bs,s'.ob[k]? = s.ob[k]?:=by
   intro k hk
   rcases List.mem_append.1 hk with hk | hk
   ·exact ha k (zwl k hk)
   ·obtain⟨b,h1,h2⟩:=z1iz k hk;exact hbb b h1 k h2
  rw[zsf hoks,z1b4 ha,zsg hoks,zb0 (ks:=z4n s false ms al) (fun k hk=>ha k (zwl k hk))]
  have hmap:(bs.map fun b=>(b.1,b.2.map (C.pass s' (As.bxs al) (z4n s true ms al++s.cursB bs))))=bs.map fun b=>(b.1,b.2.map (C.pass s (As.bxs al) (z4n s true ms al++s.cursB bs))):=by
   refine List.map_congr_left fun b hb'=>?_
   congr 1
   refine List.map_congr_left fun c hc=>z1j0 fun k hk=>hbb b hb' k ?_
   obtain⟨i,hi⟩:=List.getElem?_of_mem hc
   exact z144 hk hi
  rw[hmap,hk]
  split
  ·split
   ·split
    ·split
     ·rename_i hl
      rw[z10f (fun j hj=>hq j (by omega))]
     ·rfl
    ·rfl
   ·rfl
  ·rfl
theorem zwm : ∀ {xs:List Operand} {ts:List TypeId} {al:List (A U)},z4l M s xs ts=some al→∀ k∈As.bxs al,k∈s.bxXs xs
 | [],ts,al,h,k,hk=>by simp [z4l] at h;subst h;simp [As.bxs] at hk
 | x::xs,ts,al,h,k,hk=>by
  simp only[z4l] at h
  split at h
  ·rename_i y ys h1 h2
   simp at h;subst h
   simp only[S.bxXs,List.mem_append]
   have hrest:k∈As.bxs ys→k∈s.bxXs xs:=zwm h2 k
   cases y with
   | c c =>
    cases c with
    | bx q off =>
     simp only[As.bxs,List.mem_cons] at hk
     rcases hk with rfl | hk
     ·left
      unfold S.evT at h1
      split at h1
      ·split at h1<;>simp at h1
      ·exact z1b2 h1
     ·exact .inr (hrest hk)
    | fc f q =>
     simp only[As.bxs,List.mem_append] at hk
     rcases hk with hk | hk
     ·left
      unfold S.evT at h1
      split at h1
      ·split at h1<;>simp at h1
      ·exact z253 h1 k hk
     ·exact .inr (hrest hk)
    | _=>exact .inr (hrest hk)
   | _=>exact .inr (hrest hk)
  ·simp at h
theorem z20o (al:List (A U)) : ∀ (ks:List Nat),As.bxs (al++ks.map fun k=>.c (.bx k 0))=As.bxs al++ks∧As.obs (al++ks.map fun k=>.c (.bx (U:=U) k 0))=As.obs al:=by
 intro ks
 have h0:As.bxs (ks.map fun k=>A.c (C.bx (U:=U) k 0))=ks∧As.obs (ks.map fun k=>A.c (C.bx (U:=U) k 0))=[]:=by
  induction ks with
  | nil=>exact⟨rfl,rfl⟩
  | cons k ks ih=>exact⟨by simp only[List.map_cons,As.bxs,ih.1],by simp only[List.map_cons,As.obs,A.obs,C.obs,ih.2,List.append_nil]⟩
 induction al with
 | nil=>exact h0
 | cons x al ih =>
  refine⟨?_,?_⟩
  ·cases x with
   | c c=>cases c<;>simp only[List.cons_append,As.bxs,ih.1,List.append_assoc]
   | _=>simp only[List.cons_append,As.bxs,ih.1]
  ·simp only[List.cons_append,As.obs,ih.2]
theorem z1xs {F:FnU U} {al:List (A U)} (ha:∀ k∈As.obs al,s'.ob[k]? = s.ob[k]?) : effU s' F al=effU s F al:=by
 unfold effU
 split
 ·rename_i k v al'
  rw[z71 (ha k (by simp [As.obs,A.obs,C.obs])),z10e (fun q hq=>ha q (by simp only[As.obs];exact List.mem_append_right _ hq)),zb0 (ks:=As.obs al') (fun q hq=>ha q (by simp only[As.obs];exact List.mem_append_right _ hq))]
 ·rfl
theorem z1j2 {t t':S U} (h:t.bx=t'.bx) : ∀ (ks:List Nat),t.boxObs ks=t'.boxObs ks
 | []=>rfl
 | k::ks=>by simp only[S.boxObs,h,z1j2 h ks]
theorem z1j3 : ∀ {ks:List Nat},(∀ k∈ks,s'.bx[k]? = s.bx[k]?)→s'.nils ks=s.nils ks
 | [],_=>rfl
 | k::ks,h=>by simp only[S.nils];rw[h k (by simp),z1j3 (ks:=ks) (fun q hq=>h q (by simp [hq]))]
theorem z1v3 {ks:List Nat} {k i q v:Nat} {fz:Bool} {cells:List (C U)} {x:C U} (hk:s.bx[k]? = some (some (fz,cells))) : ∀ n,n∈({ s with bx:=s.bx.set k (some (fz,cells.set i (.ob q v))) } : S U).boxObs ks→n=q∨n∈s.boxObs ks:=by
 intro n hn
 induction ks with
 | nil=>simp [S.boxObs] at hn
 | cons k' ks ih =>
  simp only[S.boxObs,List.mem_append] at hn ⊢
  rcases hn with hn | hn
  ·by_cases e : k=k'
   ·subst e
    rw[List.getElem?_set_self (List.getElem?_eq_some_iff.1 hk).1] at hn
    rw[hk]
    dsimp only at hn ⊢
    have : ∀ (cs:List (C U)) (i:Nat),n∈Cs.obs (cs.set i (.ob q v))→n=q∨n∈Cs.obs cs:=by
     intro cs
     induction cs with
     | nil=>intro i h;simp [Cs.obs] at h
     | cons c cs ih2 =>
      intro i h
      cases i with
      | zero =>
       simp only[List.set_cons_zero,Cs.obs,C.obs,List.mem_append,List.mem_singleton] at h ⊢
       rcases h with h | h
       ·exact .inl h
       ·exact .inr (.inr h)
      | succ i =>
       simp only[List.set_cons_succ,Cs.obs,List.mem_append] at h ⊢
       rcases h with h | h
       ·exact .inr (.inl h)
       ·rcases ih2 i h with h | h
        ·exact .inl h
        ·exact .inr (.inr h)
    rcases this cells i hn with h | h
    ·exact .inl h
    ·exact .inr (.inl h)
   ·rw[List.getElem?_set_ne e] at hn;exact .inr (.inl hn)
  ·rcases ih hn with h | h
   ·exact .inl h
   ·exact .inr (.inr h)
theorem z1v4 {d:Nat} {F:FnG U} {ms:List Bool} {al:List (A U)} (N:Nat→Prop) (K:Nat→Prop) (ha:∀ k∈As.obs al,N k) (hb:∀ k∈As.bxs al,K k) : ∀ (l:List (Nat×Nat)) (j:Nat) (s s':S U),
  s'.base=s.base→(∀ k,N k→s'.ob[k]? = s.ob[k]?)→(∀ k,K k→s'.bx[k]? = s.bx[k]?)→(∀ j,j<4→N (s.okey d+j))→(∀ x∈l,K x.1)→(∀ k∈s.boxObs (As.bxs al),N k)→zwb d F ms al l j s'=zwb d F ms al l j s:=by
 intro l
 induction l with
 | nil=>intro j s s' hbase hN hK hd _ hbo;exact z1j1 (by simp only[S.okey,hbase]) (fun j hj=>hN _ (hd j hj)) (fun k hk=>hN k (ha k hk)) (fun k hk=>hK k (hb k hk)) (fun k hk=>hN k (hbo k hk))
 | cons x l ih0 =>
  obtain⟨k,i⟩:=x
  intro j s s' hbase hN hK hd hl hbo
  have hok:s'.okey d=s.okey d:=by simp only[S.okey,hbase]
  have hKk:=hK k (hl (k,i) (by simp))
  simp only[zwb]
  rw[hok,hKk]
  by_cases hj : j<4
  ·rw[zls (hN _ (hd j hj))]
   split
   ·rename_i fz cells ver hbk hv hlt
    split
    ·rename_i τ hc
     have hq:s.okey d+j<s.ob.length∧s.okey d+j<s'.ob.length:=by
      have h1:s.okey d+j<s.ob.length:=by
       unfold S.nver at hv
       split at hv
       ·rename_i h;exact (List.getElem?_eq_some_iff.1 h).1
       ·rename_i h;exact (List.getElem?_eq_some_iff.1 h).1
       ·simp at hv
      have h2:=hN _ (hd j hj)
      rw[List.getElem?_eq_getElem h1] at h2
      exact⟨h1,(List.getElem?_eq_some_iff.1 h2).1⟩
     have hkl:k<s.bx.length∧k<s'.bx.length:=⟨(List.getElem?_eq_some_iff.1 hbk).1,(List.getElem?_eq_some_iff.1 (hKk.trans hbk)).1⟩
     have ih:=ih0 (j+1)
      { s with bx:=s.bx.set k (some (fz,cells.set i (.ob (s.okey d+j) ver))),ob:=s.ob.set (s.okey d+j) (some ⟨ver,τ,[],some 0,true⟩) }
      { s' with bx:=s'.bx.set k (some (fz,cells.set i (.ob (s.okey d+j) ver))),ob:=s'.ob.set (s.okey d+j) (some ⟨ver,τ,[],some 0,true⟩) }
      hbase (fun q hq'=>by
       show (s'.ob.set _ _)[q]? = (s.ob.set _ _)[q]?
       by_cases e : s.okey d+j=q
       ·subst e;rw[List.getElem?_set_self hq.1,List.getElem?_set_self hq.2]
       ·rw[List.getElem?_set_ne e,List.getElem?_set_ne e];exact hN q hq')
      (fun q hq'=>by
       show (s'.bx.set _ _)[q]? = (s.bx.set _ _)[q]?
       by_cases e : k=q
       ·subst e;rw[List.getElem?_set_self hkl.1,List.getElem?_set_self hkl.2]
       ·rw[List.getElem?_set_ne e,List.getElem?_set_ne e];exact hK q hq')
      hd (fun x hx=>hl x (by simp [hx])) (fun n hn=>by
       rw[z1j2 (t:={ s with bx:=s.bx.set k (some (fz,cells.set i (.ob (s.okey d+j) ver))),ob:=s.ob.set (s.okey d+j) (some ⟨ver,τ,[],some 0,true⟩) }) (t':={ s with bx:=s.bx.set k (some (fz,cells.set i (.ob (s.okey d+j) ver))) }) rfl] at hn
       rcases z1v3 (s:=s) (i:=i) (x:=.top) hbk n hn with h | h
       ·rw[h];exact hd j hj
       ·exact hbo n h)
     rw[ih]
    ·rfl
   ·rfl
  ·have hlt:Nat.blt j 4=false:=by cases h : Nat.blt j 4 with | false=>rfl | true=>exact absurd (Nat.le_of_ble_eq_true h) (by omega)
   rw[hlt]
   cases s.bx[k]? with
   | none=>rfl
   | some b =>
    cases b with
    | none=>rfl
    | some b =>
     obtain⟨fz,cells⟩:=b
     cases s'.nver (s.okey d+j)<;>cases s.nver (s.okey d+j)<;>rfl
theorem z1b5 {d:Nat} {F:FnG U} {ms:List Bool} {al:List (A U)} (hbase:s'.base=s.base) (hq:∀ j,j<4→s'.ob[s.okey d+j]? = s.ob[s.okey d+j]?) (ha:∀ k∈As.obs al,s'.ob[k]? = s.ob[k]?)
  (hb:∀ k∈As.bxs al,s'.bx[k]? = s.bx[k]?) (hbo:∀ k∈s.boxObs (As.bxs al),s'.ob[k]? = s.ob[k]?) : zwc s' d F ms al=zwc s d F ms al:=by
 unfold zwc
 rw[z1j1 (by simp only[S.okey,hbase]) hq ha hb hbo,z1j3 hb]
 have hl:∀ (s:S U) (ks:List Nat),∀ x∈s.nils ks,x.1∈ks:=by
  intro s ks
  induction ks with
  | nil=>intro x hx;simp [S.nils] at hx
  | cons k ks ih =>
   intro x hx
   simp only[S.nils,List.mem_append] at hx
   rcases hx with hx | hx
   ·have : ∀ (cs:List (C U)) (i:Nat),∀ x∈z13z k cs i,x.1=k:=by
     intro cs
     induction cs with
     | nil=>intro i x hx;simp [z13z] at hx
     | cons c cs ih2 =>
      intro i x hx
      unfold z13z at hx
      split at hx
      ·simp at *
      ·rename_i e;simp only[List.cons.injEq] at e;obtain⟨rfl,rfl⟩:=e
       rcases List.mem_cons.1 hx with rfl | hx
       ·rfl
       ·exact ih2 _ x hx
      ·rename_i e;simp only[List.cons.injEq] at e;obtain⟨rfl,rfl⟩:=e
       exact ih2 _ x hx
    split at hx
    ·rw[this _ _ x hx];simp
    ·simp at hx
   ·exact List.mem_cons_of_mem _ (ih x hx)
 rw[z1v4 (fun k=>s'.ob[k]? = s.ob[k]?) (fun k=>s'.bx[k]? = s.bx[k]?) ha hb (s.nils (As.bxs al)) 0 s s' hbase (fun _ h=>h) (fun _ h=>h) hq (fun x hx=>hb _ (hl s _ x hx)) hbo]
theorem z20p (h:Agree M s s' o) : eff M s' o=eff M s o:=by
 have hev:=fun x (hx:x∈o.op.operands.toList)=>h.ev hx
 have hevT:=fun t x (hx:x∈o.op.operands.toList)=>h.evT (t:=t) hx
 cases hop : o.op with
 | move x=>rw[hop] at hevT;simp only[eff,hop,hevT _ x (by simp [Op.operands])]
 | assign x=>rw[hop] at hevT;simp only[eff,hop,hevT _ x (by simp [Op.operands])]
 | pick c x y=>rw[hop] at hev hevT;simp only[eff,hop,hev c (by simp [Op.operands]),hevT _ x (by simp [Op.operands]),hevT _ y (by simp [Op.operands])]
 | alloc t =>
  simp only[eff,hop]
  cases hd : o.dst with
  | none=>simp
  | some d =>
   have:=h.bx (s.key d) (by simp [S.readB,hop,hd])
   cases M.zero t with
   | none=>rfl
   | some cs=>dsimp only;rw[h.key,this]
 | box t x =>
  rw[hop] at hevT
  simp only[eff,hop,hevT _ x (by simp [Op.operands])]
  cases hd : o.dst with
  | none=>simp
  | some d =>
   have:=h.bx (s.key d) (by simp [S.readB,hop,hd])
   cases (s.evT M t x).bind AV.cells with
   | none=>rfl
   | some cs=>dsimp only;rw[h.key,this]
 | build t ps =>
  have:=h.parts (ps:=ps.toList) (fun x hx=>by rw[hop];simp only[Op.operands,Array.toList_map,List.mem_map];exact⟨x,hx,rfl⟩)
  simp only[eff,hop,this]
 | buildSlice t len ps =>
  simp only[eff,hop]
  cases hti : M.ti t with
  | sl e τ bytes =>
   cases hd : o.dst with
   | none=>rfl
   | some d =>
    dsimp only
    have hp:=h.partsK (e:=e) (ps:=ps.toList) (fun x hx=>by rw[hop];simp only[Op.operands,Array.toList_map,List.mem_map];exact⟨x,hx,rfl⟩)
    have hq:=h.ob (s.okey d) (by simp [S.readO,hop,hd])
    rw[hp,h.okey,zls hq]
    cases hz : M.zero e with
    | none=>rfl
    | some z =>
     cases hl : partsK M s e ps.toList with
     | none=>rfl
     | some l =>
      cases hv : s.nver (s.okey d) with
      | none=>rfl
      | some ver =>
       dsimp only
       split
       ·cases hf : zdh (fun i=>some (i*U.sz τ,U.sz τ)) ((List.replicate len z).flatten) l with
        | none=>rfl
        | some cs =>
         dsimp only
         have hobs:∀ k∈Cs.obs cs,s'.ob[k]? = s.ob[k]?:=by
          intro k hk
          refine h.ob k ?_
          simp only[S.readO,hop,hd,List.mem_append]
          rcases z1o5 hf k hk with hk | ⟨x,hx,hk⟩
          ·right;simp only[Mc.zobs,hti,hz];exact z1o6 len k hk
          ·rcases z1iv hl x hx k hk with h1 | ⟨z',hz',h1⟩
           ·exact .inl (.inr h1)
           ·right;simp only[Mc.zobs,hti];rw[hz'];exact h1
         rw[z1o7 (fun r hr k hk=>hobs k (Cs.obs_sub (z1iw len hr) k hk)),zb0 hobs]
       ·rfl
  | _=>rfl
 | load t x =>
  rw[hop] at hev
  simp only[eff,hop,hev x (by simp [Op.operands])]
  cases hv : s.ev M x with
  | none=>rfl
  | some v =>
   cases v with
   | one a =>
    cases a with
    | c p =>
     dsimp only
     have : ∀ n,s'.at M p n=s.at M p n:=fun n=>z22x (fun k off e=>by subst e;exact h.bx k (by simp only[S.readB,hop];exact z1b2 hv)) (fun k hk=>h.ob k (by simp only[S.readO,hop];exact zlt hv hk))
     simp only[this]
    | _=>rfl
   | _=>rfl
 | store t x y =>
  rw[hop] at hev hevT
  simp only[eff,hop,hev x (by simp [Op.operands]),hevT t y (by simp [Op.operands])]
  cases hv : s.ev M x with
  | none=>rfl
  | some v =>
   cases v with
   | one a =>
    cases a with
    | c p =>
     cases hyv : s.evT M t y with
     | none=>rfl
     | some yv =>
      simp only[Option.bind_some]
      cases hcs : yv.cells with
      | none=>rfl
      | some cs =>
       have : z8b M s' p cs=z8b M s p cs:=by
        cases p with
        | bx k off =>
         have:=h.bx k (by simp only[S.readB,hop];exact z1b2 hv)
         have hsub:∀ q∈Cs.obs cs,q∈s.obsX y:=fun q hq=>zo4 hyv (z10g hcs hq)
         cases hbk : s.bx[k]? with
         | none=>simp only[z8b,this,hbk]
         | some c =>
          cases c with
          | none=>simp only[z8b,this,hbk]
          | some c =>
           obtain⟨fz,cells⟩:=c
           cases fz with
           | true=>simp only[z8b,this,hbk]
           | false =>
            cases hm : z7h (Cs.obs cs) (Cs.obs (cells.take off++cells.drop (off+cs.length))) with
            | false=>simp only[z8b,this,hbk,hm]
            | true =>
             have hm2:z7h (s.obsX y) (s.boxObs (s.bxX x))=true:=by
              obtain⟨q,h1,h2⟩:=meets_true.1 hm
              refine meets_true.2 ⟨q,hsub q h1,?_⟩
              have hbx:k∈s.bxX x:=z1b2 hv
              have hc:q∈Cs.obs cells:=z20n h2
              exact zsh hbk hc hbx
             have h2:∀ q∈Cs.obs cs,s'.ob[q]? = s.ob[q]?:=fun q hq=>h.ob q (by
              simp only[S.readO,hop,List.mem_append,hm2]
              right
              split
              ·rename_i hh;simp at hh
              ·exact hsub q hq)
             simp only[z8b,this,hbk,hm,zc0 h2,zb0 h2]
        | em k v i off =>
         have h0:k∈s.obsX x:=zlt hv (by simp [AV.obs,A.obs,C.obs])
         have h1:=h.ob k (by simp only[S.readO,hop,List.mem_append];exact .inl h0)
         have h2:∀ q∈Cs.obs cs,s'.ob[q]? = s.ob[q]?:=fun q hq=>h.ob q (by
          simp only[S.readO,hop,List.mem_append]
          right
          split
          ·rename_i hh _;rw[hh] at h0;simp at h0
          ·exact zo4 hyv (z10g hcs hq))
         simp only[z8b,z71 h1,zc0 h2,zb0 h2]
        | _=>rfl
       cases o.dst with
       | some d=>rfl
       | none=>dsimp only;rw[this]
    | _=>rfl
   | _=>rfl
 | nilCheck x =>
  rw[hop] at hev
  simp only[eff,hop,hev x (by simp [Op.operands])]
  cases hv : s.ev M x with
  | none=>rfl
  | some v =>
   cases v with
   | one a =>
    cases a with
    | c p =>
     cases p with
     | em k v i off =>
      have:=h.ob k (by simp only[S.readO,hop];exact zlt hv (by simp [AV.obs,A.obs,C.obs]))
      dsimp only
      rw[z71 this]
     | _=>rfl
    | _=>rfl
   | _=>rfl
 | binOp op t x y t'=>rw[hop] at hev;simp only[eff,hop,hev x (by simp [Op.operands]),hev y (by simp [Op.operands])]
 | unOp op t x=>rw[hop] at hev;simp only[eff,hop,hev x (by simp [Op.operands])]
 | convert src dst x=>rw[hop] at hev;simp only[eff,hop,hev x (by simp [Op.operands])]
 | slice t x lo hi mx =>
  rw[hop] at hev
  have b1:=h.bnd (x:=lo) (fun y e=>by rw[hop,e];simp [Op.operands])
  have b2:=h.bnd (x:=hi) (fun y e=>by rw[hop,e];simp [Op.operands])
  have b3:=h.bnd (x:=mx) (fun y e=>by rw[hop,e];simp [Op.operands])
  have key:∀ v,s.ev M x=some v→∀ ti l hh m,zog s' ti v l hh m=zog s ti v l hh m:=by
   intro v hv ti l hh m
   cases v with
   | one a =>
    cases a with
    | c cx =>
     have h1:∀ k∈cx.obs,s'.ob[k]? = s.ob[k]?:=fun k hk=>h.ob k (by simp only[S.readO,hop];exact zlt hv hk)
     unfold zog
     cases ti with
     | sl e τ bytes=>simp only[z18h h1,zb0 h1]
     | _=>first | rfl | (cases cx<;>first | rfl | (rename_i x;cases x<;>rfl))
    | _=>cases ti<;>rfl
   | _=>cases ti<;>rfl
  simp only[eff,hop,hev x (by simp [Op.operands]),b1,b2,b3]
  cases hv : s.ev M x with
  | none=>rfl
  | some v =>
   cases bndO s M lo with
   | none=>rfl
   | some l =>
    cases bndO s M hi with
    | none=>rfl
    | some hh =>
     cases bndO s M mx with
     | none=>rfl
     | some m=>exact key v hv _ _ _ _
 | fieldAddr t x f =>
  rw[hop] at hev
  simp only[eff,hop,hev x (by simp [Op.operands])]
  split
  ·rename_i p fs n hv hti
   have h1:∀ k∈p.obs,s'.ob[k]? = s.ob[k]?:=fun k hk=>h.ob k (by simp only[S.readO,hop];exact zlt hv hk)
   split
   ·rw[z1xp h1]
   ·rfl
  ·rfl
 | field t x f=>rw[hop] at hev;simp only[eff,hop,hev x (by simp [Op.operands])]
 | indexAddr t x y =>
  rw[hop] at hev
  simp only[eff,hop,hev x (by simp [Op.operands]),hev y (by simp [Op.operands])]
  split
  ·rfl
  ·rename_i k v _ _ _ _ _ hv _ _
   have:=h.ob k (by simp only[S.readO,hop];exact zlt hv (by simp [AV.obs,A.obs,C.obs]))
   rw[z71 this]
  ·rfl
  ·rfl
  ·rfl
 | index t x y=>rw[hop] at hev;simp only[eff,hop,hev x (by simp [Op.operands]),hev y (by simp [Op.operands])]
 | extract x n=>rw[hop] at hev;simp only[eff,hop,hev x (by simp [Op.operands])]
 | makeSlice t x y =>
  rw[hop] at hev
  simp only[eff,hop,hev x (by simp [Op.operands]),hev y (by simp [Op.operands])]
  cases hd : o.dst with
  | none=>cases s.ev M x<;>cases s.ev M y<;>rfl
  | some d =>
   have hq:=h.ob (s.okey d) (by simp [S.readO,hop,hd])
   have : ∀ l c,zts M s' d t l c=zts M s d t l c:=fun l c=>by
    unfold zts
    rw[h.okey,zls hq]
    split
    ·rename_i n c0 e τ bytes hti
     split
     ·rename_i z ver hz _
      have h2:∀ q∈Cs.obs z,s'.ob[q]? = s.ob[q]?:=fun q hq=>h.ob q (by
       simp only[S.readO,hop,List.mem_append];right;simp only[Mc.zobs,hti,hz];exact hq)
      rw[zc0 h2]
     ·rfl
    ·rfl
   cases s.ev M x with
   | none=>rfl
   | some l =>
    cases s.ev M y with
    | none=>rfl
    | some c=>exact this l c
 | makeFunc fn first captured =>
  cases fn with
  | func f =>
   simp only[eff,hop]
   cases first.toList with
   | cons x r=>rfl
   | nil =>
    dsimp only
    unfold z1fs
    rw[h.caps (xs:=captured.toList) (fun x hx=>by rw[hop];simp only[Op.operands];simp at hx ⊢;exact .inr hx)]
    cases hk : z9u s M captured.toList with
    | none=>rfl
    | some ks =>
     have hsub:=z1ix hk
     dsimp only
     rw[show s'.caps ks=s.caps ks from z1iy (fun k hk'=>h.bx k (by simp only[S.readB,hop];exact hsub k hk')) (fun q hq=>h.ob q (by simp only[S.readO,hop];exact zna hsub q hq))]
  | _=>simp only[eff,hop]
 | call c =>
  have ha:∀ x∈c.args.toList,x∈o.op.operands.toList:=fun x hx=>by rw[hop];simp [Op.operands,Call.operands] at hx ⊢;exact .inr hx
  simp only[eff,hop,zjo]
  cases hc : c.callee with
  | builtin b =>
   dsimp only
   cases b with
   | len =>
    simp only[z4m]
    cases hl : c.args.toList with
    | nil=>rfl
    | cons x r =>
     cases r with
     | cons y r=>rfl
     | nil =>
      cases c.argTypes.toList with
      | nil=>rfl
      | cons t r' =>
       cases r' with
       | cons t' r'=>rfl
       | nil =>
        dsimp only
        rw[h.ev (ha x (by rw[hl];simp))]
        cases hv : s.ev M x with
        | none=>rfl
        | some v =>
         cases v with
         | one a =>
          cases a with
          | c cx =>
           have h1:∀ k∈cx.obs,s'.ob[k]? = s.ob[k]?:=fun k hk=>h.ob k (by
            simp only[S.readO,hop,hl,S.obsXs,List.mem_append];exact .inl (.inr (.inl (zlt hv hk))))
           have:=z18h h1
           cases cx with
           | s x=>cases x<;>cases M.ti t<;>rfl
           | _=>cases M.ti t<;>simp only[this]
          | _=>rfl
         | _=>rfl
   | append =>
    simp only[z4m]
    cases hl : c.args.toList with
    | nil=>rfl
    | cons x r =>
     cases r with
     | nil=>rfl
     | cons y r =>
      cases r with
      | cons z r=>rfl
      | nil =>
       cases c.argTypes.toList with
       | nil=>rfl
       | cons t r' =>
        cases r' with
        | nil=>rfl
        | cons t' r' =>
         cases r' with
         | cons t'' r'=>rfl
         | nil =>
          cases hd : o.dst with
          | none=>rfl
          | some d =>
           dsimp only
           rw[h.evT (ha x (by rw[hl];simp)),h.evT (ha y (by rw[hl];simp))]
           cases hx : s.evT M t x with
           | none=>rfl
           | some vx =>
            cases hy : s.evT M t' y with
            | none=>rfl
            | some vy =>
             have:=z1sa h (d:=d) (tx:=t) (x:=vx) (y:=vy) (h.ob _ (by simp [S.readO,hop,hd]))
              (fun k hk=>h.ob k (by simp only[S.readO,hop,hl,S.obsXs,List.mem_append];exact .inl (.inr (.inl (zo4 hx hk)))))
              (fun k hk=>h.ob k (by simp only[S.readO,hop,hl,S.obsXs,List.mem_append];exact .inl (.inr (.inr (.inl (zo4 hy hk))))))
             cases M.ti t' with
             | sl e τ b=>exact this
             | _=>rfl
   | min=>simp only[z4m,h.args ha]
   | max=>simp only[z4m,h.args ha]
   | _=>rfl
  | value v =>
   cases v with
   | func f =>
    dsimp only
    rw[h.args ha]
    cases M.fns f with
    | none =>
     cases hal : z4l M s c.args.toList c.argTypes.toList with
     | none=>rfl
     | some al =>
      have hu:∀ F : FnU U,effU s' F al=effU s F al:=fun F=>z1xs (fun k hk=>h.ob k (by simp only[S.readO,hop,List.mem_append];exact .inl (.inr (zjq hal k hk))))
      cases hd : o.dst with
      | none =>
       dsimp only
       cases M.ups f with
       | none=>rfl
       | some F=>exact hu F
      | some d =>
       dsimp only
       cases M.gns f with
       | none =>
        dsimp only
        cases M.ups f with
        | none=>rfl
        | some F=>exact hu F
       | some x =>
        obtain⟨ms,F⟩:=x
        dsimp only
        refine z1b5 h.base (fun j hj=>h.ob _ ?_) (fun k hk=>h.ob k ?_) (fun k hk=>h.bx k ?_) (fun k hk=>h.ob k ?_)
        ·simp only[S.readO,hop,hd]
         refine List.mem_append_left _ (List.mem_append_left _ ?_)
         rcases (by omega:j=0∨j=1∨j=2∨j=3) with rfl | rfl | rfl | rfl<;>simp
        ·simp only[S.readO,hop];exact List.mem_append_left _ (List.mem_append_right _ (zjq hal k hk))
        ·simp only[S.readB,hop];exact List.mem_append_left _ (zwm hal k hk)
        ·simp only[S.readO,hop];exact List.mem_append_right _ (zna (fun q hq=>List.mem_append_left _ (zwm hal q hq)) k hk)
    | some F =>
     cases hal : z4l M s c.args.toList c.argTypes.toList with
     | none=>rfl
     | some al =>
      cases hd : o.dst with
      | none=>rfl
      | some d =>
       dsimp only
       have h1:∀ k∈As.obs al,s'.ob[k]? = s.ob[k]?:=fun k hk=>h.ob k (by simp only[S.readO,hop,List.mem_append];exact .inl (.inr (zjq hal k hk)))
       unfold z1fr
       rw[z10e h1,zb0 h1,h.okey]
       cases s.toDs al with
       | none=>rfl
       | some ds =>
        dsimp only
        cases F ds with
        | none=>rfl
        | some x =>
         obtain⟨ob,rs,os⟩:=x
         dsimp only
         split
         ·rename_i hos
          rw[z10f (os:=os) (q:=s.okey d) (fun j hj=>h.ob _ (by
           simp only[S.readO,hop,hd,List.mem_append];left;left
           have : j=0∨j=1∨j=2∨j=3:=by omega
           rcases this with rfl | rfl | rfl | rfl<;>simp))]
         ·rfl
   | tmp t =>
    dsimp only
    have ht:s'.tm[t]? = s.tm[t]?:=h.tm t (by simp [z1ft,hop,Op.operands,Call.operands,hc])
    rw[h.args ha,ht]
    split
    ·rename_i φ al _ hal
     have h1:∀ k∈As.obs al,s'.ob[k]? = s.ob[k]?:=fun k hk=>h.ob k (by simp only[S.readO,hop,List.mem_append];exact .inl (.inr (zjq hal k hk)))
     unfold z1us;rw[z1b1 h1,zb0 h1]
    ·rename_i f ks al htm hal
     have hcap:s.capX c=ks:=by unfold S.capX;rw[hc];dsimp only;rw[htm]
     cases M.gns f with
     | none=>rfl
     | some x =>
      obtain⟨ms,F⟩:=x
      cases hd : o.dst with
      | none=>rfl
      | some d =>
       dsimp only
       obtain⟨e1,e2⟩:=z20o al ks
       have hsub:∀ q∈As.bxs (al++ks.map fun k=>A.c (C.bx (U:=U) k 0)),q∈s.bxXs c.args.toList++s.capX c:=by
        intro q hq
        rw[e1] at hq
        rcases List.mem_append.1 hq with hq | hq
        ·exact List.mem_append_left _ (zwm hal q hq)
        ·rw[hcap];exact List.mem_append_right _ hq
       refine z1b5 h.base (fun j hj=>h.ob _ ?_) (fun k hk=>h.ob k ?_) (fun k hk=>h.bx k ?_) (fun k hk=>h.ob k ?_)
       ·simp only[S.readO,hop,hd]
        refine List.mem_append_left _ (List.mem_append_left _ ?_)
        rcases (by omega:j=0∨j=1∨j=2∨j=3) with rfl | rfl | rfl | rfl<;>simp
       ·rw[e2] at hk
        simp only[S.readO,hop];exact List.mem_append_left _ (List.mem_append_right _ (zjq hal k hk))
       ·simp only[S.readB,hop];exact hsub k hk
       ·simp only[S.readO,hop];exact List.mem_append_right _ (zna hsub k hk)
    ·rfl
   | _=>rfl
  | invoke r m=>rfl
 | _=>simp only[eff,hop]
end Go.Proofs.YtjfpbchdcbhfgaaGreat.B
