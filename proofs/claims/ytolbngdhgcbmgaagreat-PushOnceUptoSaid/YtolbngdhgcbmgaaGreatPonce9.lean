/- Part 9 of the proof: BEntryG BLib LawBase. -/
import Derived.JoinedCond
import Derived.Test.YtolbngdhgcbmgaaGreatPonce8
namespace Go.Proofs.YtolbngdhgcbmgaaGreat.B
open Go Go.RowKit
variable {U:Uni} {P:Program} {M:Mc U}
theorem entryG_sim {E:Enc U} {n x:Nat} {w:World} {g:G} {vs:List Value} {args:List (A U)} {bs:List (Bool×List (C U))} {os:List (Ob U)} (hp:Part P E g w bs os) (hvs:All2 (ARel P E g (os.map some) w) vs args) :
    Sim P E ⟨w,g.mine,g.St,bs.length,g.β⟩ g (entryG n x args bs os) { tmps:=vs.toArray++Array.replicate (n - vs.toArray.size) undef,defers:=[] } w:=by
  generalize hm : 4*(bs.length+n)+x - os.length=m
  have hg:GLe g (os.map some) w g (os.map some++List.replicate m none) w:=by
    refine⟨Keeps.refl _ _,fun _ hl=>⟨hl,rfl⟩,fun k o hk=>⟨o,?_,Nat.le_refl _,fun _=>⟨rfl,rfl,rfl⟩⟩⟩
    rw[List.getElem?_append_left (List.getElem?_eq_some_iff.1 hk).1];exact hk
  have hlen:=hvs.length
  refine { ext:=⟨rfl,rfl,rfl,Nat.le_refl _,fun _ _ _=>rfl,fun _ _ _ _=>rfl,fun _ _ _ _=>rfl⟩,tms:=?_,bxs:=?_,lbs:=?_,obs:=?_,own:=?_,dfr:=rfl,fix:=fun _ _ _=>rfl,bas:=Nat.le_refl _ }
  · show All2 _ (vs.toArray++Array.replicate (n - vs.toArray.size) undef).toList (args.map AV.one++List.replicate (n - args.length) (.one .top))
    have e:(vs.toArray++Array.replicate (n - vs.toArray.size) undef).toList=vs++List.replicate (n - vs.length) undef:=by simp
    rw[e,hlen]
    refine All2.append (All2.map_right AV.one (fun _ _ hh=>?_) hvs) ?_
    · show ARel P E g (os.map some++List.replicate (4*(bs.length+n)+x - os.length) none) w _ _
      rw[hm];exact ARel.mono hg hh
    · generalize n - args.length=q
      induction q with
      | zero=>trivial
      | succ q ih=>exact⟨trivial,ih⟩
  · intro k fz cells hk
    have hk':(bs.map some++List.replicate n (none:Option (Bool×List (C U))))[k]? = some (some (fz,cells)):=hk
    rcases Nat.lt_or_ge k bs.length with hlt | hge
    · rw[List.getElem?_append_left (by simpa using hlt),List.getElem?_map,List.getElem?_eq_getElem hlt] at hk'
      simp at hk'
      obtain⟨hl,hb⟩:=hp.bxs k fz cells (by rw[List.getElem?_eq_getElem hlt,hk'])
      refine⟨hl,?_⟩
      show BoxRel P E g (os.map some++List.replicate (4*(bs.length+n)+x - os.length) none) w k fz cells
      rw[hm]
      exact hb.keep hl hg (fun b i hx=>⟨hx,rfl,rfl⟩)
    · rw[List.getElem?_append_right (by simpa using hge),List.getElem?_replicate] at hk'
      split at hk'<;>simp at hk'
  · intro k hl
    have hlt:=hp.lbs k hl
    refine⟨bs[k],?_⟩
    show (bs.map some++List.replicate n (none:Option (Bool×List (C U))))[k]? = _
    rw[List.getElem?_append_left (by simpa using hlt),List.getElem?_map,List.getElem?_eq_getElem hlt];rfl
  · intro k o hk
    have hk':(os.map some++List.replicate (4*(bs.length+n)+x - os.length) (none:Option (Ob U)))[k]? = some (some o):=hk
    rcases Nat.lt_or_ge k os.length with hlt | hge
    · rw[List.getElem?_append_left (by simpa using hlt),List.getElem?_map,List.getElem?_eq_getElem hlt] at hk'
      simp at hk'
      exact (hp.obs k o (by rw[List.getElem?_eq_getElem hlt,hk'])).1
    · rw[List.getElem?_append_right (by simpa using hge),List.getElem?_replicate] at hk'
      split at hk'<;>simp at hk'
  · intro b o y hy
    refine⟨hp.own b o y hy,?_⟩
    cases y with
    | st=>exact .inr (.inr ⟨rfl,hy⟩)
    | box k=>exact .inr (.inl ⟨_,by simp,hy⟩)
    | obj k=>exact .inr (.inl ⟨_,by simp,hy⟩)
theorem unC_rel {R:Value→A U→Prop} {R':Value→C U→Prop} (hR:∀ v x,R v (.c x)→R' v x) : ∀ {us:List Value} {l:List (A U)} {cs:List (C U)},unC l=some cs→All2 R us l→All2 R' us cs
  | [],[],cs,h,_=>by simp [unC] at h;subst h;trivial
  | u::us,x::l,cs,h,hh=>by
    cases x with
    | c c =>
      simp only[unC] at h
      split at h
      · rename_i r hr;simp at h;subst h;exact⟨hR _ _ hh.1,unC_rel hR hr hh.2⟩
      · simp at h
    | _=>simp [unC] at h
theorem split_rel {R:Value→A U→Prop} {R':Value→C U→Prop} (hR:∀ v x,R v (.c x)→R' v x) {vs:List Value} : ∀ {bs:List (Bool×List (C U))} {vss:List (List Value)} {rs:List (A U)} {bs':List (Bool×List (C U))} {rs':List (A U)},
    splitB bs rs=some (bs',rs')→vss.length=bs.length→(∀ (i:Nat) us b,vss[i]? = some us→bs[i]? = some b→us.length=b.2.length)→All2 R (vss.flatten++vs) rs →
    All2 R vs rs'∧bs'.length=bs.length∧∀ (i:Nat) b',bs'[i]? = some b'→∃ b us,bs[i]? = some b∧vss[i]? = some us∧b'.1=b.1∧All2 R' us b'.2
  | [],vss,rs,bs',rs',h,hl,_,hh=>by
    simp [splitB] at h;obtain⟨rfl,rfl⟩:=h
    have : vss=[]:=List.eq_nil_of_length_eq_zero (by simpa using hl)
    subst this
    exact⟨by simpa using hh,rfl,fun i b' hb=>by simp at hb⟩
  | b::bs,[],rs,bs',rs',h,hl,_,hh=>by simp at hl
  | b::bs,us::vss,rs,bs',rs',h,hl,hlen,hh=>by
    simp only[splitB] at h
    split at h
    · rename_i cs bs2 r h1 h2
      simp at h;obtain⟨rfl,rfl⟩:=h
      have hul:us.length=b.2.length:=hlen 0 us b rfl rfl
      have ht:=All2.take b.2.length hh
      have hd:=All2.drop b.2.length hh
      rw[← hul] at ht hd
      simp only[List.flatten_cons,List.append_assoc,List.take_left,List.drop_left] at ht hd
      rw[hul] at ht hd
      obtain⟨i1,i2,i3⟩:=split_rel hR h2 (by simpa using hl) (fun i u c hu hc=>hlen (i+1) u c (by simpa using hu) (by simpa using hc)) hd
      refine⟨i1,by simp [i2],fun i b' hb=>?_⟩
      cases i with
      | zero=>simp at hb;subst hb;exact⟨b,us,rfl,rfl,rfl,unC_rel hR h1 ht⟩
      | succ i =>
        obtain⟨c,u,j1,j2,j3⟩:=i3 i b' (by simpa using hb)
        exact⟨c,u,by simpa using j1,by simpa using j2,j3⟩
    · simp at h
theorem boxes_vals {E:Enc U} {fr:Fr} {g:G} {s:S U} {a:Act} {w:World} (h:Sim P E fr g s a w) : ∀ {ks:List Nat} {bs:List (Bool×List (C U))},s.boxesAt ks=some bs→∃ vss : List (List Value),vss.length=bs.length ∧
    (∀ {vs:List Value} {al:List (A U)},All2 (ARel P E g s.ob w) vs al→All2 (ARel P E g s.ob w) (vss.flatten++vs) (boxAs bs++al)) ∧
    ∀ (i k:Nat) us b,ks[i]? = some k→vss[i]? = some us→bs[i]? = some b→us.length=b.2.length∧∀ (j:Nat) v,us[j]? = some v→w.cell? ⟨g.β k,j,none⟩=some v∧(b.1=false→stuck w ⟨g.β k,j,none⟩=false)
  | [],bs,hb=>by
    simp [S.boxesAt] at hb;subst hb
    exact⟨[],rfl,fun hh=>hh,fun i k us b hk=>by simp at hk⟩
  | k::ks,bs,hb=>by
    simp only[S.boxesAt] at hb
    split at hb
    · rename_i b0 r h1 h2
      simp at hb;subst hb
      obtain⟨vss,i1,i2,i3⟩:=boxes_vals h h2
      obtain⟨_,us,hus,hcell⟩:=h.bxs k b0.1 b0.2 h1
      refine⟨us::vss,by simp [i1],fun {vs al} hh=>?_,fun i q u b hq hu hb=>?_⟩
      · simp only[List.flatten_cons,boxAs,List.append_assoc]
        exact All2.append (All2.map_right A.c (fun _ _ hx=>hx) hus) (i2 hh)
      · cases i with
        | zero =>
          simp at hq hu hb;subst hq hu hb
          exact⟨hus.length,fun j v hv=>⟨(hcell j v hv).1,fun hf=>((hcell j v hv).2.1 hf).1⟩⟩
        | succ i=>exact i3 i q u b (by simpa using hq) (by simpa using hu) (by simpa using hb)
    · simp at hb
def CWf (E:Enc U) : C U→Prop
  | .s x=>oneC x=true
  | .sl τ xs _=>VWf E (.dat τ xs)
  | .el τ xs i _=>VWf E (.dat τ xs)∧i<xs.length
  | _=>True
def AWf (E:Enc U) : A U→Prop
  | .c x=>CWf E x
  | .agg cs=>∀ c∈cs,CWf E c
  | .top=>True
theorem CRel.wf {E:Enc U} {g:G} {ob:List (Option (Ob U))} {w:World} {v:Value} {c:C U} (h:CRel P E g ob w v c) : CWf E c:=by
  cases c with
  | s x=>exact h.2
  | sl τ xs f=>exact h.1.wf
  | el τ xs i off=>obtain⟨h1,b,o,cap,_,h2⟩:=h;exact⟨h2.wf,h1⟩
  | _=>trivial
theorem ARel.wf {E:Enc U} {g:G} {ob:List (Option (Ob U))} {w:World} {v:Value} {a:A U} (h:ARel P E g ob w v a) : AWf E a:=by
  cases a with
  | c x=>exact CRel.wf h
  | agg cs=>obtain⟨arr,_,h2⟩:=h;exact fun c hc=>(h2.mem c hc).elim fun _ hh=>hh.wf
  | top=>trivial
theorem BoxRel.wf {E:Enc U} {g:G} {ob:List (Option (Ob U))} {w:World} {k:Nat} {fz:Bool} {cells:List (C U)} (h:BoxRel P E g ob w k fz cells) : ∀ c∈cells,CWf E c:=by
  obtain⟨vs,h1,_⟩:=h
  exact fun c hc=>(h1.mem c hc).elim fun _ hh=>hh.wf
theorem ObRel.wf {E:Enc U} {g:G} {w:World} {k:Nat} {o:Ob U} (h:ObRel E g w k o) : VWf E (.dat o.τ o.xs):=by
  refine .dat _ _ h.1.1.2 fun i hi j d hd=>?_
  obtain⟨b,off,cv,_,hA⟩:=h.2 (by have:=h.1.1.1;omega)
  exact (hA.rel i hi j d hd).wf
theorem contract_ofG (hT:TabOK P M) (hF:FnsOK P M) (hm:P.follows .mixedOrders=true) {f:FuncId} {fn:Func} {body:Code} (hf:P.funcs[f]? = some fn) (hb:fn.body=some body) (N:Nat→NS) (x:Nat) (fm:List Kind) {args rs:List (A U)} {bs bs':List (Bool×List (C U))} {os os':List (Ob U)}
    (h0:(∀ a∈args,AWf M.E a)→(∀ b∈bs,∀ c∈b.2,CWf M.E c)→(∀ o∈os,VWf M.E (.dat o.τ o.xs)∧o.frozen≤o.xs.length)→awp M N body (entryG fn.ntmps x args bs os) (retGQ M bs.length fn.results.toList fm fun r b o=>r=rs∧b=bs'∧o=os')) : GContract P M.E f args bs os rs bs' os':=by
  intro w g0 vs0 hp0 hvs0
  have hs0:=entryG_sim (n:=fn.ntmps) (x:=x) hp0 hvs0
  have h:=h0 (fun a ha=>(hvs0.mem a ha).elim fun _ hh=>hh.wf)
    (fun b hb=>by obtain⟨i,hi⟩:=List.getElem?_of_mem hb;exact (hp0.bxs i b.1 b.2 hi).2.wf)
    (fun o ho=>by
      obtain⟨i,hi⟩:=List.getElem?_of_mem ho
      have hr:=(hp0.obs i o hi).1
      refine⟨hr.wf,?_⟩
      unfold Ob.frozen;split
      · exact Nat.le_refl _
      · rename_i f hf;exact hr.1.2 f hf)
  refine calls_of_wp hf hb ?_
  refine awp_sound hT hF hm N body (Q:=retGQ M bs.length fn.results.toList fm fun r b o=>r=rs∧b=bs'∧o=os') ?_ hs0 h
  have fin:∀ s g a w',retGK M bs.length fn.results.toList fm (fun r b o=>r=rs∧b=bs'∧o=os') s→Sim P M.E ⟨w,g0.mine,g0.St,bs.length,g0.β⟩ g s a w'→a.defers=[]∧∃ v,(results fn a.tmps).run P w'=.ok v w'∧∃ v',Ending.returned v=.returned v'∧RetG P M.E g0 w w' v' rs bs' os':=by
    intro s g a w' hq hs'
    unfold retGK at hq
    split at hq
    · rename_i al bsS hal hbsS
      split at hq
      · rename_i rsA osA hout
        split at hq
        · rename_i bsR rsR hsplit
          obtain⟨rfl,rfl,rfl⟩:=hq
          obtain⟨v,hv,hvr⟩:=results_sound hT hs' hal
          refine⟨hs'.dfr,v,hv,v,rfl,?_⟩
          obtain⟨vs,hall,hback⟩:=ret_all hvr
          obtain⟨vss,hvl,happ,hcells⟩:=boxes_vals hs' hbsS
          obtain⟨hbl,hbat⟩:=boxesAt_spec hbsS
          obtain⟨hlr,gr,c1,c2,c3,c4,c5,c6,c7,c8⟩:=out_core hs' bs.length (happ hall) hout
          have hlenS:bsS.length=bs.length:=by rw[hbl];simp
          have hrange:∀ i,i<bs.length→(List.range bs.length)[i]? = some i:=fun i hi=>by simp [hi]
          obtain⟨d1,d2,d3⟩:=split_rel (R':=CRel P M.E gr (osA.map some) w') (fun _ _ hx=>hx) hsplit hvl (fun i us b hu hb=>by
            have hi:i<bs.length:=by rw[← hlenS];exact (List.getElem?_eq_some_iff.1 hb).1
            exact (hcells i i us b (hrange i hi) hu hb).1) c7
          refine⟨gr,(by rw[d2,hlenS];exact hs'.ext),⟨fun k fz cells hk=>?_,fun k hk=>?_,c8,fun b o y hy=>(c4 b o y hy).1⟩,fun k hk=>?_,fun b o y hb hy=>?_,hback ?_ d1⟩
          · have hkl:k<bs.length:=by rw[← hlenS,← d2];exact (List.getElem?_eq_some_iff.1 hk).1
            obtain⟨b,us,e1,e2,e3,e4⟩:=d3 k (fz,cells) hk
            obtain⟨bx,f1,f2⟩:=hbat k k (hrange k hkl)
            rw[e1] at f2;simp at f2;subst f2
            obtain⟨hul,hcell⟩:=hcells k k us b (hrange k hkl) e2 e1
            have hgl:=(hs'.bxs k b.1 b.2 f1).1
            dsimp only at e3
            subst e3
            refine⟨(c1 k).2 ⟨hkl,hgl⟩,us,e4,fun i u hu=>?_⟩
            have hi:i<b.2.length:=by rw[← hul];exact (List.getElem?_eq_some_iff.1 hu).1
            obtain⟨q1,q2⟩:=c5 k b.1 b.2 i hkl f1 hi
            rw[c2 k hgl]
            exact⟨(hcell i u hu).1,fun hf=>⟨(hcell i u hu).2 hf,q1 hf⟩,q2⟩
          · rw[d2,hlenS];exact ((c1 k).1 hk).1
          · have hkl:=hp0.lbs k hk
            obtain⟨bx,f1,_⟩:=hbat k k (hrange k hkl)
            have hgl:=(hs'.bxs k bx.1 bx.2 f1).1
            rw[c2 k hgl];exact hs'.fix k hkl hgl
          · rcases (c4 b o y hy).2 with hh | hh | hh
            · have : w.heap.size≤b:=hh
              omega
            · exact .inl hh
            · exact .inr hh
          · have hll:(vss.flatten++vs).length=rsA.length:=c7.length
            have:=hall.length
            have:=d1.length
            omega
        · exact hq.elim
      · exact hq.elim
    · exact hq.elim
  intro e s g a w' hq hs'
  cases e with
  | normal=>exact fin s g a w' hq hs'
  | ret=>exact fin s g a w' hq hs'
  | _=>exact hq.elim
end Go.Proofs.YtolbngdhgcbmgaaGreat.B
namespace Go.Proofs.YtolbngdhgcbmgaaGreat.B
open Go Go.RowKit
def FnOK (f:FuncId) (F:FnC Un) : Prop:=∀ args ob rs os,F args=some (ob,rs,os)→(∀ p∈ob,p)→Contract Tryz.prog En f args rs os∧HasBody Tryz.prog f
def FvOK (f:FuncId) (φ:FV Un) : Prop:=HasBody Tryz.prog f∧∀ args ob rs,φ args=some (ob,rs)→(∀ p∈ob,p)→Contract0 Tryz.prog En f (args.map .d) rs
def ClOK (f:FuncId) (F:List (List (DC Un))→Option (FV Un)) : Prop:=HasBody Tryz.prog f∧∀ dl φ args ob rs,F dl=some φ→φ args=some (ob,rs)→(∀ p∈ob,p)→Contract0 Tryz.prog En f (args.map .d++dl.map .box) rs
def GnOK (f:FuncId) (F:List Bool×FnG Un) : Prop:=∀ args bxs obs ob rs bxs' obs',F.2 args bxs obs=some (ob,rs,bxs',obs')→(∀ p∈ob,p)→GContract Tryz.prog En f args bxs obs rs bxs' obs'∧HasBody Tryz.prog f
def UpOK (f:FuncId) (F:FnU Un) : Prop:=∀ τ xs ds ob ys,F τ xs ds=some (ob,ys)→(∀ p∈ob,p)→UContract Tryz.prog En f τ xs ds ys∧HasBody Tryz.prog f
def AllL {α:Type} (R:Nat→α→Prop) : List (Nat×α)→Prop
  | []=>True
  | p::r=>R p.1 p.2∧AllL R r
def tbl {α:Type} (l:List (Nat×α)) (f:Nat) : Option α:=look f l
theorem AllL.look {α:Type} {R:Nat→α→Prop} {f:Nat} {x:α} : ∀ {l:List (Nat×α)},AllL R l→tbl l f=some x→R f x
  | [],_,h=>by simp [tbl,B.look] at h
  | (k,y)::r,hl,h=>by
    simp only[tbl,B.look] at h
    split at h
    · rename_i hb
      have:=Nat.eq_of_beq_eq_true hb
      simp at h;subst this;subst h;exact hl.1
    · exact AllL.look hl.2 h
theorem tbl_ok {l1:List (Nat×FnC Un)} {l2:List (Nat×FV Un)} {l3:List (Nat×(List (List (DC Un))→Option (FV Un)))} {l4:List (Nat×(List Bool×FnG Un))} {l5:List (Nat×FnU Un)}
    (h1:AllL FnOK l1) (h2:AllL FvOK l2) (h3:AllL ClOK l3) (h4:AllL GnOK l4) (h5:AllL UpOK l5) : FnsOK Tryz.prog (mach (tbl l1) (tbl l2) (tbl l3) (tbl l4) (tbl l5)) where
  ups:=fun f F τ xs ds ob ys hf hF hob=>h5.look hf τ xs ds ob ys hF hob
  gns:=fun f ms F args bxs obs ob rs bxs' obs' hf hF hob=>h4.look hf args bxs obs ob rs bxs' obs' hF hob
  fns:=fun f F args ob rs os hf hF hob=>h1.look hf args ob rs os hF hob
  fvb:=fun f φ hf=>(h2.look hf).1
  fvs:=fun f φ args ob rs hf hF hob=>(h2.look hf).2 args ob rs hF hob
  clb:=fun f F hf=>(h3.look hf).1
  clo:=fun f F dl φ args ob rs hf hF hφ hob=>(h3.look hf).2 dl φ args ob rs hF hφ hob
theorem hasBody_of {f : FuncId} {fn : Func} (hf : Tryz.prog.funcs[f]? = some fn) (hb : fn.body = some (bodyOf fn)) (hn : (fn.name == "runtime.NumGoroutine") = false) : HasBody Tryz.prog f := ⟨fn, _, hf, hb, hn⟩
structure Runs (p:Prop) : Prop where
  out : p
theorem fn_contract {M:Mc Un} {fns:FuncId→Option (FnC Un)} {fvs:FuncId→Option (FV Un)} {clo:FuncId→Option (List (List (DC Un))→Option (FV Un))} {gns:FuncId→Option (List Bool×FnG Un)} {ups:FuncId→Option (FnU Un)} (hM:M=mach fns fvs clo gns ups) (hF:FnsOK Tryz.prog (mach fns fvs clo gns ups))
    {f:FuncId} {fn:Func} (hf:Tryz.prog.funcs[f]? = some fn) (hb:fn.body=some (bodyOf fn)) (N:Nat→NS) (x:Nat) (fm:List Kind) {args:List (D Un)} {rs:List (A Un)} {os:List (Ob Un)}
    (h:(∀ a∈args,DWf En a)→Runs (awp M N (bodyOf fn) (entry fn.ntmps x args) (retQ M fn.results.toList fm fun rs' os'=>rs'=rs∧os'=os))) : Contract Tryz.prog En f args rs os:=by
  subst hM
  exact contract_of (M:=mach fns fvs clo gns ups) (tabOK fns fvs clo gns ups) hF mixed hf hb N x fm fun ha=>(h ha).out
def dI (k:IntKind) : D Un→Option Int
  | .d (.v (.s (.int k' n)))=>match decEq k' k with | .isTrue _=>some n | .isFalse _=>none
  | _=>none
def dB : D Un→Option Bool
  | .d (.v (.s (.bool b)))=>some b
  | _=>none
def dStr : D Un→Option ByteArray
  | .d (.v (.s (.string b)))=>some b
  | _=>none
def dL (τ:Ty) : D Un→Option (List (Den τ))
  | .d (.v (.dat τ' xs))=>match instDecidableEqTy τ' τ with | .isTrue h=>some (h ▸ xs) | .isFalse _=>none
  | _=>none
def dS (τ:Ty) : D Un→Option (Den τ)
  | .d (.agg vs)=>dec τ vs
  | _=>none
def dF : D Un→Option (FV Un)
  | .fn φ=>some φ
  | _=>none
def fv_i_i64_to_b (p:Int→Bool) : FV Un:=fun args=>match args with
  | [x0]=>(dI .i64 (.d x0)).bind fun a0=>some ([],[.v (cb (p a0))])
  | _=>none
def pf_i_i64_to_b (φ:FV Un) : Int→Bool:=fun a0=>match φ [.v (.s (.int .i64 a0))] with
  | some (_,[.v (.s (.bool b))])=>b
  | _=>false
def fvo_L_val_L_val_to_b (o:(List Val)→(List Val)→Prop) (p:(List Val)→(List Val)→Bool) : FV Un:=fun args=>match args with
  | [x0,x1]=>(dL .val (.d x0)).bind fun a0=>(dL .val (.d x1)).bind fun a1=>some ([o a0 a1],[.v (cb (p a0 a1))])
  | _=>none
def po_L_val_L_val_to_b (φ:FV Un) : (List Val)→(List Val)→Prop:=fun a0 a1=>match φ [.v (.dat (U:=Un) Ty.val a0),.v (.dat (U:=Un) Ty.val a1)] with
  | some ([q],_)=>q
  | _=>False
def pf_L_val_L_val_to_b (φ:FV Un) : (List Val)→(List Val)→Bool:=fun a0 a1=>match φ [.v (.dat (U:=Un) Ty.val a0),.v (.dat (U:=Un) Ty.val a1)] with
  | some (_,[.v (.s (.bool b))])=>b
  | _=>false
def fv_i_i64_to_i_i64 (p:Int→Int) : FV Un:=fun args=>match args with
  | [x0]=>(dI .i64 (.d x0)).bind fun a0=>some ([],[.v (.s (.int .i64 (p a0)))])
  | _=>none
def pf_i_i64_to_i_i64 (φ:FV Un) : Int→Int:=fun a0=>match φ [.v (.s (.int .i64 a0))] with
  | some (_,[.v (.s (.int _ b))])=>b
  | _=>0
def fvo_S_term_to_b (o:Term→Prop) (p:Term→Bool) : FV Un:=fun args=>match args with
  | [x0]=>(dS .term (.d x0)).bind fun a0=>some ([o a0],[.v (cb (p a0))])
  | _=>none
def po_S_term_to_b (φ:FV Un) : Term→Prop:=fun a0=>match φ [.agg (enc Ty.term a0)] with
  | some ([q],_)=>q
  | _=>False
def pf_S_term_to_b (φ:FV Un) : Term→Bool:=fun a0=>match φ [.agg (enc Ty.term a0)] with
  | some (_,[.v (.s (.bool b))])=>b
  | _=>false
def fvo_S_term_i_i64_to_S_term (o:Term→Int→Prop) (p:Term→Int→Term) : FV Un:=fun args=>match args with
  | [x0,x1]=>(dS .term (.d x0)).bind fun a0=>(dI .i64 (.d x1)).bind fun a1=>some ([o a0 a1],[.agg (enc Ty.term (p a0 a1))])
  | _=>none
def po_S_term_i_i64_to_S_term (φ:FV Un) : Term→Int→Prop:=fun a0 a1=>match φ [.agg (enc Ty.term a0),.v (.s (.int .i64 a1))] with
  | some ([q],_)=>q
  | _=>False
def pf_S_term_i_i64_to_S_term (φ:FV Un) : Term→Int→Term:=fun a0 a1=>match φ [.agg (enc Ty.term a0),.v (.s (.int .i64 a1))] with
  | some (_,[.agg b])=>((dec .term b).getD (dflt .term))
  | _=>(dflt .term)
def fvo_S_term_S_term_to_b (o:Term→Term→Prop) (p:Term→Term→Bool) : FV Un:=fun args=>match args with
  | [x0,x1]=>(dS .term (.d x0)).bind fun a0=>(dS .term (.d x1)).bind fun a1=>some ([o a0 a1],[.v (cb (p a0 a1))])
  | _=>none
def po_S_term_S_term_to_b (φ:FV Un) : Term→Term→Prop:=fun a0 a1=>match φ [.agg (enc Ty.term a0),.agg (enc Ty.term a1)] with
  | some ([q],_)=>q
  | _=>False
def pf_S_term_S_term_to_b (φ:FV Un) : Term→Term→Bool:=fun a0 a1=>match φ [.agg (enc Ty.term a0),.agg (enc Ty.term a1)] with
  | some (_,[.v (.s (.bool b))])=>b
  | _=>false
def fvo_S_rel_S_rel_to_b (o:Rel→Rel→Prop) (p:Rel→Rel→Bool) : FV Un:=fun args=>match args with
  | [x0,x1]=>(dS .rel (.d x0)).bind fun a0=>(dS .rel (.d x1)).bind fun a1=>some ([o a0 a1],[.v (cb (p a0 a1))])
  | _=>none
def po_S_rel_S_rel_to_b (φ:FV Un) : Rel→Rel→Prop:=fun a0 a1=>match φ [.agg (enc Ty.rel a0),.agg (enc Ty.rel a1)] with
  | some ([q],_)=>q
  | _=>False
def pf_S_rel_S_rel_to_b (φ:FV Un) : Rel→Rel→Bool:=fun a0 a1=>match φ [.agg (enc Ty.rel a0),.agg (enc Ty.rel a1)] with
  | some (_,[.v (.s (.bool b))])=>b
  | _=>false
def fvo_S_agg_S_agg_to_b (o:Agg→Agg→Prop) (p:Agg→Agg→Bool) : FV Un:=fun args=>match args with
  | [x0,x1]=>(dS .agg (.d x0)).bind fun a0=>(dS .agg (.d x1)).bind fun a1=>some ([o a0 a1],[.v (cb (p a0 a1))])
  | _=>none
def po_S_agg_S_agg_to_b (φ:FV Un) : Agg→Agg→Prop:=fun a0 a1=>match φ [.agg (enc Ty.agg a0),.agg (enc Ty.agg a1)] with
  | some ([q],_)=>q
  | _=>False
def pf_S_agg_S_agg_to_b (φ:FV Un) : Agg→Agg→Bool:=fun a0 a1=>match φ [.agg (enc Ty.agg a0),.agg (enc Ty.agg a1)] with
  | some (_,[.v (.s (.bool b))])=>b
  | _=>false
theorem dI_eq {k:IntKind} {a:D Un} {n:Int} (h:dI k a=some n) : a=.d (.v (.s (.int k n))):=by
  unfold dI at h;split at h
  · split at h
    · rename_i hh _;subst hh;simp at h;subst h;rfl
    · simp at h
  · simp at h
theorem dB_eq {a:D Un} {n:Bool} (h:dB a=some n) : a=.d (.v (cb n)):=by
  unfold dB at h;split at h
  · simp at h;subst h;rfl
  · simp at h
theorem dStr_eq {a:D Un} {n:ByteArray} (h:dStr a=some n) : a=.d (.v (cs n)):=by
  unfold dStr at h;split at h
  · simp at h;subst h;rfl
  · simp at h
theorem dL_eq {τ:Ty} {a:D Un} {l:List (Den τ)} (h:dL τ a=some l) : a=.d (.v (.dat (U:=Un) τ l)):=by
  unfold dL at h;split at h
  · split at h
    · rename_i hh _;subst hh;simp at h;subst h;rfl
    · simp at h
  · simp at h
theorem dS_eq {τ:Ty} {a:D Un} {x:Den τ} (h:dS τ a=some x) : a=.d (.agg (enc τ x)):=by
  unfold dS at h;split at h
  · rw[enc_back _ _ _ h]
  · simp at h
theorem dF_eq {a:D Un} {φ:FV Un} (h:dF a=some φ) : a=.fn φ:=by
  unfold dF at h;split at h
  · simp at h;subst h;rfl
  · simp at h
theorem dI_mk (k:IntKind) (n:Int) : dI k (.d (.v (.s (.int k n))))=some n:=by
  unfold dI;dsimp only;split
  · rfl
  · rename_i h _;exact absurd rfl h
theorem dL_mk (τ:Ty) (l:List (Den τ)) : dL τ (.d (.v (.dat (U:=Un) τ l)))=some l:=by
  unfold dL;dsimp only;split
  · rfl
  · rename_i h _;exact absurd rfl h
theorem dec_enc : ∀ (τ:Ty) (x:Den τ),dec τ (enc τ x)=some x:=by
  intro τ x
  cases τ<;>first | rfl | (cases x;rfl)
theorem dSk_mk (τ:Ty) (x:Den τ) : dS τ (.d (.agg (enc τ x)))=some x:=dec_enc τ x
theorem pfv_i_i64_to_b (p:Int→Bool) : pf_i_i64_to_b (fv_i_i64_to_b p)=p:=by
  funext a0
  unfold pf_i_i64_to_b fv_i_i64_to_b
  simp only[dI_mk,Option.bind_some]<;>rfl
theorem pfv_i_i64_to_i_i64 (p:Int→Int) : pf_i_i64_to_i_i64 (fv_i_i64_to_i_i64 p)=p:=by
  funext a0
  unfold pf_i_i64_to_i_i64 fv_i_i64_to_i_i64
  simp only[dI_mk,Option.bind_some]<;>rfl
theorem pffvo_L_val_L_val_to_b (o:(List Val)→(List Val)→Prop) (p:(List Val)→(List Val)→Bool) : pf_L_val_L_val_to_b (fvo_L_val_L_val_to_b o p)=p:=by
  funext a0 a1
  unfold pf_L_val_L_val_to_b fvo_L_val_L_val_to_b
  simp only[dL_mk,Option.bind_some]<;>rfl
theorem pofvo_L_val_L_val_to_b (o:(List Val)→(List Val)→Prop) (p:(List Val)→(List Val)→Bool) : po_L_val_L_val_to_b (fvo_L_val_L_val_to_b o p)=o:=by
  funext a0 a1
  unfold po_L_val_L_val_to_b fvo_L_val_L_val_to_b
  simp only[dL_mk,Option.bind_some]<;>rfl
theorem pffvo_S_term_to_b (o:Term→Prop) (p:Term→Bool) : pf_S_term_to_b (fvo_S_term_to_b o p)=p:=by
  funext a0
  unfold pf_S_term_to_b fvo_S_term_to_b
  simp only[dSk_mk,Option.bind_some]<;>rfl
theorem pofvo_S_term_to_b (o:Term→Prop) (p:Term→Bool) : po_S_term_to_b (fvo_S_term_to_b o p)=o:=by
  funext a0
  unfold po_S_term_to_b fvo_S_term_to_b
  simp only[dSk_mk,Option.bind_some]<;>rfl
theorem pffvo_S_term_i_i64_to_S_term (o:Term→Int→Prop) (p:Term→Int→Term) : pf_S_term_i_i64_to_S_term (fvo_S_term_i_i64_to_S_term o p)=p:=by
  funext a0 a1
  unfold pf_S_term_i_i64_to_S_term fvo_S_term_i_i64_to_S_term
  simp only[dI_mk,dSk_mk,Option.bind_some,dec_enc,Option.getD_some]<;>rfl
theorem pofvo_S_term_i_i64_to_S_term (o:Term→Int→Prop) (p:Term→Int→Term) : po_S_term_i_i64_to_S_term (fvo_S_term_i_i64_to_S_term o p)=o:=by
  funext a0 a1
  unfold po_S_term_i_i64_to_S_term fvo_S_term_i_i64_to_S_term
  simp only[dI_mk,dSk_mk,Option.bind_some]<;>rfl
theorem pffvo_S_term_S_term_to_b (o:Term→Term→Prop) (p:Term→Term→Bool) : pf_S_term_S_term_to_b (fvo_S_term_S_term_to_b o p)=p:=by
  funext a0 a1
  unfold pf_S_term_S_term_to_b fvo_S_term_S_term_to_b
  simp only[dSk_mk,Option.bind_some]<;>rfl
theorem pofvo_S_term_S_term_to_b (o:Term→Term→Prop) (p:Term→Term→Bool) : po_S_term_S_term_to_b (fvo_S_term_S_term_to_b o p)=o:=by
  funext a0 a1
  unfold po_S_term_S_term_to_b fvo_S_term_S_term_to_b
  simp only[dSk_mk,Option.bind_some]<;>rfl
theorem pffvo_S_rel_S_rel_to_b (o:Rel→Rel→Prop) (p:Rel→Rel→Bool) : pf_S_rel_S_rel_to_b (fvo_S_rel_S_rel_to_b o p)=p:=by
  funext a0 a1
  unfold pf_S_rel_S_rel_to_b fvo_S_rel_S_rel_to_b
  simp only[dSk_mk,Option.bind_some]<;>rfl
theorem pofvo_S_rel_S_rel_to_b (o:Rel→Rel→Prop) (p:Rel→Rel→Bool) : po_S_rel_S_rel_to_b (fvo_S_rel_S_rel_to_b o p)=o:=by
  funext a0 a1
  unfold po_S_rel_S_rel_to_b fvo_S_rel_S_rel_to_b
  simp only[dSk_mk,Option.bind_some]<;>rfl
theorem pffvo_S_agg_S_agg_to_b (o:Agg→Agg→Prop) (p:Agg→Agg→Bool) : pf_S_agg_S_agg_to_b (fvo_S_agg_S_agg_to_b o p)=p:=by
  funext a0 a1
  unfold pf_S_agg_S_agg_to_b fvo_S_agg_S_agg_to_b
  simp only[dSk_mk,Option.bind_some]<;>rfl
theorem pofvo_S_agg_S_agg_to_b (o:Agg→Agg→Prop) (p:Agg→Agg→Bool) : po_S_agg_S_agg_to_b (fvo_S_agg_S_agg_to_b o p)=o:=by
  funext a0 a1
  unfold po_S_agg_S_agg_to_b fvo_S_agg_S_agg_to_b
  simp only[dSk_mk,Option.bind_some]<;>rfl
class WArg (a:D Un) (P:outParam Prop) : Prop where
  of : DWf En a→P
instance {k:IntKind} {n:Int} : WArg (.d (.v (.s (.int k n)))) (WK k n):=⟨fun h=>by cases h with | s _ h=>exact of_decide_eq_true h⟩
instance {s:ByteArray} : WArg (.d (.v (cs s))) (WStr s):=⟨fun h=>(vwf_cs s).1 h⟩
instance {τ:Ty} {l:List (Den τ)} : WArg (.d (.v (.dat (U:=Un) τ l))) (WL τ l):=⟨fun h=>h⟩
instance {τ:Ty} {x:Den τ} : WArg (.d (.agg (enc τ x))) (WS τ x):=⟨fun h=>h⟩
theorem wfArg {args:List (D Un)} (h:∀ a∈args,DWf En a) {a:D Un} {P:Prop} [w : WArg a P] (ha:a∈args) : P:=w.of (h a ha)
noncomputable instance : DecidableEq (FV Un):=fun _ _=>Classical.propDecidable _
def bI (k:IntKind) : List (DC Un)→Option Int
  | [.v (.s (.int k' n))]=>match decEq k' k with | .isTrue _=>some n | .isFalse _=>none
  | _=>none
def bL (τ:Ty) : List (DC Un)→Option (List (Den τ))
  | [.v (.dat τ' xs)]=>match instDecidableEqTy τ' τ with | .isTrue h=>some (h ▸ xs) | .isFalse _=>none
  | _=>none
def bVs : List (DC Un)→Option (List (V Un))
  | []=>some []
  | .v x::r=>match bVs r with | some l=>some (x::l) | none=>none
  | _=>none
def bS (τ:Ty) (cs:List (DC Un)) : Option (Den τ):=(bVs cs).bind (dec τ)
def bF : List (DC Un)→Option (FV Un)
  | [.fn φ]=>some φ
  | _=>none
theorem bI_eq {k:IntKind} {a:List (DC Un)} {n:Int} (h:bI k a=some n) : a=[.v (.s (.int k n))]:=by
  unfold bI at h;split at h
  · split at h
    · rename_i hh _;subst hh;simp at h;subst h;rfl
    · simp at h
  · simp at h
theorem bL_eq {τ:Ty} {a:List (DC Un)} {l:List (Den τ)} (h:bL τ a=some l) : a=[.v (.dat (U:=Un) τ l)]:=by
  unfold bL at h;split at h
  · split at h
    · rename_i hh _;subst hh;simp at h;subst h;rfl
    · simp at h
  · simp at h
theorem bVs_eq : ∀ {cs:List (DC Un)} {vs:List (V Un)},bVs cs=some vs→cs=vs.map .v
  | [],vs,h=>by simp [bVs] at h;subst h;rfl
  | .v x::r,vs,h=>by
    simp only[bVs] at h
    split at h
    · rename_i l hl;simp at h;subst h;rw[bVs_eq hl];rfl
    · simp at h
  | .fn _::_,vs,h=>by simp [bVs] at h
theorem bS_eq {τ:Ty} {a:List (DC Un)} {x:Den τ} (h:bS τ a=some x) : a=(enc τ x).map .v:=by
  unfold bS at h
  rw[Option.bind_eq_some_iff] at h
  obtain⟨vs,h1,h2⟩:=h
  rw[bVs_eq h1,enc_back _ _ _ h2]
theorem bF_eq {a:List (DC Un)} {φ:FV Un} (h:bF a=some φ) : a=[.fn φ]:=by
  unfold bF at h;split at h
  · simp at h;subst h;rfl
  · simp at h
instance {k:IntKind} {n:Int} : WArg (.box [.v (.s (.int k n))]) (WK k n):=⟨fun h=>by cases h _ (by simp:DC.v (.s (.int k n))∈_) with | s _ h=>exact of_decide_eq_true h⟩
instance {s:ByteArray} : WArg (.box [.v (cs s)]) (WStr s):=⟨fun h=>(vwf_cs s).1 (h _ (by simp:DC.v (cs s)∈_))⟩
instance {τ:Ty} {l:List (Den τ)} : WArg (.box [.v (.dat (U:=Un) τ l)]) (WL τ l):=⟨fun h=>h _ (by simp:DC.v (V.dat (U:=Un) τ l)∈_)⟩
instance {τ:Ty} {x:Den τ} : WArg (.box ((enc τ x).map .v)) (WS τ x):=⟨fun h d hd=>h _ (List.mem_map_of_mem hd : DC.v d∈_)⟩
def aI (k:IntKind) : A Un→Option Int
  | .c (.s (.int k' n))=>match decEq k' k with | .isTrue _=>some n | .isFalse _=>none
  | _=>none
def aL (τ:Ty) : A Un→Option (List (Den τ))
  | .c (.sl τ' xs false)=>match instDecidableEqTy τ' τ with | .isTrue h=>some (h ▸ xs) | .isFalse _=>none
  | _=>none
def cV0 : C Un→Option (V Un)
  | .s x=>some (.s x)
  | .sl τ xs false=>some (.dat τ xs)
  | _=>none
def cVs : List (C Un)→Option (List (V Un))
  | []=>some []
  | c::cs=>match cV0 c,cVs cs with | some v,some vs=>some (v::vs) | _,_=>none
def aS (τ:Ty) : A Un→Option (Den τ)
  | .agg cs=>(cVs cs).bind (dec τ)
  | _=>none
def oL (τ:Ty) (o:Ob Un) : Option (List (Den τ)) :=
  match Nat.beq o.ver 0,o.live with
  | true,true=>match instDecidableEqTy o.τ τ with | .isTrue h=>some (h ▸ o.xs) | .isFalse _=>none
  | _,_=>none
def oM (τ:Ty) (o:Ob Un) : Option (List (Den τ)) :=
  match o.fr with
  | some 0=>oL τ o
  | _=>none
theorem aI_eq {k:IntKind} {a:A Un} {n:Int} (h:aI k a=some n) : a=.c (.s (.int k n)):=by
  unfold aI at h;split at h
  · split at h
    · rename_i hh _;subst hh;simp at h;subst h;rfl
    · simp at h
  · simp at h
theorem aL_eq {τ:Ty} {a:A Un} {l:List (Den τ)} (h:aL τ a=some l) : a=.c (.sl (U:=Un) τ l false):=by
  unfold aL at h;split at h
  · split at h
    · rename_i hh _;subst hh;simp at h;subst h;rfl
    · simp at h
  · simp at h
theorem cVs_eq : ∀ {cs:List (C Un)} {vs:List (V Un)},cVs cs=some vs→cs=vs.map C.ofV
  | [],vs,h=>by simp [cVs] at h;subst h;rfl
  | c::cs,vs,h=>by
    simp only[cVs] at h
    split at h
    · rename_i v r h1 h2
      simp at h;subst h
      rw[cVs_eq h2]
      unfold cV0 at h1
      split at h1
      · simp at h1;subst h1;rfl
      · simp at h1;subst h1;rfl
      · simp at h1
    · simp at h
theorem aS_eq {τ:Ty} {a:A Un} {x:Den τ} (h:aS τ a=some x) : a=.agg (encC τ x):=by
  unfold aS at h;split at h
  · rw[Option.bind_eq_some_iff] at h
    obtain⟨vs,h1,h2⟩:=h
    rw[cVs_eq h1,encC,enc_back _ _ _ h2]
  · simp at h
theorem oL_eq {τ:Ty} {o:Ob Un} {l:List (Den τ)} (h:oL τ o=some l) : o=⟨0,τ,l,o.fr,true⟩:=by
  obtain⟨ver,τ',xs,fr,live⟩:=o
  cases hv : Nat.beq ver 0 with
  | false=>simp [oL,hv] at h
  | true =>
    cases live with
    | false=>simp [oL,hv] at h
    | true =>
      simp only[oL,hv] at h
      have:=Nat.eq_of_beq_eq_true hv
      subst this
      split at h
      · rename_i hh _;subst hh;simp at h;subst h;rfl
      · simp at h
theorem oM_eq {τ:Ty} {o:Ob Un} {l:List (Den τ)} (h:oM τ o=some l) : o=⟨0,τ,l,some 0,true⟩:=by
  unfold oM at h
  split at h
  · rename_i hf
    have:=oL_eq h
    rw[hf] at this;exact this
  · simp at h
class WArgA (a:A Un) (P:outParam Prop) : Prop where
  of : AWf En a→P
instance {k:IntKind} {n:Int} : WArgA (.c (.s (.int k n))) (WK k n):=⟨fun h=>of_decide_eq_true h⟩
instance {s:ByteArray} : WArgA (.c (.s (.string s))) (WStr s):=⟨fun h=>of_decide_eq_true h⟩
instance {τ:Ty} {l:List (Den τ)} {f:Bool} : WArgA (.c (.sl (U:=Un) τ l f)) (WL τ l):=⟨fun h=>h⟩
instance {τ:Ty} {x:Den τ} : WArgA (.agg (encC τ x)) (WS τ x):=⟨fun h d hd=>by
  have:=h (C.ofV d) (List.mem_map_of_mem hd)
  cases d with
  | s y=>exact .s _ this
  | dat τ' xs=>exact this⟩
theorem wfArgA {args:List (A Un)} (h:∀ a∈args,AWf En a) {a:A Un} {P:Prop} [w : WArgA a P] (ha:a∈args) : P:=w.of (h a ha)
def frz (fr:Option Nat) (n:Nat) : Nat:=match fr with | none=>n | some j=>j
theorem wfObs {os:List (Ob Un)} (h:∀ o∈os,VWf En (.dat o.τ o.xs)∧o.frozen≤o.xs.length) {τ:Ty} {l:List (Den τ)} {fr:Option Nat} (ho:(⟨0,τ,l,fr,true⟩ : Ob Un)∈os) : WL τ l:=(h _ ho).1
theorem gn_contract {M:Mc Un} {fns:FuncId→Option (FnC Un)} {fvs:FuncId→Option (FV Un)} {clo:FuncId→Option (List (List (DC Un))→Option (FV Un))} {gns:FuncId→Option (List Bool×FnG Un)} {ups:FuncId→Option (FnU Un)} (hM:M=mach fns fvs clo gns ups) {nb:Nat} {bs:List (Bool×List (C Un))} (hn:nb=bs.length) (hF:FnsOK Tryz.prog (mach fns fvs clo gns ups))
    {f:FuncId} {fn:Func} (hf:Tryz.prog.funcs[f]? = some fn) (hb:fn.body=some (bodyOf fn)) (N:Nat→NS) (x:Nat) (fm:List Kind) {args rs:List (A Un)} {bs':List (Bool×List (C Un))} {os os':List (Ob Un)}
    (h:(∀ a∈args,AWf En a)→(∀ b∈bs,∀ c∈b.2,CWf En c)→(∀ o∈os,VWf En (.dat o.τ o.xs)∧o.frozen≤o.xs.length)→Runs (awp M N (bodyOf fn) (entryG fn.ntmps x args bs os) (retGQ M nb fn.results.toList fm fun r b o=>r=rs∧b=bs'∧o=os'))) : GContract Tryz.prog En f args bs os rs bs' os':=by
  subst hM;subst hn
  exact contract_ofG (M:=mach fns fvs clo gns ups) (tabOK fns fvs clo gns ups) hF mixed hf hb N x fm fun h1 h2 h3=>(h h1 h2 h3).out
theorem All2.weak {g:G} {ob:List (Option (Ob Un))} {w:World} : ∀ {vs:List Value} {cs:List (C Un)},All2 (CRel Tryz.prog En g ob w) vs cs→All2 (CRel Tryz.prog En g ob w) vs (cs.map C.weak)
  | [],[],_=>trivial
  | v::vs,c::cs,h=>⟨by
      have h0:=h.1
      cases c with
      | sl τ xs f=>exact⟨h0.1,fun hf=>by simp at hf⟩
      | _=>exact h0,All2.weak h.2⟩
theorem GContract.weak {f:FuncId} {args rs:List (A Un)} {bs bs':List (Bool×List (C Un))} {os os':List (Ob Un)} (h:GContract Tryz.prog En f args (bs.map fun b=>(b.1,b.2.map C.weak)) os rs bs' os') : GContract Tryz.prog En f args bs os rs bs' os':=by
  intro w g vs hp hvs
  refine h w g vs ⟨fun k fz cells hk=>?_,fun k hk=>by simpa using hp.lbs k hk,hp.obs,hp.own⟩ hvs
  rw[List.getElem?_map] at hk
  cases hb : bs[k]? with
  | none=>rw[hb] at hk;simp at hk
  | some b =>
    rw[hb] at hk;simp at hk;obtain⟨rfl,rfl⟩:=hk
    obtain⟨h1,us,h2,h3⟩:=hp.bxs k b.1 b.2 hb
    exact⟨h1,us,h2.weak,h3⟩
theorem itersK_mk {U:Uni} {n:NS} {body:S U→(Exit→S U→Prop)→Prop} {Q:Exit→S U→Prop} {s:S U} (k:Nat) (h:iterK n body Q k s) : itersK n body Q s:=⟨k,h⟩
theorem itersK_get {U:Uni} {n:NS} {body:S U→(Exit→S U→Prop)→Prop} {Q:Exit→S U→Prop} {s:S U} (h:itersK n body Q s) : ∃ k,iterK n body Q k s:=h
theorem mpr {a b:Prop} (h:a=b) (x:b) : a:=h ▸ x
theorem ite_some {α:Type} {c:Prop} [Decidable c] {x y:Option α} {r:α} (h:(if c then x else y)=some r) : (c∧x=some r)∨(¬ c∧y=some r):=by
  split at h
  · exact .inl ⟨by assumption,h⟩
  · exact .inr ⟨by assumption,h⟩
theorem ob_some {α:Type} {c:Prop} [Decidable c] {x:Option α} {r:α} (h:(if c then x else none)=some r) : c∧x=some r:=by
  split at h
  · exact⟨by assumption,h⟩
  · simp at h
theorem bind_some {α β:Type} {x:Option α} {f:α→Option β} {r:β} (h:(x >>= f)=some r) : ∃ o,x=some o∧f o=some r:=by
  cases x with
  | none=>simp at h
  | some o=>exact⟨o,rfl,h⟩
theorem bfalse {b:Bool} (h:¬ b=true) : b=false:=by cases b<;>simp_all
theorem cnd_t {b:Bool} {X Y:Prop} (h:b=true) (x:X) : cnd b X Y:=by subst h;exact x
theorem cnd_f {b:Bool} {X Y:Prop} (h:b=false) (y:Y) : cnd b X Y:=by subst h;exact y
theorem wrap_id {n:Int} (h:-9223372036854775808≤n∧n≤9223372036854775807) : IntKind.i64.wrap n=n:=IntWalk.i64_in n h
theorem wrap_succ {i n:Nat} (h:i<n) (hn:n≤9223372036854775807) : IntKind.i64.wrap ((i:Int)+1)=((i+1:Nat):Int):=by
  rw[wrap_id (by omega)];omega
theorem drop_cons {α:Type} {l r:List α} {x:α} {i:Nat} (h:l.drop i=x::r) : i<l.length∧(∀ d,l.getD i d=x)∧l.drop (i+1)=r∧x∈l:=by
  have hi:i<l.length:=by
    rcases Nat.lt_or_ge i l.length with h1 | h1
    · exact h1
    · rw[List.drop_of_length_le h1] at h;simp at h
  rw[List.drop_eq_getElem_cons hi] at h
  simp only[List.cons.injEq] at h
  obtain⟨rfl,rfl⟩:=h
  exact⟨hi,fun d=>by rw[List.getD_eq_getElem?_getD,List.getElem?_eq_getElem hi];rfl,rfl,List.getElem_mem hi⟩
theorem drop_len {α:Type} {l r:List α} {i:Nat} (h:l.drop i=r) : r.length=l.length - i:=by rw[← h];simp
def iterS {V R:Type} (step:V→Option (V ⊕ R)) : Nat→V→Option R
  | 0,_=>none
  | n+1,v=>match step v with
    | none=>none
    | some (.inl v')=>iterS step n v'
    | some (.inr r)=>some r
open Classical in
noncomputable def loopO {V R:Type} (step:V→Option (V ⊕ R)) (v:V) : Option R :=
  if h : ∃ n r,iterS step n v=some r then some (Classical.choose (Classical.choose_spec h)) else none
theorem iterS_more {V R:Type} {step:V→Option (V ⊕ R)} : ∀ {n:Nat} {v:V} {r:R},iterS step n v=some r→∀ m,n≤m→iterS step m v=some r
  | 0,v,r,h,_,_=>by simp [iterS] at h
  | n+1,v,r,h,m,hm=>by
    obtain⟨m',rfl⟩ : ∃ m',m=m'+1:=⟨m - 1,by omega⟩
    simp only[iterS] at h ⊢
    cases hs : step v with
    | none=>rw[hs] at h;simp at h
    | some o =>
      rw[hs] at h
      cases o with
      | inl v'=>exact iterS_more (n:=n) h m' (by omega)
      | inr r'=>exact h
theorem loopO_iff {V R:Type} {step:V→Option (V ⊕ R)} {v:V} {r:R} : loopO step v=some r↔∃ n,iterS step n v=some r:=by
  constructor
  · intro h
    unfold loopO at h
    split at h
    · rename_i hh
      have:=Classical.choose_spec (Classical.choose_spec hh)
      simp only[Option.some.injEq] at h
      rw[h] at this
      exact⟨_,this⟩
    · simp at h
  · rintro ⟨n,hn⟩
    have hh:∃ n r,iterS step n v=some r:=⟨n,r,hn⟩
    unfold loopO
    rw[dif_pos hh]
    have h1:=Classical.choose_spec (Classical.choose_spec hh)
    have h2:=iterS_more h1 (max (Classical.choose hh) n) (Nat.le_max_left _ _)
    have h3:=iterS_more hn (max (Classical.choose hh) n) (Nat.le_max_right _ _)
    rw[h2] at h3
    exact h3
def stepB {V R:Type} (f:V→Option R) : Option (V ⊕ R)→Option R
  | none=>none
  | some (.inl v)=>f v
  | some (.inr r)=>some r
@[simp] theorem stepB_none {V R:Type} (f:V→Option R) : stepB f (none:Option (V ⊕ R))=none:=rfl
@[simp] theorem stepB_inl {V R:Type} (f:V→Option R) (v:V) : stepB f (some (.inl v) : Option (V ⊕ R))=f v:=rfl
@[simp] theorem stepB_inr {V R:Type} (f:V→Option R) (r:R) : stepB f (some (.inr r) : Option (V ⊕ R))=some r:=rfl
theorem loopO_eq {V R:Type} (step:V→Option (V ⊕ R)) (v:V) : loopO step v=stepB (loopO step) (step v):=by
  have key:∀ r,loopO step v=some r↔stepB (loopO step) (step v)=some r:=by
    intro r
    rw[loopO_iff]
    cases hs : step v with
    | none =>
      refine⟨fun ⟨n,hn⟩=>?_,fun h=>by simp at h⟩
      cases n with
      | zero=>simp [iterS] at hn
      | succ n=>simp [iterS,hs] at hn
    | some o =>
      cases o with
      | inl v' =>
        rw[stepB_inl,loopO_iff]
        refine⟨fun ⟨n,hn⟩=>?_,fun ⟨n,hn⟩=>⟨n+1,by simp only[iterS,hs];exact hn⟩⟩
        cases n with
        | zero=>simp [iterS] at hn
        | succ n=>exact⟨n,by simpa only [iterS,hs] using hn⟩
      | inr r' =>
        rw[stepB_inr]
        refine⟨fun ⟨n,hn⟩=>?_,fun h=>⟨1,by simp only[iterS,hs];exact h⟩⟩
        cases n with
        | zero=>simp [iterS] at hn
        | succ n=>simpa only [iterS,hs] using hn
  cases h : loopO step v with
  | some r=>exact ((key r).1 h).symm
  | none =>
    cases h2 : stepB (loopO step) (step v) with
    | none=>rfl
    | some r=>rw[(key r).2 h2] at h;simp at h
theorem loop_run {V R:Type} {step:V→Option (V ⊕ R)} {I:V→Prop} {J:R→Prop} (hstep:∀ v o,step v=some o→(match o with | .inl v'=>I v' | .inr r=>J r)→I v) {v:V} {r:R} (h:loopO step v=some r) (hJ:J r) : I v:=by
  obtain⟨n,hn⟩:=loopO_iff.1 h
  clear h
  induction n generalizing v with
  | zero=>simp [iterS] at hn
  | succ n ih =>
    simp only[iterS] at hn
    cases hs : step v with
    | none=>rw[hs] at hn;simp at hn
    | some o =>
      rw[hs] at hn
      cases o with
      | inl v'=>exact hstep v _ hs (ih hn)
      | inr r'=>simp at hn;subst hn;exact hstep v _ hs hJ
end Go.Proofs.YtolbngdhgcbmgaaGreat.B
namespace Go.Proofs.YtolbngdhgcbmgaaGreat
open Go.RowKit Go.ChangeShapes
theorem trodAll_ext {H:Type} {enc:TypeId×Value→H} {P:Program} (hl:laidOutB P=true) {W W':World} (hb:Ext W W') :
    ∀ {ts:List TypeId} {vs:List Value} {ds:List (DataW H)} {ps:List MemPlace},(∀ t∈ts,P.readableRec t=true∧t<P.types.size) →
      DataW.TrodAll enc P W 0 (fun _=>true) true ts vs ds ps→(∀ x∈ps,x.block<W.heap.size) →
      DataW.TrodAll enc P W' 0 (fun b=>decide (b<W.heap.size)) true ts vs ds ps:=by
  intro ts
  induction ts with
  | nil =>
    intro vs ds ps _ h _
    cases vs<;>cases ds<;>first | exact h | exact h.elim
  | cons t ts ih =>
    intro vs ds ps hr h hlt
    cases vs with
    | nil=>cases ds<;>exact h.elim
    | cons v vs =>
      cases ds with
      | nil=>exact h.elim
      | cons d ds =>
        obtain⟨p,q,hd,hrest,rfl⟩:=h
        have h0:=hr t (by simp)
        refine⟨p,q,Below.trod hl h0.1 h0.2 hd hb (fun x hx=>hlt x (by simp [hx])),ih (fun t ht=>hr t (by simp [ht])) hrest (fun x hx=>hlt x (by simp [hx])),rfl⟩
theorem trodAll_length {H:Type} {enc:TypeId×Value→H} {P:Program} {W:World} {b:Nat} {sp:Nat→Bool} {hd:Bool} :
    ∀ {ts:List TypeId} {vs:List Value} {ds:List (DataW H)} {ps:List MemPlace},DataW.TrodAll enc P W b sp hd ts vs ds ps→ds.length=ts.length∧vs.length=ts.length:=by
  intro ts
  induction ts with
  | nil=>intro vs ds ps h;cases vs<;>cases ds<;>first | exact h.elim | simp
  | cons t ts ih =>
    intro vs ds ps h
    cases vs with
    | nil=>cases ds<;>exact h.elim
    | cons v vs =>
      cases ds with
      | nil=>exact h.elim
      | cons d ds=>obtain⟨p,q,_,hrest,_⟩:=h;have:=ih hrest;simp [this]
theorem law_post {H:Type} {enc:TypeId×Value→H} {P:Program} {f:Func} {s:ChangeSpec} {tb:TypeId} {W W':World} {args:Array Value} {ds gs:List (DataW H)} {before:List MemPlace}
    (hl:laidOutB P=true) (hr:f.params.toList.all (fun t=>P.readableRec t && decide (t<P.types.size))=true)
    (hres:f.resultTypes=#[tb]) (hub:P.underlying tb=some .bool) (hvars:s.vars=[])
    (hspec:∀ l : List (DataW H),l.length=f.params.toList.length→(s.fn H l).results=[.lit (.bool true)]∧(s.fn H l).args=l∧(s.fn H l).vars=[])
    (hW:DataW.Whole enc P f.params.toList s.vars false W args.toList ds gs before) (hb:Ext W W') :
    s.post enc P f false true false false W args (.bool true) W':=by
  have hW0:=hW
  obtain⟨p,q,hA,hV,rfl,hfz,hnd⟩:=hW
  rw[hvars] at hV
  have hgs:gs=[]∧q=[]:=by
    cases gs with
    | nil=>exact⟨rfl,hV⟩
    | cons g gs=>exact hV.elim
  obtain⟨rfl,rfl⟩:=hgs
  have hlen:=(trodAll_length hA).1
  obtain⟨e1,e2,e3⟩:=hspec (ds++[]) (by simpa using hlen)
  have hr':∀ t∈f.params.toList,P.readableRec t=true∧t<P.types.size:=by
    intro t ht
    have:=List.all_eq_true.1 hr t ht
    simpa using this
  refine⟨ds,[],p++[],[],p,[],hW0,?_,?_,?_,Below.frame hb _,fun h=>by cases h⟩
  · rw[e1,hres];exact trodAll_cons_mk (shut_bool hub _) trodAll_mk0
  · rw[e2,List.append_nil];exact trodAll_ext hl hb hr' hA (fun x hx=>by simpa using hW0.lt x (by simpa using hx))
  · rw[hvars,e3];rfl
end Go.Proofs.YtolbngdhgcbmgaaGreat
