/- Part 21 of the proof: Linsert. -/
import Derived.Shelf.Spec.SlicesInsertGrow
import Derived.Test.YtjfpbchdcbhfgaaGreatNsrt20
namespace Go.Proofs.YtjfpbchdcbhfgaaGreat.B
open Go Go.RowKit Go.Shelf Go.Lib
set_option maxRecDepth 1000000
set_option linter.unusedVariables false
set_option linter.unusedSimpArgs false
theorem z1d6 {P:Program} (w:World) (tS tR e:TypeId) (ht:P.underlying tS=some (.slice e)) (size:Nat) (hz:∀ w,(Go.sizeOf e).run P w=.ok size w)
    (ab ao bb bo:Nat) (la ca lb cb:Nat) (tA tB:TypeId) (kA kB:Nat)
    (hsa:w.shape? ab=some (tA,kA)) (hsb:w.shape? bb=some (tB,kB)) (hkA:kA≠0) (hkB:kB≠0)
    (hst:stuck w ⟨bb,bo,none⟩=false) (hap:ab=bb→¬ (ao<bo+lb*size∧bo<ao+la*size)) :
    (Extern.SlicesOverlaps.overlaps #[tS,tS] #[tR] #[.slice (some ⟨ab,ao,none⟩) la ca,.slice (some ⟨bb,bo,none⟩) lb cb]).run P w=.ok (.bool false) w:=by
  have hfb:=zjn hst
  have hmb:=z1ur hst hsb
  change Sem.run P (α:=Value) (do
    let some t := (#[tS, tS] : Array TypeId)[0]? | Go.stuck "slices.overlaps: no parameter types"
    let .slice elem ← underlying t | Go.stuck "slices.overlaps: slice type expected"
    let size ← sizeOf elem
    match (some (⟨ab,ao,none⟩ : Addr) : Option Addr),(some (⟨bb,bo,none⟩ : Addr) : Option Addr) with
    | some a,some b =>
      if la=0∨lb=0∨size=0 then pure (Value.bool false)
      else if a.block != b.block && (← frozen a) && (← frozen b) then unsupported .addressObserved
      else do
        if a.block != b.block then do
          noView a;noView b
          if ← mayBeOne a b then return Value.bool ((← choose (.extern "sameAddr.stringBytes" 2)) == 1)
        pure (Value.bool (a.block == b.block && a.off<b.off+lb*size && b.off<a.off+la*size))
    | _,_=>pure (Value.bool false)) w=_
  by_cases h0 : la=0∨lb=0∨size=0
  · simp [run_underlying ht,hz,h0]
  · cases kB with
    | zero=>exact absurd rfl hkB
    | succ kB =>
      cases kA with
      | zero=>exact absurd rfl hkA
      | succ kA =>
        by_cases he : ab=bb
        · have hap':=hap he
          subst he
          simp [run_underlying ht,hz,h0]
          intro h1
          omega
        · have hnb:(ab != bb)=true:=by simpa using he
          have hnb':(ab == bb)=false:=by simpa using he
          cases hfa : w.frozen? ⟨ab,ao,none⟩<;>cases hma : w.frozen? ⟨ab,kA+1,none⟩ <;>
          simp [run_underlying ht,hz,h0,hnb,hnb',frozen,noView,viewAt,mayBeOne,stringish,shape,Sem.run,hsa,hsb,hfb,hmb,hfa,hma]
theorem zdo {P:Program} (w:World) (dT sT ty elem:TypeId) (b o dLen dCap:Nat) (a:Addr) (sLen sCap:Nat) (cs:List Value) (k:Nat)
  (hu:P.underlying dT=some (.slice elem)) (hs:(P.info? elem).map (·.size)=some k) (hn:cs.length=Nat.min sLen dLen*k)
  (hsrc:∀ j v,cs[j]? = some v→w.cell? (a.add j)=some v) (hc:∀ j,j<cs.length→(w.cell? ⟨b,o+j,none⟩).isSome=true) (hf:∀ j,j<cs.length→w.frozen? ⟨b,o+j,none⟩=false) (h1:∀ v∈cs,v.oneCell'=true) :
  (Builtin.copy_ #[dT,sT] ty #[.slice (some ⟨b,o,none⟩) dLen dCap,.slice (some a) sLen sCap]).run P w=.ok (goInt (Nat.min sLen dLen)) (w.setCells b o cs):=by
 have hl:=run_loadCells_list (P:=P) w a cs hsrc
 have hst:=run_storeCells_cells (P:=P) b o cs 0 w (by simpa using hc) (by simpa using hf) h1
 cases hq : P.info? elem with
 | none=>simp [hq] at hs
 | some i =>
  have hi:i.size=k:=by simpa [hq] using hs
  simp [Builtin.copy_,run_underlying hu,Builtin.lenOf,Builtin.firstCells,sizeOf,typeInfo,hq,hi,← hn,hl,hst]
  try rw[hn]
abbrev z1d7 : FuncId:=223
theorem zxi : ∃ i z,Tryz.prog.info? 37=some i∧i.zero=some z∧i.size=3∧i.bytes≤100000∧0<i.bytes∧z.cells.size=3:=by
 obtain⟨bytes,i,z,hb,h1',h1,h0,h2,h3,h4,h5,h6⟩:=slOf (t:=56) (e:=37) (τ:=.val) (by kernel_rfl)
 exact⟨i,z,h2,h5,h3,by omega,by omega,h6⟩
theorem zb3 : Tryz.prog.underlying 56=some (.slice 37):=by kernel_rfl
set_option maxHeartbeats 4000000 in
theorem z1zk (b off n c i vb voff vc:Nat) (cs vs:List Value) (w:World) (hi:i<n) (hroom:n+1≤c) (hbig:n≤1000000)
  (hcl:cs.length=n*3) (hvl:vs.length=3)
  (hcs:∀ j v,cs[j]? = some v→w.cell? ⟨b,off+j,none⟩=some v) (hsp:∀ j,j<(n+1)*3→(w.cell? ⟨b,off+j,none⟩).isSome=true) (hfz:∀ j,j<(n+1)*3→w.frozen? ⟨b,off+j,none⟩=false)
  (hvs:∀ j v,vs[j]? = some v→w.cell? ⟨vb,voff+j,none⟩=some v) (h1c:∀ v∈cs,v.oneCell'=true) (h1v:∀ v∈vs,v.oneCell'=true)
  (tA tB:TypeId) (kA kB:Nat) (hsa:w.shape? vb=some (tA,kA)) (hsb:w.shape? b=some (tB,kB)) (hkA:kA≠0) (hkB:kB≠0) (hst:stuck w ⟨b,off+(i+1)*3,none⟩=false)
  (hap:vb=b→∀ j,j<(n+1)*3→∀ q,q<3→off+j≠voff+q) :
  Calls Tryz.prog z1d7 #[.slice (some ⟨b,off,none⟩) n c,.int .i64 i,.slice (some ⟨vb,voff,none⟩) 1 vc] w fun e w' =>
   e=.returned (.slice (some ⟨b,off,none⟩) (n+1) c)∧w'=(w.drew.setCells b (off+(i+1)*3) (cs.drop (i*3))).setCells b (off+i*3) vs:=by
 have hsz:(Tryz.prog.info? 37).map (·.size)=some 3:=by
  obtain⟨i0,z0,h1,h2,h3,_⟩:=zxi
  rw[h1];simp [h3]
 have hzz:∀ w,(Go.sizeOf 37).run Tryz.prog w=.ok 3 w:=Tryz.sizeOf37
 have hov0:∀ lb cb,lb≤n - i→(callFunc 242 #[.slice (some ⟨vb,voff,none⟩) 1 vc,.slice (some ⟨b,off+(i+1)*3,none⟩) lb cb]).run Tryz.prog w=.ok (.value (.bool false)) w:=fun lb cb hlb=>by
  rw[run_callFunc_extern Tryz.func242 (by kernel_rfl) (by kernel_rfl) (by kernel_rfl) (e:=Extern.SlicesOverlaps.overlaps #[56,56] #[4]) (by kernel_rfl),
   z1d6 w 56 4 37 zb3 3 hzz vb voff b (off+(i+1)*3) 1 vc lb cb tA tB kA kB hsa hsb hkA hkB hst (fun e=>?_)]
  ·rfl
  ·rintro ⟨g1,g2⟩
   by_cases g3 : voff<off+(i+1)*3
   ·exact hap e ((i+1)*3) (by omega) (off+(i+1)*3 - voff) (by omega) (by omega)
   ·exact hap e (voff - off) (by omega) 0 (by omega) (by omega)
 have hov1:=fun cb=>hov0 (n+1 - (i+1)) cb (by omega)
 have hov2:=fun cb=>hov0 (n - i) cb (by omega)
 have hz2:¬ ((i:Int)=(n:Int)):=by omega
 have hdl:(cs.drop (i*3)).length=(n - i)*3:=by rw[List.length_drop,hcl];omega
 have mixed:Tryz.prog.follows .mixedOrders=true:=by kernel_rfl
 have hw1:IntKind.i64.wrap ((i:Int)+1)=(i:Int)+1:=by rw[IntKind.wrap_i64];omega
 have hw2:IntKind.i64.wrap ((n:Int)+1)=(n:Int)+1:=by rw[IntKind.wrap_i64];omega
 have hb1:(0:Int)≤(i:Int)+1:=by omega
 have hin:i≤n:=by omega
 have htn:((i:Int)+1).toNat=i+1:=by omega
 have htn2:((n:Int)+1).toNat=n+1:=by omega
 have hb2:¬ (c=i+1):=by omega
 have hb3:(i:Int)≤(n:Int)+1:=by omega
 have hb4:¬ (c=i):=by omega
 have hb5:(n:Int)+1≤c:=by omega
 have hb6:¬ ((c:Int)<(n:Int)+1):=by omega
 have hcp1:∀ ty l dc sl sc,Nat.min sl l=n - i→(Builtin.copy_ #[56,56] ty #[.slice (some ⟨b,off+(i+1)*3,none⟩) l dc,.slice (some ⟨b,off+i*3,none⟩) sl sc]).run Tryz.prog w.drew=  .ok (goInt ((n - i:Nat):Int)) (w.drew.setCells b (off+(i+1)*3) (cs.drop (i*3))):=fun ty l dc sl sc hl=>by
  have:=zdo w.drew 56 56 ty 37 b (off+(i+1)*3) l dc ⟨b,off+i*3,none⟩ sl sc (cs.drop (i*3)) 3 zb3 hsz (by rw[hl,hdl])
   (fun j v hj=>by rw[Addr.add_lit,Nat.add_assoc];exact hcs (i*3+j) v (by rwa [List.getElem?_drop] at hj))
   (fun j hj=>by rw[Nat.add_assoc];exact hsp _ (by omega)) (fun j hj=>by rw[Nat.add_assoc];exact hfz _ (by omega)) (fun v hv=>h1c v (List.mem_of_mem_drop hv))
  rw[hl] at this;exact this
 obtain⟨W1,hW1⟩ : ∃ W1,W1=w.drew.setCells b (off+(i+1)*3) (cs.drop (i*3)):=⟨_,rfl⟩
 have hsp1:∀ k,k<(n+1)*3→(W1.cell? ⟨b,off+k,none⟩).isSome=true:=fun k hk=>by
  rw[hW1]
  exact isSome_setCells b _ _ _ (fun j hj=>by rw[Nat.add_assoc];exact hsp _ (by omega)) _ (hsp k hk)
 have hcp2:∀ (W:World),(∀ x,W.cell? x=W1.cell? x)→(∀ x,W.frozen? x=W1.frozen? x)→∀ ty l dc,Nat.min 1 l=1→(Builtin.copy_ #[56,56] ty #[.slice (some ⟨b,off+i*3,none⟩) l dc,.slice (some ⟨vb,voff,none⟩) 1 vc]).run Tryz.prog W=.ok (goInt 1) (W.setCells b (off+i*3) vs):=fun W hWc hWf ty l dc hl=>by
  have:=zdo W 56 56 ty 37 b (off+i*3) l dc ⟨vb,voff,none⟩ 1 vc vs 3 zb3 hsz (by rw[hl,hvl])
   (fun j v hj=>by
    rw[Addr.add_lit,hWc,hW1,World.cell?_setCells_out b _ _ _ _ (fun h _=>?_)]
    ·exact hvs j v hj
    ·have hj3:j<3:=by have:=(List.getElem?_eq_some_iff.1 hj).1;omega
     rcases Nat.lt_or_ge (voff+j) (off+(i+1)*3) with g | g
     ·exact .inl g
     ·refine .inr ?_
      rcases Nat.lt_or_ge (voff+j) (off+(i+1)*3+(cs.drop (i*3)).length) with g2 | g2
      ·exact (hap h (voff+j - off) (by omega) j hj3 (by omega)).elim
      ·exact g2)
   (fun j hj=>by rw[hWc,Nat.add_assoc];exact hsp1 _ (by omega)) (fun j hj=>by rw[hWf,hW1,World.frozen?_setCells,Nat.add_assoc];exact hfz _ (by omega)) h1v
  rw[hl] at this;exact this
 have hcp2':=fun ty=>hcp2 (w.drew.setCells b (off+(i+1)*3) (cs.drop (i*3))) (fun x=>by rw[hW1]) (fun x=>by rw[hW1]) ty (n+1 - i) (c - i) (by simp only[Nat.min_def];split<;>omega)
 go_enter Tryz.func223,Tryz.ntmps223
 go_wp2_with (simp only[hov1,hov2])
 go_region_law_o (refine step_copy_runI rfl _ _ 56 56 rfl _ _ (by simp [Act.eval,Act.put]) (by simp [Act.eval,Act.put]) (hcp1 _ (n - i) (c - (i+1)) (n+1 - i) (c - i) (by simp only[Nat.min_def];split<;>omega)) ?_)
 go_wp2_with (simp only[hcp2'])
 go_ret
 first | exact⟨rfl,rfl⟩ | exact⟨rfl,by rw[hW1]⟩
set_option maxHeartbeats 4000000 in
theorem z1qa (b off n c vb voff vc:Nat) (vs:List Value) (w:World) (hroom:n+1≤c) (hbig:n≤1000000) (hvl:vs.length=3)
  (hsp:∀ j,j<3→(w.cell? ⟨b,off+n*3+j,none⟩).isSome=true) (hfz:∀ j,j<3→w.frozen? ⟨b,off+n*3+j,none⟩=false)
  (hvs:∀ j v,vs[j]? = some v→w.cell? ⟨vb,voff+j,none⟩=some v) (h1v:∀ v∈vs,v.oneCell'=true) :
  Calls Tryz.prog z1d7 #[.slice (some ⟨b,off,none⟩) n c,.int .i64 n,.slice (some ⟨vb,voff,none⟩) 1 vc] w fun e w' =>
   e=.returned (.slice (some ⟨b,off,none⟩) (n+1) c)∧w'=w.setCells b (off+n*3) vs:=by
 have mixed:Tryz.prog.follows .mixedOrders=true:=by kernel_rfl
 obtain⟨i0,z0,hi0,hz0,h3,hb1,hb2,hz3⟩:=zxi
 have hsrc:Src Tryz.prog i0.size 56 (.slice (some ⟨vb,voff,none⟩) 1 vc) 1 vs w:=by
  rw[h3]
  exact Src.ofSlice w zb3 ⟨vb,voff,none⟩ 1 vc vs (by omega) (fun j u hj=>by rw[Addr.add_lit];exact hvs j u hj) h1v
 have hsp':∀ j,j<vs.length→(w.cell? ⟨b,off+n*i0.size+j,none⟩).isSome=true:=by rw[h3,hvl];exact hsp
 have hfz':∀ j,j<vs.length→w.frozen? ⟨b,off+n*i0.size+j,none⟩=false:=by rw[h3,hvl];exact hfz
 go_enter Tryz.func223,Tryz.ntmps223
 go_wp2_with (at_builtin;refine wpList_append_room_src _ rfl _ _ 56 56 rfl 37 i0 zb3 hi0 b off n c rfl _ rfl 1 vs hsrc hroom hsp' hfz' ?_)
 go_ret
 first | exact⟨rfl,rfl⟩ | exact⟨rfl,by rw[h3]⟩
def z1d8 (w:World) (n:Nat) (us:List Value) (e:Ending) (w':World) : Prop :=
 ∃ (G:Nat) (ROW:Array Value),e=.returned (.slice (some ⟨w.heap.size,0,none⟩) (n+1) G)∧n+1≤G∧ROW.size=G*3∧(∀ (j:Nat) v,us[j]? = some v→ROW[j]? = some v)∧Ext w w'∧w'.heap[w.heap.size]? = some (.cells ROW 37 (0,0))
theorem z19q (w:World) (o:Obj) : (w.drew.alloc o).heap[w.heap.size]? = some o:=by
 show (w.heap.push o)[w.heap.size]? = some o
 simp
theorem zpd {w:World} {k:Nat} : ∀ (vs:List Value) (o:Nat) {w1:World},Ext w w1→w.heap.size≤k→Ext w (w1.setCells k o vs)
 | [],_,_,h,_=>h
 | v::r,o,_,h,hk=>zpd r (o+1) (h.setCell hk v) hk
theorem zpe {k:Nat} {t:TypeId} {fr:Nat×Nat} : ∀ (vs:List Value) (o:Nat) {w1:World} {ROW:Array Value},w1.heap[k]? = some (.cells ROW t fr)→∃ ROW',(w1.setCells k o vs).heap[k]? = some (.cells ROW' t fr)∧ROW'.size=ROW.size
 | [],_,_,ROW,h=>⟨ROW,h,rfl⟩
 | v::r,o,w1,ROW,h=>by
  have h1:(w1.setCell ⟨k,o,none⟩ v).heap[k]? = some (.cells (ROW.setIfInBounds o v) t fr):=by
   unfold World.setCell;simp [Array.getElem?_modify,h]
  obtain⟨ROW',h2,h3⟩:=zpe r (o+1) h1
  exact⟨ROW',h2,by rw[h3];simp⟩
set_option maxHeartbeats 4000000 in
theorem z127 (base:Option Addr) (n vb voff vc:Nat) (cs vs:List Value) (w:World) (hbig:n≤1000000) (hcl:cs.length=n*3) (hvl:vs.length=3) (hnil:base=none→n=0)
  (hcs:∀ a,base=some a→∀ j v,cs[j]? = some v→w.cell? (a.add j)=some v)
  (hvs:∀ j v,vs[j]? = some v→w.cell? ⟨vb,voff+j,none⟩=some v) (h1v:∀ v∈vs,v.oneCell'=true) :
  Calls Tryz.prog z1d7 #[.slice base n n,.int .i64 n,.slice (some ⟨vb,voff,none⟩) 1 vc] w fun e w' =>
   z1d8 w n (cs++vs) e w':=by
 have mixed:Tryz.prog.follows .mixedOrders=true:=by kernel_rfl
 obtain⟨i0,z0,hi0,hz0,h3,hb1,hb2,hz3⟩:=zxi
 have hsrc:Src Tryz.prog i0.size 56 (.slice (some ⟨vb,voff,none⟩) 1 vc) 1 vs w:=by
  rw[h3]
  exact Src.ofSlice w zb3 ⟨vb,voff,none⟩ 1 vc vs (by omega) (fun j u hj=>by rw[Addr.add_lit];exact hvs j u hj) h1v
 have hold:(Builtin.firstCells i0.size n (.slice base n n)).run Tryz.prog w.drew=.ok cs.toArray w.drew:=by
  rw[h3]
  cases base with
  | none =>
   have h0:=hnil rfl
   subst h0
   rw[List.eq_nil_of_length_eq_zero (l:=cs) (by omega)]
   exact run_firstCells_none w.drew 3 0 0 0
  | some a=>exact run_firstCells_some w.drew 3 n a n n cs (by omega) (fun j v hj=>hcs a rfl j v hj)
 have hfit:Builtin.nextslicecap (n+1) n*i0.bytes≤281474976710656:=growslice_fits (by omega) (by
  have : (n+1)*i0.bytes≤1000001*100000:=Nat.mul_le_mul (by omega) hb1
  omega)
 have hrun:∀ ty,(Builtin.append_ #[56,56] ty #[.slice base n n,.slice (some ⟨vb,voff,none⟩) 1 vc]).run Tryz.prog w=_:=fun ty =>
  run_append_grow_src w 56 56 ty 37 i0 _ zb3 hi0 hz0 base n n cs hold _ 1 vs hsrc (by omega) (by omega) hfit
 obtain⟨G,hG⟩ : ∃ G,G=grownCap w (n+1) n 37:=⟨_,rfl⟩
 obtain⟨ROW,hROW⟩ : ∃ ROW : Array Value,ROW=(cs++vs).toArray++Builtin.zeroCells z0.cells (G - (n+1)):=⟨_,rfl⟩
 rw[← hG,← hROW] at hrun
 have hGn:n+1≤G:=by rw[hG];exact grownCap_ge w _ _ _
 have hsize:ROW.size=G*3:=by
  rw[hROW]
  simp [Builtin.zeroCells,hcl,hvl,hz3]
  omega
 have hget:∀ (j:Nat) v,(cs++vs)[j]? = some v→ROW[j]? = some v:=fun j v hj=>by
  rw[hROW,Array.getElem?_append_left (by have:=(List.getElem?_eq_some_iff.1 hj).1;simpa using this)]
  simpa using hj
 have hnn:(n:Int)<(n:Int)+1:=by omega
 clear hROW hG hfit hold hsrc
 go_enter Tryz.func223,Tryz.ntmps223
 cases base with
 | none =>
  have h0:=hnil rfl
  subst h0
  go_wp2_with (at_builtin;refine Lib.wpList_append_run _ rfl _ _ _ _ rfl _ _ rfl rfl _ _ (hrun _) ?_)
  go_ret
  exact⟨G,ROW,by simp,hGn,hsize,hget,(Ext.refl w).drew.alloc _,z19q w _⟩
 | some a =>
  obtain⟨ab,ao,asp⟩:=a
  go_wp2_with (at_builtin;refine Lib.wpList_append_run _ rfl _ _ _ _ rfl _ _ rfl rfl _ _ (hrun _) ?_)
  all_goals (go_ret;exact⟨G,ROW,by simp,hGn,hsize,hget,(Ext.refl w).drew.alloc _,z19q w _⟩)
theorem z128 (W:World) (k o:Nat) (vs:List Value) : (W.drew.setCells k o vs).heap=(W.setCells k o vs).heap:=by rw[← drew_setCells];rfl
theorem z1wu {w W1:World} {G n i:Nat} {ROW:Array Value} {cs vs:List Value} (hi:i<n) (hRl:ROW.size=G*3) (hRg:∀ (j:Nat),j<i*3→ROW[j]? = cs[j]?) (hGn:n+1≤G) (hcl:cs.length=n*3) (hvl:vs.length=3)
  (hW:∀ k : Nat,W1.heap[k]? = ((((w.drew.alloc (.cells ROW 37)).setCells w.heap.size (i*3) vs)).setCells w.heap.size ((i+1)*3) (cs.drop (i*3))).heap[k]?)
  (hE:Ext w W1) : z1d8 w n (cs.take (i*3)++vs++cs.drop (i*3)) (.returned (.slice (some ⟨w.heap.size,0,none⟩) (n+1) G)) W1:=by
 obtain⟨R1,h1,h1s⟩:=zpe vs (i*3) (z19q w (.cells ROW 37))
 obtain⟨R2,h2,h2s⟩:=zpe (cs.drop (i*3)) ((i+1)*3) h1
 have hdl:(cs.drop (i*3)).length=(n - i)*3:=by rw[List.length_drop,hcl];omega
 refine⟨G,R2,rfl,hGn,by omega,fun j v hj=>?_,hE,by rw[hW];exact h2⟩
 have c0:∀ j,(w.drew.alloc (.cells ROW 37)).cell? ⟨w.heap.size,j,none⟩=ROW[j]?:=fun j=>World.cell?_alloc_at (w:=w.drew) ROW _ w.heap.size j rfl
 have c2:∀ j,((((w.drew.alloc (.cells ROW 37)).setCells w.heap.size (i*3) vs)).setCells w.heap.size ((i+1)*3) (cs.drop (i*3))).cell? ⟨w.heap.size,j,none⟩=R2[j]?:=fun j=>by simp [World.cell?,h2]
 have is0:∀ j,j<(n+1)*3→((w.drew.alloc (.cells ROW 37)).cell? ⟨w.heap.size,j,none⟩).isSome=true:=fun j hj=>by rw[c0,Array.getElem?_eq_getElem (by omega)];rfl
 have is1:∀ j,j<(n+1)*3→(((w.drew.alloc (.cells ROW 37)).setCells w.heap.size (i*3) vs).cell? ⟨w.heap.size,j,none⟩).isSome=true:=fun j hj=>isSome_setCells _ _ _ _ (fun t ht=>is0 _ (by omega)) _ (is0 _ hj)
 have hlt:j<(n+1)*3:=by have:=(List.getElem?_eq_some_iff.1 hj).1;simp only[List.length_append,List.length_take,hdl,hvl,hcl] at this;omega
 have htk:(cs.take (i*3)).length=i*3:=by rw[List.length_take];omega
 rw[← c2]
 by_cases h3 : j<(i+1)*3
 ·rw[World.cell?_setCells_out _ _ _ _ _ (fun _ _=>.inl h3)]
  by_cases h4 : j<i*3
  ·rw[World.cell?_setCells_out _ _ _ _ _ (fun _ _=>.inl h4),c0,hRg j h4]
   rw[List.append_assoc,List.getElem?_append_left (by omega),List.getElem?_take_of_lt h4] at hj
   exact hj
  ·have:=World.cell?_setCells_in w.heap.size vs (i*3) (w.drew.alloc (.cells ROW 37)) (fun q hq=>is0 _ (by omega)) (j - i*3) (by omega)
   rw[show i*3+(j - i*3)=j by omega] at this
   rw[this,← hj,List.append_assoc,List.getElem?_append_right (by omega),htk,List.getElem?_append_left (by omega),List.getElem?_eq_getElem]
 ·have:=World.cell?_setCells_in w.heap.size (cs.drop (i*3)) ((i+1)*3) ((w.drew.alloc (.cells ROW 37)).setCells w.heap.size (i*3) vs) (fun q hq=>is1 _ (by omega)) (j - (i+1)*3) (by omega)
  rw[show (i+1)*3+(j - (i+1)*3)=j by omega] at this
  rw[this,← hj,List.getElem?_append_right (by rw[List.length_append];omega),List.length_append,htk,hvl,show i*3+3=(i+1)*3 by omega,List.getElem?_eq_getElem]
set_option maxHeartbeats 4000000 in
theorem z21v (b off n i vb voff vc:Nat) (cs vs:List Value) (w:World) (hi:i<n) (hbig:n≤1000000)
  (hcl:cs.length=n*3) (hvl:vs.length=3)
  (hcs:∀ j v,cs[j]? = some v→w.cell? ⟨b,off+j,none⟩=some v) 
  (hvs:∀ j v,vs[j]? = some v→w.cell? ⟨vb,voff+j,none⟩=some v) (h1c:∀ v∈cs,v.oneCell'=true) (h1v:∀ v∈vs,v.oneCell'=true) :
  Calls Tryz.prog z1d7 #[.slice (some ⟨b,off,none⟩) n n,.int .i64 i,.slice (some ⟨vb,voff,none⟩) 1 vc] w fun e w' =>
   z1d8 w n (cs.take (i*3)++vs++cs.drop (i*3)) e w':=by
 have mixed:Tryz.prog.follows .mixedOrders=true:=by kernel_rfl
 obtain⟨i0,z0,hi0,hz0,h3,hbb1,hbb2,hz3⟩:=zxi
 have hsz:(Tryz.prog.info? 37).map (·.size)=some 3:=by rw[hi0];simp [h3]
 have hz2:¬ ((i:Int)=(n:Int)):=by omega
 have hz4:(n:Int)<(n:Int)+1:=by omega
 have hbw:b<w.heap.size:=block_lt_of_cell (hcs 0 _ (List.getElem?_eq_getElem (by omega)))
 have hvw:vb<w.heap.size:=block_lt_of_cell (hvs 0 _ (List.getElem?_eq_getElem (by omega)))
 have hkk:(n:Int)+1 - (i:Int)=((n+1 - i:Nat):Int):=by omega
 have hik:i+(n+1 - i)=n+1:=by omega
 have htk:(cs.take (i*3)).length=i*3:=by rw[List.length_take];omega
 have hold:(Builtin.firstCells i0.size i (.slice (some ⟨b,off,none⟩) i n)).run Tryz.prog w.drew=.ok (cs.take (i*3)).toArray w.drew:=by
  rw[h3]
  exact run_firstCells_some w.drew 3 i ⟨b,off,none⟩ i n (cs.take (i*3)) htk (fun j v hj=>by
   rw[Addr.add_lit]
   rw[List.getElem?_take] at hj
   split at hj
   ·exact hcs j v hj
   ·cases hj)
 have hfit:Builtin.nextslicecap (n+1) n*i0.bytes≤281474976710656:=growslice_fits (by omega) (by
  have : (n+1)*i0.bytes≤1000001*100000:=Nat.mul_le_mul (by omega) hbb1
  omega)
 have hfit2:(n+1 - i)*i0.bytes≤281474976710656:=by
  have : (n+1 - i)*i0.bytes≤1000001*100000:=Nat.mul_le_mul (by omega) hbb1
  omega
 have hint:Tryz.prog.underlying 3=some (.int .i64):=by kernel_rfl
 obtain⟨G,hG⟩ : ∃ G,G=grownCap w (n+1) n 37:=⟨_,rfl⟩
 obtain⟨ROW,hROW⟩ : ∃ ROW : Array Value,ROW=(cs.take (i*3)).toArray++Builtin.zeroCells z0.cells (n+1 - i)++Builtin.zeroCells z0.cells (G - (n+1)):=⟨_,rfl⟩
 have hrz:∀ ty,(Builtin.append_ #[56,3] ty #[.slice (some ⟨b,off,none⟩) i n,.int .i64 ((n:Int)+1 - (i:Int))]).run Tryz.prog w =
   .ok (.slice (some ⟨w.heap.size,0,none⟩) (n+1) G) (w.drew.alloc (.cells ROW 37)):=fun ty=>by
  have h:=Lib.run_append_grow_zeros w 56 3 ty 37 i0 _ .i64 .i64 zb3 hint hi0 hz0 (some ⟨b,off,none⟩) i n (cs.take (i*3)) hold (n+1 - i) (by omega) (by omega) (by omega) (by omega) hfit2 (by rw[hik];exact hfit)
  rw[hik,← hG,← hROW] at h
  rw[hkk]
  exact h
 have hGn:n+1≤G:=by rw[hG];exact grownCap_ge w _ _ _
 have hG63:G≤9223372036854775807:=by
  have:=grownCap_le_maxLen w (n+1) n 37 (by unfold maxLen;omega)
  rw[← hG] at this
  unfold maxLen at this
  omega
 have hRl:ROW.size=G*3:=by
  rw[hROW]
  simp [Builtin.zeroCells,htk,hz3]
  omega
 have hRg:∀ (j:Nat),j<i*3→ROW[j]? = cs[j]?:=fun j hj=>by
  rw[hROW,Array.append_assoc,Array.getElem?_append_left (by simp [htk];omega)]
  simp [List.getElem?_take,hj]
 obtain⟨W1,hW1⟩ : ∃ W1,W1=w.drew.alloc (.cells ROW 37):=⟨_,rfl⟩
 rw[← hW1] at hrz
 have hN:∀ j,j<(n+1)*3→(W1.cell? ⟨w.heap.size,j,none⟩).isSome=true:=fun j hj=>by
  rw[hW1,World.cell?_alloc_at (w:=w.drew) ROW _ w.heap.size j rfl,Array.getElem?_eq_getElem (by omega)];rfl
 have hNf:∀ j,W1.frozen? ⟨w.heap.size,j,none⟩=false:=fun j=>by rw[hW1];exact World.frozen?_alloc_at (w:=w.drew) ROW _ w.heap.size j rfl
 have hOb:∀ j v,w.cell? ⟨b,j,none⟩=some v→W1.cell? ⟨b,j,none⟩=some v:=fun j v h=>by rw[hW1,World.cell?_alloc_past (w:=w.drew) _ b j hbw];exact h
 have hOv:∀ j v,w.cell? ⟨vb,j,none⟩=some v→W1.cell? ⟨vb,j,none⟩=some v:=fun j v h=>by rw[hW1,World.cell?_alloc_past (w:=w.drew) _ vb j hvw];exact h
 have hcpA:∀ (W:World),(∀ x,W.cell? x=W1.cell? x)→(∀ x,W.frozen? x=W1.frozen? x)→∀ ty dc,(Builtin.copy_ #[56,56] ty #[.slice (some ⟨w.heap.size,i*3,none⟩) (n+1 - i) dc,.slice (some ⟨vb,voff,none⟩) 1 vc]).run Tryz.prog W=.ok (goInt 1) (W.setCells w.heap.size (i*3) vs):=fun W hWc hWf ty dc=>by
  have hm:Nat.min 1 (n+1 - i)=1:=by simp only[Nat.min_def];split<;>omega
  have:=zdo W 56 56 ty 37 w.heap.size (i*3) (n+1 - i) dc ⟨vb,voff,none⟩ 1 vc vs 3 zb3 hsz (by rw[hm,hvl])
   (fun j v hj=>by rw[Addr.add_lit,hWc];exact hOv _ v (hvs j v hj))
   (fun j hj=>by rw[hWc];exact hN _ (by omega)) (fun j hj=>by rw[hWf];exact hNf _) h1v
  rw[hm] at this;exact this
 have hGi:¬ (G=i):=by omega
 have hGim:¬ (G=i+1):=by omega
 have hci:¬ (n=i):=by omega
 have hbN:b≠w.heap.size:=by omega
 have hdl:(cs.drop (i*3)).length=(n - i)*3:=by rw[List.length_drop,hcl];omega
 have hcpB:∀ (W:World),(∀ x,W.cell? x=(W1.setCells w.heap.size (i*3) vs).cell? x)→(∀ x,W.frozen? x=(W1.setCells w.heap.size (i*3) vs).frozen? x)→∀ ty dc sc,(Builtin.copy_ #[56,56] ty #[.slice (some ⟨w.heap.size,(i+1)*3,none⟩) (n - i) dc,.slice (some ⟨b,off+i*3,none⟩) (n - i) sc]).run Tryz.prog W=.ok (goInt ((n - i:Nat):Int)) (W.setCells w.heap.size ((i+1)*3) (cs.drop (i*3))):=fun W hWc hWf ty dc sc=>by
  have hm:Nat.min (n - i) (n - i)=n - i:=by simp only[Nat.min_def];split<;>rfl
  have:=zdo W 56 56 ty 37 w.heap.size ((i+1)*3) (n - i) dc ⟨b,off+i*3,none⟩ (n - i) sc (cs.drop (i*3)) 3 zb3 hsz (by rw[hm,hdl])
   (fun j v hj=>by
    rw[Addr.add_lit,hWc,World.cell?_setCells_out _ _ _ _ _ (fun h _=>absurd h hbN),Nat.add_assoc]
    exact hOb _ v (hcs (i*3+j) v (by rwa [List.getElem?_drop] at hj)))
   (fun j hj=>by rw[hWc];exact isSome_setCells _ _ _ _ (fun t ht=>hN _ (by omega)) _ (hN _ (by omega)))
   (fun j hj=>by rw[hWf,World.frozen?_setCells];exact hNf _) (fun v hv=>h1c v (List.mem_of_mem_drop hv))
  rw[hm] at this;exact this
 subst hW1
 have hE1:∀ x,((w.alloc (.cells ROW 37)).drew).cell? x=(w.drew.alloc (.cells ROW 37)).cell? x:=fun x=>rfl
 have hE2:∀ x,((w.alloc (.cells ROW 37)).drew).frozen? x=(w.drew.alloc (.cells ROW 37)).frozen? x:=fun x=>rfl
 have hF1:∀ x,(((w.alloc (.cells ROW 37)).drew.setCells w.heap.size (i*3) vs).drew).cell? x=((w.drew.alloc (.cells ROW 37)).setCells w.heap.size (i*3) vs).cell? x:=fun x=>rfl
 have hF2:∀ x,(((w.alloc (.cells ROW 37)).drew.setCells w.heap.size (i*3) vs).drew).frozen? x=((w.drew.alloc (.cells ROW 37)).setCells w.heap.size (i*3) vs).frozen? x:=fun x=>rfl
 have hw1:IntKind.i64.wrap ((i:Int)+1)=(i:Int)+1:=by rw[IntKind.wrap_i64];omega
 have hw2:IntKind.i64.wrap ((n:Int)+1)=(n:Int)+1:=by rw[IntKind.wrap_i64];omega
 have hw3:IntKind.i64.wrap ((n:Int)+1 - i)=(n:Int)+1 - i:=by rw[IntKind.wrap_i64];omega
 have hb1:(0:Int)≤(i:Int)+1:=by omega
 have hin:i≤n:=by omega
 have htn:((i:Int)+1).toNat=i+1:=by omega
 have hb3:(i:Int)≤(n:Int):=by omega
 have hb7:(i:Int)+1≤(n:Int)+1:=by omega
 have hcpB':=fun ty dc sc=>hcpB _ hF1 hF2 ty dc sc
 clear hkk hik hold hROW hG hfit hfit2
 go_enter Tryz.func223,Tryz.ntmps223
 go_wp2_with (first
  | (at_builtin;refine Lib.wpList_append_run _ rfl _ _ _ _ rfl _ _ rfl rfl _ _ (hrz _) ?_)
  | (at_builtin;refine wpList_copy_runI _ rfl _ _ 56 56 rfl _ _ rfl rfl (hcpA _ hE1 hE2 _ _) ?_))
 go_region_law_o (refine step_copy_runI rfl _ _ 56 56 rfl (.slice (some ⟨w.heap.size,(i+1)*3,none⟩) (n - i) (G - (i+1))) (.slice (some ⟨b,off+i*3,none⟩) (n - i) (n - i)) (by simp [Act.eval,Act.put]) (by simp [Act.eval,Act.put]) (hcpB _ hF1 hF2 3 (G - (i+1)) (n - i)) ?_)
 go_wp2
 go_ret
 refine z1wu hi hRl hRg hGn hcl hvl (fun k=>?_) ?_
 ·exact congrArg (fun h:Array Obj=>h[k]?) (z128 ((w.drew.alloc (.cells ROW 37)).setCells w.heap.size (i*3) vs) w.heap.size ((i+1)*3) (cs.drop (i*3)))
 ·exact (zpd _ _ ((zpd _ _ ((Ext.refl w).alloc _).drew (Nat.le_refl _)).drew) (Nat.le_refl _))
def RowRel (St:Nat→Nat→Prop) (w:World) (xs:List Val) (us:List Value) : Prop :=
 us.length=xs.length*3∧∀ e (he:e<xs.length) j d,(enc .val xs[e])[j]? = some d→∃ u,us[e*3+j]? = some u∧VRel En St w u d
theorem enc3 (x:Val) {j:Nat} {d:V Un} (h:(enc .val x)[j]? = some d) : j<3:=by
 have h0:=(List.getElem?_eq_some_iff.1 h).1
 rw[zei] at h0;exact h0
theorem RowRel.append {St:Nat→Nat→Prop} {w:World} {xs ys:List Val} {us vs:List Value} (h:RowRel St w xs us) (k:RowRel St w ys vs) : RowRel St w (xs++ys) (us++vs):=by
 refine⟨by rw[List.length_append,List.length_append,h.1,k.1,Nat.add_mul],fun e he j d hd=>?_⟩
 rw[List.length_append] at he
 by_cases h1 : e<xs.length
 ·rw[List.getElem_append_left h1] at hd
  obtain⟨u,h2,h3⟩:=h.2 e h1 j d hd
  exact⟨u,by rw[List.getElem?_append_left (List.getElem?_eq_some_iff.1 h2).1];exact h2,h3⟩
 ·rw[List.getElem_append_right (by omega)] at hd
  obtain⟨u,h2,h3⟩:=k.2 (e - xs.length) (by omega) j d hd
  refine⟨u,?_,h3⟩
  rw[List.getElem?_append_right (by rw[h.1];have:=Nat.mul_le_mul_right 3 (show xs.length≤e by omega);omega),h.1]
  rw[show e*3+j - xs.length*3=(e - xs.length)*3+j by omega];exact h2
theorem RowRel.take {St:Nat→Nat→Prop} {w:World} {xs:List Val} {us:List Value} (h:RowRel St w xs us) (i:Nat) : RowRel St w (xs.take i) (us.take (i*3)):=by
 refine⟨by rw[List.length_take,List.length_take,h.1];omega,fun e he j d hd=>?_⟩
 rw[List.length_take] at he
 rw[List.getElem_take] at hd
 have hj:=enc3 _ hd
 obtain⟨u,h2,h3⟩:=h.2 e (by omega) j d hd
 exact⟨u,by rw[List.getElem?_take_of_lt (by omega)];exact h2,h3⟩
theorem RowRel.drop {St:Nat→Nat→Prop} {w:World} {xs:List Val} {us:List Value} (h:RowRel St w xs us) (i:Nat) : RowRel St w (xs.drop i) (us.drop (i*3)):=by
 refine⟨by rw[List.length_drop,List.length_drop,h.1];omega,fun e he j d hd=>?_⟩
 rw[List.length_drop] at he
 rw[List.getElem_drop] at hd
 obtain⟨u,h2,h3⟩:=h.2 (i+e) (by omega) j d hd
 exact⟨u,by rw[List.getElem?_drop,show i*3+(e*3+j)=(i+e)*3+j by omega];exact h2,h3⟩
theorem RowRel.one {St:Nat→Nat→Prop} {w:World} {xs:List Val} {us:List Value} (h:RowRel St w xs us) : ∀ u∈us,u.oneCell'=true:=by
 intro u hu
 obtain⟨q,hq⟩:=List.getElem?_of_mem hu
 have hlt:=(List.getElem?_eq_some_iff.1 hq).1
 rw[h.1] at hlt
 have he:q / 3<xs.length:=by omega
 have hl:q % 3<(enc .val (xs[q / 3]'he)).length:=by rw[zei];exact Nat.mod_lt _ (by decide)
 obtain⟨u',h2,h3⟩:=h.2 (q / 3) he (q % 3) _ (List.getElem?_eq_getElem hl)
 rw[show q / 3*3+q % 3=q by omega,hq] at h2
 cases h2
 exact z1fu h3.one
theorem RowRel.of {St:Nat→Nat→Prop} {w:World} {xs:List Val} {cv:Nat→Nat→Value} (h:∀ i (hi:i<xs.length) j d,(enc .val xs[i])[j]? = some d→VRel En St w (cv i j) d) : RowRel St w xs (z7b xs.length 3 cv) :=
 ⟨zni _ _ _,fun e he j d hd=>⟨_,z1d3 (by decide) he (enc3 _ hd),h e he j d hd⟩⟩
theorem zdp (b:Nat) : ∀ (vs:List Value) (o:Nat) (w:World),(∀ j,j<vs.length→(w.cell? ⟨b,o+j,none⟩).isSome=true)→Stored w (w.setCells b o vs) b o vs
 | [],o,w,_=>⟨rfl,rfl,rfl,rfl,fun _ _=>rfl,fun i v h=>by simp at h,fun _ _=>rfl,fun _=>rfl,fun _=>rfl⟩
 | v::r,o,w,h=>by
  have hs:∀ j,j<r.length→((w.setCell ⟨b,o,none⟩ v).cell? ⟨b,o+1+j,none⟩).isSome=true:=fun j hj=>by
   rw[World.cell?_setCell_other _ _ _ _ (by simp)]
   have:=h (j+1) (by simp;omega)
   rwa [show o+(j+1)=o+1+j by omega] at this
  have ih:=zdp b r (o+1) (w.setCell ⟨b,o,none⟩ v) hs
  refine⟨ih.os,ih.tape,ih.output,by rw[World.setCells,ih.size];simp,fun k hk=>by rw[World.setCells,ih.block k hk];exact Below.heap_setCell _ _ _ _ hk,fun i u hu=>?_,fun p hp=>?_,fun p=>?_,by simp⟩
  ·have:=World.cell?_setCells_in b (v::r) o w h i (List.getElem?_eq_some_iff.1 hu).1
   rw[this];obtain⟨_,h2⟩:=List.getElem?_eq_some_iff.1 hu;exact congrArg some h2
  ·rw[World.setCells,ih.other p (by simp only[List.length_cons] at hp;omega)]
   exact World.cell?_setCell_other _ _ _ _ (by rintro rfl;simp only[List.length_cons] at hp;omega)
  ·rw[World.setCells,ih.frozen p];exact zme _ _ _ _
theorem z1wv {w w1 w2:World} {b off o1 o2:Nat} {us v1 v2:List Value} (h1:Stored w.drew w1 b o1 v1) (h2:Stored w1 w2 b o2 v2) (hne:us≠[]) (hb1:off≤o1∧o1+v1.length≤off+us.length) (hb2:off≤o2∧o2+v2.length≤off+us.length)
  (hin:∀ (j:Nat) v,us[j]? = some v→w2.cell? ⟨b,off+j,none⟩=some v) : Stored w w2 b off us :=
 ⟨h2.os.trans h1.os,h2.tape.trans h1.tape,h2.output.trans h1.output,h2.size.trans h1.size,fun k hk=>(h2.block k hk).trans (h1.block k hk),hin,fun p hp=>(h2.other p (by omega)).trans (h1.other p (by omega)),fun p=>(h2.frozen p).trans (h1.frozen p),fun h=>(hne h).elim⟩
theorem z19r {w:World} {b off n i:Nat} {cs vs:List Value} (hi:i≤n) (hcl:cs.length=n*3) (hvl:vs.length=3) (hcs:∀ j v,cs[j]? = some v→w.cell? ⟨b,off+j,none⟩=some v) (hsp:∀ j,j<(n+1)*3→(w.cell? ⟨b,off+j,none⟩).isSome=true) :
  Stored w ((w.drew.setCells b (off+(i+1)*3) (cs.drop (i*3))).setCells b (off+i*3) vs) b off (cs.take (i*3)++vs++cs.drop (i*3)):=by
 have hdl:(cs.drop (i*3)).length=(n - i)*3:=by rw[List.length_drop,hcl];omega
 have htk:(cs.take (i*3)).length=i*3:=by rw[List.length_take];omega
 have h1:=zdp b (cs.drop (i*3)) (off+(i+1)*3) w.drew (fun j hj=>by rw[Nat.add_assoc];exact hsp _ (by omega))
 have hs1:∀ j,j<(n+1)*3→((w.drew.setCells b (off+(i+1)*3) (cs.drop (i*3))).cell? ⟨b,off+j,none⟩).isSome=true:=fun j hj=>isSome_setCells _ _ _ _ (fun t ht=>by rw[Nat.add_assoc];exact hsp _ (by omega)) _ (hsp _ hj)
 have h2:=zdp b vs (off+i*3) _ (fun j hj=>by rw[Nat.add_assoc];exact hs1 (i*3+j) (by omega))
 have hul:(cs.take (i*3)++vs++cs.drop (i*3)).length=(n+1)*3:=by simp only[List.length_append];omega
 refine z1wv h1 h2 (fun h=>by rw[h] at hul;simp at hul) (by omega) (by omega) (fun j v hj=>?_)
 have hlt:j<(n+1)*3:=by have:=(List.getElem?_eq_some_iff.1 hj).1;omega
 by_cases h3 : j<i*3
 ·rw[h2.other ⟨b,off+j,none⟩ (.inl (by show off+j<_;omega)),h1.other ⟨b,off+j,none⟩ (.inl (by show off+j<_;omega))]
  rw[List.append_assoc,List.getElem?_append_left (by omega),List.getElem?_take_of_lt h3] at hj
  exact hcs j v hj
 ·by_cases h4 : j<(i+1)*3
  ·have:=h2.cell (j - i*3) v (by rw[← hj,List.append_assoc,List.getElem?_append_right (by omega),htk,List.getElem?_append_left (by omega)])
   rw[show off+i*3+(j - i*3)=off+j by omega] at this
   exact this
  ·rw[h2.other ⟨b,off+j,none⟩ (.inr (.inl (by show _≤off+j;omega)))]
   have:=h1.cell (j - (i+1)*3) v (by rw[← hj,List.getElem?_append_right (by rw[List.length_append];omega),List.length_append,htk,hvl,show i*3+3=(i+1)*3 by omega])
   rw[show off+(i+1)*3+(j - (i+1)*3)=off+j by omega] at this
   exact this
theorem z1h8 {w:World} {b off n:Nat} {cs vs:List Value} (hcl:cs.length=n*3) (hvl:vs.length=3) (hcs:∀ j v,cs[j]? = some v→w.cell? ⟨b,off+j,none⟩=some v) (hsp:∀ j,j<(n+1)*3→(w.cell? ⟨b,off+j,none⟩).isSome=true) :
  Stored w (w.setCells b (off+n*3) vs) b off (cs++vs):=by
 have h2:=zdp b vs (off+n*3) w (fun j hj=>by rw[Nat.add_assoc];exact hsp (n*3+j) (by omega))
 have hul:(cs++vs).length=(n+1)*3:=by simp only[List.length_append];omega
 refine⟨h2.os,h2.tape,h2.output,h2.size,h2.block,fun j v hj=>?_,fun p hp=>h2.other p (by omega),h2.frozen,fun h=>by rw[h] at hul;simp at hul⟩
 by_cases h3 : j<n*3
 ·rw[h2.other ⟨b,off+j,none⟩ (.inl (by show off+j<_;omega))]
  rw[List.getElem?_append_left (by omega)] at hj
  exact hcs j v hj
 ·have:=h2.cell (j - n*3) v (by rw[← hj,List.getElem?_append_right (by omega),hcl])
  rw[show off+n*3+(j - n*3)=off+j by omega] at this
  exact this
theorem z21w {g:G} {w w':World} {xs ys:List Val} {b off cap:Nat} {us:List Value} (hp:Part Tryz.prog En g w [] [⟨0,.val,xs,some 0,true⟩]) (htk:g.tk 0=(some ⟨b,off,none⟩,cap)) (hst:Stored w w' b off us) (hcap:ys.length≤cap) (hxy:xs.length≤ys.length) (hbig:ys.length≤9223372036854775807)
  (hA:∀ x,x<cap*3→g.ω b (off+x)=some (.obj 0)∧(∃ v,w.cell? ⟨b,off+x,none⟩=some v)∧stuck w ⟨b,off+x,none⟩=false) (hrel:RowRel g.St w ys us) :
  RetG Tryz.prog En g w w' (.slice (some ⟨b,off,none⟩) ys.length cap) [.c (.ob 0 0)] [] [⟨0,.val,ys,some 0,true⟩]:=by
 have hul:=hrel.1
 have hcap3:ys.length*3≤cap*3:=Nat.mul_le_mul_right 3 hcap
 have hmine:∀ x,x<cap*3→g.mine b (off+x):=fun x hx=>⟨.obj 0,by simp,(hA x hx).1⟩
 have hk:Keeps g.St w g.St w':=fun b' o hs=>⟨hs,hst.other ⟨b',o,none⟩ (by
  by_cases e : b'=b
  ·subst e
   by_cases h1 : o<off
   ·exact .inl h1
   ·by_cases h2 : off+us.length≤o
    ·exact .inr (.inl h2)
    ·have:=(hA (o - off) (by omega)).1
     rw[show off+(o - off)=o by omega] at this
     have hs':g.ω b' o=some .st:=hs
     rw[this] at hs';simp at hs'
  ·exact .inr (.inr e))⟩
 have hobj:ObRel En g w' 0 ⟨0,.val,ys,some 0,true⟩:=by
  refine⟨⟨⟨by rw[htk];exact hcap,hbig⟩,fun f hf=>by simp at hf;subst hf;exact Nat.zero_le _⟩,fun _=>⟨b,off,fun i j=>us.getD (i*3+j) undef,by rw[htk],⟨?_,?_,?_⟩⟩⟩
  ·intro i j hi hj
   have hi':i<ys.length:=hi
   have hj':j<3:=hj
   have hlt:i*3+j<ys.length*3:=by omega
   have e0:off+i*Un.sz .val+j=off+(i*3+j):=by show off+i*3+j=_;omega
   show w'.cell? ⟨b,off+i*Un.sz .val+j,none⟩=_∧Mode g w' 0 (some 0) i b (off+i*Un.sz .val+j)
   rw[e0]
   refine⟨?_,fun h=>absurd h (Nat.not_lt_zero _),fun _=>⟨(hA _ (by omega)).1,by rw[hst.frozen];exact (hA _ (by omega)).2.2⟩⟩
   rw[List.getD_eq_getElem?_getD,List.getElem?_eq_getElem (by omega)]
   exact hst.cell _ _ (List.getElem?_eq_getElem (by omega))
  ·intro i hi j d hd
   obtain⟨u,h1,h2⟩:=hrel.2 i hi j d hd
   show VRel En g.St w' (us.getD (i*3+j) undef) d
   rw[List.getD_eq_getElem?_getD,h1]
   exact h2.mono hk
  ·intro _ x hx hx'
   have hx1:ys.length*3≤x:=hx
   have hx2:x<cap*3:=by rw[htk] at hx';exact hx'
   obtain⟨h1,⟨v,h2⟩,h3⟩:=hA x hx2
   exact⟨h1,⟨v,by rw[hst.other ⟨b,off+x,none⟩ (.inr (.inl (by show _≤off+x;omega)))];exact h2⟩,by rw[hst.frozen];exact h3⟩
 have hnb:∀ b o,LB b=true→¬ g.mine b o:=fun b o hl hm=>by obtain⟨y,hy,hx⟩:=hm;exact hy (hp.nlb b o y hl hx)
 have hfe:=FExt.stored (fr:=⟨w,g.mine,g.St,0,g.β⟩) (w:=w) ⟨rfl,rfl,rfl,Nat.le_refl _,fun _ _ _=>rfl,fun _ _ _ _=>rfl,fun _ _ _ _=>rfl,hp.laid,fun b hl=>hp.laid.lt b hl,hnb⟩ hst (fun i hi=>.inr (hmine i (by omega)))
 refine⟨g,hfe,⟨fun k fz cells hk'=>by simp at hk',hp.lbs,fun k o ho=>?_,fun b' o x hx=>by rw[hst.size];exact hp.own b' o x hx,hfe.laid,hp.nlb⟩,fun _ _=>rfl,fun b' o x _ hx=>?_,?_⟩
 ·cases k with
  | zero=>simp at ho;subst ho;exact⟨hobj,rfl⟩
  | succ k=>simp at ho
 ·cases x with
  | st=>exact .inr ⟨rfl,hx⟩
  | box k=>exact .inl ⟨_,by simp,hx⟩
  | obj k=>exact .inl ⟨_,by simp,hx⟩
 ·exact⟨rfl,_,rfl,Nat.le_refl _,fun _=>by rw[htk]⟩
open Classical in
theorem z19s {g:G} {w w':World} {ys:List Val} {n:Nat} {us:List Value} {e:Ending} (hld:Laid w) (hnl:∀ b o x,LB b=true→g.ω b o=some x→x=.st) (hlb:∀ k,¬ g.lb k) (hown:∀ b o x,g.ω b o=some x→b<w.heap.size) (hI:z1d8 w n us e w') (hn:ys.length=n+1) (hbig:ys.length≤9223372036854775807) (hrel:RowRel g.St w ys us) :
  ∃ v,e=.returned v∧RetG Tryz.prog En g w w' v [.c (.ob 0 0)] [] [⟨0,.val,ys,some 0,true⟩]:=by
 obtain⟨cap,ROW,rfl,hcap,hsz,hget,hext,hheap⟩:=hI
 refine⟨_,rfl,?_⟩
 have hul:=hrel.1
 have hcap3:ys.length*3≤cap*3:=Nat.mul_le_mul_right 3 (by omega)
 have hgb:w.heap.size<w'.heap.size:=(Array.getElem?_eq_some_iff.1 hheap).1
 have hcell:∀ q,q<cap*3→w'.cell? ⟨w.heap.size,q,none⟩=ROW[q]? ∧ (∃ u,w'.cell? ⟨w.heap.size,q,none⟩=some u)∧stuck w' ⟨w.heap.size,q,none⟩=false:=by
  intro q hq
  have h1:w'.cell? ⟨w.heap.size,q,none⟩=ROW[q]?:=by simp [World.cell?,hheap]
  refine⟨h1,⟨ROW[q]'(by omega),by rw[h1];exact Array.getElem?_eq_getElem _⟩,?_⟩
  simp [stuck,World.shape?,World.frozen?,hheap]
 let g' : G:=⟨g.β,fun _=>False,fun b o=>if b<w.heap.size then (if g.St b o then some .st else none) else if b=w.heap.size∧o<cap*3 then some (.obj 0) else none,fun _=>(some ⟨w.heap.size,0,none⟩,cap)⟩
 have hω:∀ o,o<cap*3→g'.ω w.heap.size o=some (.obj 0):=fun o ho=>by
  show (if w.heap.size<w.heap.size then _ else _)=_
  rw[if_neg (by omega),if_pos ⟨rfl,ho⟩]
 have hk:Keeps g.St w g'.St w':=fun b o hs=>by
  have hb:=hown b o _ hs
  refine⟨?_,hext.cell (p:=⟨b,o,none⟩) hb⟩
  show (if b<w.heap.size then _ else _)=_
  rw[if_pos hb,if_pos hs]
 have hnb:∀ b o,LB b=true→¬ g.mine b o:=fun b o hl hm=>by obtain⟨y,hy,hx⟩:=hm;exact hy (hnl b o y hl hx)
 refine⟨g',FExt.later ⟨rfl,rfl,rfl,Nat.le_refl _,fun _ _ _=>rfl,fun _ _ _ _=>rfl,fun _ _ _ _=>rfl,hld,fun b hl=>hld.lt b hl,hnb⟩ hext,⟨fun k fz cells hk'=>by simp at hk',fun k hk'=>hk'.elim,fun k o ho=>?_,fun b o x hx=>?_,hld.ext hext,fun b o x hl hx=>?_⟩,fun _ _=>rfl,fun b o x hb hx=>?_,?_⟩
 ·cases k with
  | succ k=>simp at ho
  | zero =>
   simp at ho;subst ho
   refine⟨⟨⟨⟨by show ys.length≤cap;omega,hbig⟩,fun f hf=>by simp at hf;subst hf;exact Nat.zero_le _⟩,fun _=>⟨w.heap.size,0,fun i j=>us.getD (i*3+j) undef,rfl,⟨?_,?_,?_⟩⟩⟩,rfl⟩
   ·intro i j hi hj
    have hi':i<ys.length:=hi
    have hj':j<3:=hj
    have hlt:i*3+j<ys.length*3:=by omega
    have e0:0+i*Un.sz .val+j=i*3+j:=by show 0+i*3+j=_;omega
    show w'.cell? ⟨w.heap.size,0+i*Un.sz .val+j,none⟩=_∧Mode g' w' 0 (some 0) i w.heap.size (0+i*Un.sz .val+j)
    rw[e0]
    obtain⟨c1,_,c3⟩:=hcell (i*3+j) (by omega)
    refine⟨?_,fun h=>absurd h (Nat.not_lt_zero _),fun _=>⟨hω _ (by omega),c3⟩⟩
    rw[c1,List.getD_eq_getElem?_getD,List.getElem?_eq_getElem (by omega)]
    exact hget _ _ (List.getElem?_eq_getElem (by omega))
   ·intro i hi j d hd
    obtain⟨u,h1,h2⟩:=hrel.2 i hi j d hd
    show VRel En g'.St w' (us.getD (i*3+j) undef) d
    rw[List.getD_eq_getElem?_getD,h1]
    exact h2.mono hk
   ·intro _ x hx hx'
    have hx2:x<cap*3:=hx'
    obtain⟨_,c2,c3⟩:=hcell x hx2
    show g'.ω w.heap.size (0+x)=_∧_
    rw[Nat.zero_add]
    exact⟨hω x hx2,c2,c3⟩
 ·have hx':(if b<w.heap.size then (if g.St b o then some Own.st else none) else if b=w.heap.size∧o<cap*3 then some (Own.obj 0) else none)=some x:=hx
  split at hx'
  ·omega
  ·split at hx'
   ·rename_i hh;omega
   ·simp at hx'
 ·have hx':(if b<w.heap.size then (if g.St b o then some Own.st else none) else _)=some x:=hx
  rw[if_pos (hld.lt b hl)] at hx'
  split at hx'
  ·simp at hx';exact hx'.symm
  ·simp at hx'
 ·have hx':(if b<w.heap.size then (if g.St b o then some Own.st else none) else _)=some x:=hx
  rw[if_pos hb] at hx'
  split at hx'
  ·rename_i hs;simp at hx';exact .inr ⟨hx'.symm,hs⟩
  ·simp at hx'
 ·exact⟨rfl,_,rfl,Nat.le_refl _,fun _=>by rw[hn]⟩
def zj4 : List Bool×FnG Un:=([true],fun args bxs os=>match args,bxs,os with
 | [.c (.ob 0 0),x1,x2],[],[o]=>(oM .val o).bind fun xs=>(aI .i64 x1).bind fun i=>(aL .val x2).bind fun vs=>some ([(0≤i∧i≤(xs.length:Int))∧xs.length≤1000000∧vs.length=1],[.c (.ob 0 0)],[],[⟨0,.val,xs.take i.toNat++vs++xs.drop i.toNat,some 0,true⟩])
 | _,_,_=>none)
theorem z1h9 : GnOK z1d7 zj4:=by
 intro args bxs obs ob rs bxs' obs' h hob
 unfold zj4 at h
 dsimp only at h
 split at h
 ·rename_i x1 x2 o
  simp only[Option.bind_eq_some_iff,Option.some.injEq,Prod.mk.injEq] at h
  obtain⟨xs,e0,i,e1,vs,e2,rfl,rfl,rfl,rfl⟩:=h
  obtain rfl:=z1ne e0
  obtain rfl:=z1bd e1
  obtain rfl:=z22q e2
  obtain⟨⟨hi0,hi1⟩,hbig,hv1⟩:=hob _ (List.mem_singleton.2 rfl)
  refine⟨?_,zb Tryz.func223 (by kernel_rfl) (by kernel_rfl)⟩
  obtain⟨i,rfl⟩ : ∃ k : Nat,i=k:=⟨i.toNat,(Int.toNat_of_nonneg hi0).symm⟩
  rw[Int.toNat_natCast]
  have hin:i≤xs.length:=by omega
  intro w g vals hp hvals
  match vals,hvals with
  | [v0,v1,v2],⟨h0,h1,h2,_⟩ =>
   obtain⟨_,o',ho',_,hv⟩:=h0
   simp at ho';subst ho'
   have hv:=hv rfl
   obtain rfl : v1=.int .i64 i:=h1.1
   have hV:VRel En g.St w v2 (.dat .val vs):=h2.1
   obtain⟨hob0,_⟩:=hp.obs 0 _ rfl
   obtain⟨⟨⟨hcap,hmax⟩,_⟩,hrow⟩:=hob0
   rcases hV.inv with ⟨rfl,_⟩ | ⟨vb,voff,vc,cv,rfl,_,hvc,hvr⟩
   ·simp at hv1
   ·have hvR:RowRel g.St w vs (z7b vs.length 3 cv):=RowRel.of hvr
    have hvl:(z7b vs.length 3 cv).length=3:=by rw[zni,hv1]
    have hvcell:∀ j u,(z7b vs.length 3 cv)[j]? = some u→w.cell? ⟨vb,voff+j,none⟩=some u∧g.St vb (voff+j):=by
     intro j u hj
     obtain⟨e,q,he,hq,rfl,rfl⟩:=znj hj
     have:=hvc e q he hq
     have e3:Un.sz .val=3:=rfl
     rw[e3,Nat.add_assoc] at this
     exact⟨this.2,this.1⟩
    obtain⟨us,hus⟩ : ∃ us,us=z7b vs.length 3 cv:=⟨_,rfl⟩
    rw[← hus] at hvR hvl hvcell
    have hys:∀ cs,RowRel g.St w xs cs→RowRel g.St w (xs.take i++vs++xs.drop i) (cs.take (i*3)++us++cs.drop (i*3)):=fun cs hc=>((hc.take i).append hvR).append (hc.drop i)
    have hyl:(xs.take i++vs++xs.drop i).length=xs.length+1:=by simp only[List.length_append,List.length_take,List.length_drop];omega
    have hone:=hvR.one
    have hv2:vs.length=1:=hv1
    rw[hv,hv1]
    rcases Nat.lt_or_ge xs.length (g.tk 0).2 with hroom | hfull
    ·obtain⟨b,off,cs0,hbase,hA⟩:=hrow (by show 0<_;omega)
     have hcR:RowRel g.St w xs (z7b xs.length 3 cs0):=RowRel.of hA.rel
     obtain⟨cs,hcs⟩ : ∃ cs,cs=z7b xs.length 3 cs0:=⟨_,rfl⟩
     rw[← hcs] at hcR
     have hccell:∀ j u,cs[j]? = some u→w.cell? ⟨b,off+j,none⟩=some u:=by
      intro j u hj
      rw[hcs] at hj
      obtain⟨e,q,he,hq,rfl,rfl⟩:=znj hj
      have:=(hA.cell e q he hq).1
      have e3:Un.sz .val=3:=rfl
      rw[e3,Nat.add_assoc] at this
      exact this
     have hall:∀ x,x<(g.tk 0).2*3→g.ω b (off+x)=some (.obj 0)∧(∃ v,w.cell? ⟨b,off+x,none⟩=some v)∧stuck w ⟨b,off+x,none⟩=false:=by
      intro x hx
      rcases Nat.lt_or_ge x (xs.length*3) with g1 | g1
      ·have he:x / 3<xs.length:=by omega
       have hm:=hA.cell (x / 3) (x % 3) he (Nat.mod_lt _ (by decide))
       have e3:off+x / 3*Un.sz .val+x % 3=off+x:=by show off+x / 3*3+x % 3=_;omega
       rw[e3] at hm
       obtain⟨m1,m2⟩:=hm.2.2 (Nat.zero_le _)
       exact⟨m1,⟨_,hm.1⟩,m2⟩
      ·exact hA.spare rfl x g1 hx
     have htk:g.tk 0=(some ⟨b,off,none⟩,(g.tk 0).2):=by rw[← hbase]
     have hcap3:(xs.length+1)*3≤(g.tk 0).2*3:=Nat.mul_le_mul_right 3 hroom
     have hsp:∀ j,j<(xs.length+1)*3→(w.cell? ⟨b,off+j,none⟩).isSome=true:=fun j hj=>by
      obtain⟨_,⟨v,hv⟩,_⟩:=hall j (by omega);rw[hv];rfl
     have hnf:∀ j,j<(xs.length+1)*3→w.frozen? ⟨b,off+j,none⟩=false:=fun j hj=>zjn (hall j (by omega)).2.2
     have fin:∀ (e:Ending) (w':World),e=.returned (.slice (some ⟨b,off,none⟩) (xs.length+1) (g.tk 0).2)→Stored w w' b off (cs.take (i*3)++us++cs.drop (i*3)) →
       ∃ v,e=.returned v∧RetG Tryz.prog En g w w' v [.c (.ob 0 0)] [] [⟨0,.val,xs.take i++vs++xs.drop i,some 0,true⟩]:=fun e w' he hst=>by
      refine⟨_,he,?_⟩
      rw[← hyl]
      exact z21w hp htk hst (by omega) (by omega) (by omega) hall (hys cs hcR)
     rw[hbase]
     by_cases hie : i=xs.length
     ·subst hie
      refine (z1qa b off xs.length (g.tk 0).2 vb voff vc us w hroom hbig hvl (fun j hj=>by rw[Nat.add_assoc];exact hsp _ (by omega)) (fun j hj=>by rw[Nat.add_assoc];exact hnf _ (by omega)) (fun j u hj=>(hvcell j u hj).1) hone).mono ?_
      rintro e w' ⟨he,rfl⟩
      refine fin e _ he ?_
      have:=z1h8 (vs:=us) hcR.1 hvl hccell hsp
      rw[List.take_of_length_le (by have:=hcR.1;omega),List.drop_of_length_le (by have:=hcR.1;omega),List.append_nil]
      exact this
     ·obtain⟨_,⟨z1,hz1⟩,hz2⟩:=hall ((i+1)*3) (by omega)
      have hshape:∀ {k o:Nat} {u:Value},w.cell? ⟨k,o,none⟩=some u→∃ t n,w.shape? k=some (t,n)∧n≠0:=by
       intro k o u hu
       unfold World.cell? at hu
       unfold World.shape?
       split at hu
       ·rename_i c t fr hk
        simp only[hk]
        refine⟨_,_,rfl,fun h0=>?_⟩
        simp at hu
        have:=(Array.getElem?_eq_some_iff.1 hu).1
        omega
       ·simp at hu
      obtain⟨u0,hu0⟩ : ∃ u0,us[0]? = some u0:=⟨us[0]'(by omega),List.getElem?_eq_getElem _⟩
      obtain⟨tA,kA,hsa,hkA⟩:=hshape (hvcell 0 u0 hu0).1
      obtain⟨tB,kB,hsb,hkB⟩:=hshape hz1
      refine (z1zk b off xs.length (g.tk 0).2 i vb voff vc cs us w (by omega) hroom hbig hcR.1 hvl hccell hsp hnf (fun j u hj=>(hvcell j u hj).1) hcR.one hone tA tB kA kB hsa hsb hkA hkB hz2 ?_).mono ?_
      ·intro he j hj q hq hjq
       subst he
       obtain⟨u,hu⟩ : ∃ u,us[q]? = some u:=⟨us[q]'(by omega),List.getElem?_eq_getElem _⟩
       have h1:=(hvcell q u hu).2
       have h2:=(hall j (by omega)).1
       have h1':g.ω vb (voff+q)=some .st:=h1
       rw[← hjq,h2] at h1'
       simp at h1'
      ·rintro e w' ⟨he,rfl⟩
       exact fin e _ he (z19r hin hcR.1 hvl hccell hsp)
    ·have hcn:(g.tk 0).2=xs.length:=by have h1:xs.length≤(g.tk 0).2:=hcap;omega
     have hlb:∀ k,¬ g.lb k:=fun k hk=>by have:=hp.lbs k hk;simp at this
     rw[hcn]
     by_cases hx0 : xs.length=0
     ·have hx:xs=[]:=List.eq_nil_of_length_eq_zero hx0
      subst hx
      obtain rfl : i=0:=by simpa using hin
      refine (z127 (g.tk 0).1 0 vb voff vc [] us w (by omega) rfl hvl (fun _=>rfl) (fun a _ j v hj=>by simp at hj) (fun j u hj=>(hvcell j u hj).1) hone).mono ?_
      intro e w' hI
      have hz:=hys [] ⟨rfl,fun e he=>absurd he (Nat.not_lt_zero _)⟩
      simp only[List.take_nil,List.drop_nil,List.nil_append,List.append_nil] at hz ⊢
      exact z19s hp.laid hp.nlb hlb hp.own hI (by simpa using hv2) (by omega) hz
     ·obtain⟨b,off,cs0,hbase,hA⟩:=hrow (by show 0<_;omega)
      have hcR:RowRel g.St w xs (z7b xs.length 3 cs0):=RowRel.of hA.rel
      obtain⟨cs,hcs⟩ : ∃ cs,cs=z7b xs.length 3 cs0:=⟨_,rfl⟩
      rw[← hcs] at hcR
      have hccell:∀ j u,cs[j]? = some u→w.cell? ⟨b,off+j,none⟩=some u:=by
       intro j u hj
       rw[hcs] at hj
       obtain⟨e,q,he,hq,rfl,rfl⟩:=znj hj
       have:=(hA.cell e q he hq).1
       have e3:Un.sz .val=3:=rfl
       rw[e3,Nat.add_assoc] at this
       exact this
      rw[hbase]
      by_cases hie : i=xs.length
      ·subst hie
       refine (z127 (some ⟨b,off,none⟩) xs.length vb voff vc cs us w hbig hcR.1 hvl (fun h=>by simp at h) (fun a ha j v hj=>by cases ha;rw[Addr.add_lit];exact hccell j v hj) (fun j u hj=>(hvcell j u hj).1) hone).mono ?_
       intro e w' hI
       have hz:=hys cs hcR
       rw[List.take_of_length_le (l:=cs) (by have:=hcR.1;omega),List.drop_of_length_le (l:=cs) (by have:=hcR.1;omega),List.append_nil] at hz
       exact z19s hp.laid hp.nlb hlb hp.own hI hyl (by omega) hz
      ·refine (z21v b off xs.length i vb voff vc cs us w (by omega) hbig hcR.1 hvl hccell (fun j u hj=>(hvcell j u hj).1) hcR.one hone).mono ?_
       intro e w' hI
       exact z19s hp.laid hp.nlb hlb hp.own hI hyl (by omega) (hys cs hcR)
 ·simp at h
end Go.Proofs.YtjfpbchdcbhfgaaGreat.B
