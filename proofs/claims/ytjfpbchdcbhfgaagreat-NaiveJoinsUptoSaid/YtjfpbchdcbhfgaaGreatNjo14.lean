/- Part 14 of the proof: Linsert Sagg2 Snaive1 Snaive2 Snaive3. -/
import Derived.Shelf.Spec.SlicesInsertGrow
import Derived.Test.YtjfpbchdcbhfgaaGreatNjo13
set_option linter.unusedVariables false
set_option linter.unusedSimpArgs false
namespace Go.Proofs.YtjfpbchdcbhfgaaGreat
namespace B
open Go Go.RowKit Go.Shelf Go.Lib
set_option maxRecDepth 1000000
set_option linter.unusedVariables false
set_option linter.unusedSimpArgs false
theorem z1ql{P:Program}(w:World)(tS tR e:TypeId)(ht:P.underlying tS=some (.slice e))(size:Nat)(hz:∀w,(Go.sizeOf e).run P w=.ok size w)
    (ab ao bb bo:Nat)(la ca lb cb:Nat)(tA tB:TypeId)(kA kB:Nat)
    (hsa:w.shape? ab=some (tA,kA))(hsb:w.shape? bb=some (tB,kB))(hkA:kA≠0)(hkB:kB≠0)
    (hst:stuck w ⟨bb,bo,none⟩=false)(hap:ab=bb→¬(ao<bo+lb*size∧bo<ao+la*size)):
    (Extern.SlicesOverlaps.overlaps #[tS,tS] #[tR] #[.slice (some ⟨ab,ao,none⟩) la ca,.slice (some ⟨bb,bo,none⟩) lb cb]).run P w=.ok (.bool false) w:=by
  have hfb:=zo6 hst;have hmb:=z2bv hst hsb
  change Sem.run P (α:=Value) (do
    let some t:=(#[tS,tS]:Array TypeId)[0]?|Go.stuck "slices.overlaps: no parameter types"
    let .slice elem ←underlying t|Go.stuck "slices.overlaps: slice type expected"
    let size ←sizeOf elem
    match(some (⟨ab,ao,none⟩:Addr):Option Addr),(some (⟨bb,bo,none⟩:Addr):Option Addr)with
    |some a,some b=>
      if la=0∨lb=0∨size=0 then pure (Value.bool false)
      else if a.block !=b.block&&(←frozen a)&&(←frozen b)then unsupported .addressObserved
      else do
        if a.block !=b.block then do
          noView a;noView b
          if ←mayBeOne a b then return Value.bool ((←choose (.extern "sameAddr.stringBytes" 2))==1)
        pure (Value.bool (a.block==b.block&&a.off<b.off+lb*size&&b.off<a.off+la*size))
    |_,_=>pure (Value.bool false)) w=_
  by_cases h0:la=0∨lb=0∨size=0
  · simp[run_underlying ht,hz,h0]
  · cases kB with
    |zero=>exact absurd rfl hkB
    |succ kB=>
      cases kA with
      |zero=>exact absurd rfl hkA
      |succ kA=>
        by_cases he:ab=bb
        · have hap':=hap he;subst he;simp[run_underlying ht,hz,h0];intro h1;omega
        · have hnb:(ab !=bb)=true:=by simpa using he
          have hnb':(ab==bb)=false:=by simpa using he
          cases hfa:w.frozen? ⟨ab,ao,none⟩<;>cases hma:w.frozen? ⟨ab,kA+1,none⟩<;>
          simp[run_underlying ht,hz,h0,hnb,hnb',frozen,noView,viewAt,mayBeOne,stringish,shape,Sem.run,hsa,hsb,hfb,hmb,hfa,hma]
theorem zfi{P:Program}(w:World)(dT sT ty elem:TypeId)(b o dLen dCap:Nat)(a:Addr)(sLen sCap:Nat)(cs:List Value)(k:Nat)
  (hu:P.underlying dT=some (.slice elem))(hs:(P.info? elem).map (·.size)=some k)(hn:cs.length=Nat.min sLen dLen*k)
  (hsrc:∀j v,cs[j]?=some v→w.cell? (a.add j)=some v)(hc:∀j,j<cs.length→(w.cell? ⟨b,o+j,none⟩).isSome=true)(hf:∀j,j<cs.length→w.frozen? ⟨b,o+j,none⟩=false)(h1:∀v∈cs,v.oneCell'=true):
  (Builtin.copy_ #[dT,sT] ty #[.slice (some ⟨b,o,none⟩) dLen dCap,.slice (some a) sLen sCap]).run P w=.ok (goInt (Nat.min sLen dLen)) (w.setCells b o cs):=by
 have hl:=run_loadCells_list (P:=P) w a cs hsrc;have hst:=run_storeCells_cells (P:=P) b o cs 0 w (by simpa using hc) (by simpa using hf) h1;cases hq:P.info? elem with
 |none=>simp[hq]at hs
 |some i=>
  have hi:i.size=k:=by simpa[hq]using hs
  simp[Builtin.copy_,run_underlying hu,Builtin.lenOf,Builtin.firstCells,sizeOf,typeInfo,hq,hi,←hn,hl,hst]
  try rw[hn]
abbrev z1qm:FuncId:=223
theorem z152:∃i z,Tryz.prog.info? 37=some i∧i.zero=some z∧i.size=3∧i.bytes≤100000∧0<i.bytes∧z.cells.size=3:=by
 obtain⟨bytes,i,z,hb,h1',h1,h0,h2,h3,h4,h5,h6⟩:=slOf (t:=56) (e:=37) (τ:=.val) (by kernel_rfl);exact⟨i,z,h2,h5,h3,by omega,by omega,h6⟩
theorem zce:Tryz.prog.underlying 56=some (.slice 37):=by kernel_rfl
set_option maxHeartbeats 4000000 in
theorem z2i7(b off n c i vb voff vc:Nat)(cs vs:List Value)(w:World)(hi:i<n)(hroom:n+1≤c)(hbig:n≤1000000)
  (hcl:cs.length=n*3)(hvl:vs.length=3)
  (hcs:∀j v,cs[j]?=some v→w.cell? ⟨b,off+j,none⟩=some v)(hsp:∀j,j<(n+1)*3→(w.cell? ⟨b,off+j,none⟩).isSome=true)(hfz:∀j,j<(n+1)*3→w.frozen? ⟨b,off+j,none⟩=false)
  (hvs:∀j v,vs[j]?=some v→w.cell? ⟨vb,voff+j,none⟩=some v)(h1c:∀v∈cs,v.oneCell'=true)(h1v:∀v∈vs,v.oneCell'=true)
  (tA tB:TypeId)(kA kB:Nat)(hsa:w.shape? vb=some (tA,kA))(hsb:w.shape? b=some (tB,kB))(hkA:kA≠0)(hkB:kB≠0)(hst:stuck w ⟨b,off+(i+1)*3,none⟩=false)
  (hap:vb=b→∀j,j<(n+1)*3→∀q,q<3→off+j≠voff+q):
  Calls Tryz.prog z1qm #[.slice (some ⟨b,off,none⟩) n c,.int .i64 i,.slice (some ⟨vb,voff,none⟩) 1 vc] w fun e w'=>
   e=.returned (.slice (some ⟨b,off,none⟩) (n+1) c)∧w'=(w.drew.setCells b (off+(i+1)*3) (cs.drop (i*3))).setCells b (off+i*3) vs:=by
 have hsz:(Tryz.prog.info? 37).map (·.size)=some 3:=by
  obtain⟨i0,z0,h1,h2,h3,_⟩:=z152;rw[h1];simp[h3]
 have hzz:∀w,(Go.sizeOf 37).run Tryz.prog w=.ok 3 w:=Tryz.sizeOf37;have hov0:∀lb cb,lb≤n- i→(callFunc 242 #[.slice (some ⟨vb,voff,none⟩) 1 vc,.slice (some ⟨b,off+(i+1)*3,none⟩) lb cb]).run Tryz.prog w=.ok (.value (.bool false)) w:=fun lb cb hlb=>by
  rw[run_callFunc_extern Tryz.func242 (by kernel_rfl) (by kernel_rfl) (by kernel_rfl) (e:=Extern.SlicesOverlaps.overlaps #[56,56] #[4]) (by kernel_rfl),
   z1ql w 56 4 37 zce 3 hzz vb voff b (off+(i+1)*3) 1 vc lb cb tA tB kA kB hsa hsb hkA hkB hst (fun e=>?_)]
  ·rfl
  ·rintro⟨g1,g2⟩;by_cases g3:voff<off+(i+1)*3
   ·exact hap e ((i+1)*3) (by omega) (off+(i+1)*3- voff) (by omega) (by omega)
   ·exact hap e (voff- off) (by omega) 0 (by omega) (by omega)
 have hov1:=fun cb=>hov0 (n+1- (i+1)) cb (by omega);have hov2:=fun cb=>hov0 (n- i) cb (by omega);have hz2:¬((i:Int)=(n:Int)):=by omega
 have hdl:(cs.drop (i*3)).length=(n- i)*3:=by rw[yr,hcl];omega
 have mixed:Tryz.prog.follows .mixedOrders=true:=by kernel_rfl
 have hw1:IntKind.i64.wrap ((i:Int)+1)=(i:Int)+1:=by rw[IntKind.wrap_i64];omega
 have hw2:IntKind.i64.wrap ((n:Int)+1)=(n:Int)+1:=by rw[IntKind.wrap_i64];omega
 have hb1:(0:Int)≤(i:Int)+1:=by omega
 have hin:i≤n:=by omega
 have htn:((i:Int)+1).toNat=i+1:=by omega
 have htn2:((n:Int)+1).toNat=n+1:=by omega
 have hb2:¬(c=i+1):=by omega
 have hb3:(i:Int)≤(n:Int)+1:=by omega
 have hb4:¬(c=i):=by omega
 have hb5:(n:Int)+1≤c:=by omega
 have hb6:¬((c:Int)<(n:Int)+1):=by omega
 have hcp1:∀ty l dc sl sc,Nat.min sl l=n- i→(Builtin.copy_ #[56,56] ty #[.slice (some ⟨b,off+(i+1)*3,none⟩) l dc,.slice (some ⟨b,off+i*3,none⟩) sl sc]).run Tryz.prog w.drew=  .ok (goInt ((n- i:Nat):Int)) (w.drew.setCells b (off+(i+1)*3) (cs.drop (i*3))):=fun ty l dc sl sc hl=>by
  have:=zfi w.drew 56 56 ty 37 b (off+(i+1)*3) l dc ⟨b,off+i*3,none⟩ sl sc (cs.drop (i*3)) 3 zce hsz (by rw[hl,hdl])
   (fun j v hj=>by rw[Addr.add_lit,y1d];exact hcs (i*3+j) v (by rwa[y25]at hj))
   (fun j hj=>by rw[y1d];exact hsp _ (by omega)) (fun j hj=>by rw[y1d];exact hfz _ (by omega)) (fun v hv=>h1c v (y29 hv))
  rw[hl]at this;exact this
 obtain⟨W1,hW1⟩:∃W1,W1=w.drew.setCells b (off+(i+1)*3) (cs.drop (i*3)):=⟨_,rfl⟩;have hsp1:∀k,k<(n+1)*3→(W1.cell? ⟨b,off+k,none⟩).isSome=true:=fun k hk=>by
  rw[hW1];exact isSome_setCells b _ _ _ (fun j hj=>by rw[y1d];exact hsp _ (by omega)) _ (hsp k hk)
 have hcp2:∀(W:World),(∀x,W.cell? x=W1.cell? x)→(∀x,W.frozen? x=W1.frozen? x)→∀ty l dc,Nat.min 1 l=1→(Builtin.copy_ #[56,56] ty #[.slice (some ⟨b,off+i*3,none⟩) l dc,.slice (some ⟨vb,voff,none⟩) 1 vc]).run Tryz.prog W=.ok (goInt 1) (W.setCells b (off+i*3) vs):=fun W hWc hWf ty l dc hl=>by
  have:=zfi W 56 56 ty 37 b (off+i*3) l dc ⟨vb,voff,none⟩ 1 vc vs 3 zce hsz (by rw[hl,hvl])
   (fun j v hj=>by
    rw[Addr.add_lit,hWc,hW1,World.cell?_setCells_out b _ _ _ _ (fun h _=>?_)]
    ·exact hvs j v hj
    ·have hj3:j<3:=by have:=(yl.1 hj).1;omega
     rcases yj (voff+j) (off+(i+1)*3)with g|g
     ·exact .inl g
     ·refine .inr ?_;rcases yj (voff+j) (off+(i+1)*3+(cs.drop (i*3)).length)with g2|g2
      ·exact(hap h (voff+j- off) (by omega) j hj3 (by omega)).elim
      ·exact g2)
   (fun j hj=>by rw[hWc,y1d];exact hsp1 _ (by omega)) (fun j hj=>by rw[hWf,hW1,World.frozen?_setCells,y1d];exact hfz _ (by omega)) h1v
  rw[hl]at this;exact this
 have hcp2':=fun ty=>hcp2 (w.drew.setCells b (off+(i+1)*3) (cs.drop (i*3))) (fun x=>by rw[hW1]) (fun x=>by rw[hW1]) ty (n+1- i) (c- i) (by simp only[y3v];split<;>omega)
 go_enter Tryz.func223,Tryz.ntmps223
 go_wp2_with (simp only[hov1,hov2])
 go_region_law_o (refine step_copy_runI rfl _ _ 56 56 rfl _ _ (by simp[Act.eval,Act.put]) (by simp[Act.eval,Act.put]) (hcp1 _ (n- i) (c- (i+1)) (n+1- i) (c- i) (by simp only[y3v];split<;>omega)) ?_)
 go_wp2_with (simp only[hcp2'])
 go_ret
 first|exact⟨rfl,rfl⟩|exact⟨rfl,by rw[hW1]⟩
set_option maxHeartbeats 4000000 in
theorem z263(b off n c vb voff vc:Nat)(vs:List Value)(w:World)(hroom:n+1≤c)(hbig:n≤1000000)(hvl:vs.length=3)
  (hsp:∀j,j<3→(w.cell? ⟨b,off+n*3+j,none⟩).isSome=true)(hfz:∀j,j<3→w.frozen? ⟨b,off+n*3+j,none⟩=false)
  (hvs:∀j v,vs[j]?=some v→w.cell? ⟨vb,voff+j,none⟩=some v)(h1v:∀v∈vs,v.oneCell'=true):
  Calls Tryz.prog z1qm #[.slice (some ⟨b,off,none⟩) n c,.int .i64 n,.slice (some ⟨vb,voff,none⟩) 1 vc] w fun e w'=>
   e=.returned (.slice (some ⟨b,off,none⟩) (n+1) c)∧w'=w.setCells b (off+n*3) vs:=by
 have mixed:Tryz.prog.follows .mixedOrders=true:=by kernel_rfl
 obtain⟨i0,z0,hi0,hz0,h3,hb1,hb2,hz3⟩:=z152;have hsrc:Src Tryz.prog i0.size 56 (.slice (some ⟨vb,voff,none⟩) 1 vc) 1 vs w:=by
  rw[h3];exact Src.ofSlice w zce ⟨vb,voff,none⟩ 1 vc vs (by omega) (fun j u hj=>by rw[Addr.add_lit];exact hvs j u hj) h1v
 have hsp':∀j,j<vs.length→(w.cell? ⟨b,off+n*i0.size+j,none⟩).isSome=true:=by rw[h3,hvl];exact hsp
 have hfz':∀j,j<vs.length→w.frozen? ⟨b,off+n*i0.size+j,none⟩=false:=by rw[h3,hvl];exact hfz
 go_enter Tryz.func223,Tryz.ntmps223
 go_wp2_with (at_builtin;refine wpList_append_room_src _ rfl _ _ 56 56 rfl 37 i0 zce hi0 b off n c rfl _ rfl 1 vs hsrc hroom hsp' hfz' ?_)
 go_ret
 first|exact⟨rfl,rfl⟩|exact⟨rfl,by rw[h3]⟩
def z1qn(w:World)(n:Nat)(us:List Value)(e:Ending)(w':World):Prop:=
 ∃(G:Nat)(ROW:Array Value),e=.returned (.slice (some ⟨w.heap.size,0,none⟩) (n+1) G)∧n+1≤G∧ROW.size=G*3∧(∀(j:Nat) v,us[j]?=some v→ROW[j]?=some v)∧Ext w w'∧w'.heap[w.heap.size]?=some (.cells ROW 37 (0,0))
theorem z1kl(w:World)(o:Obj):(w.drew.alloc o).heap[w.heap.size]?=some o:=by
 show(w.heap.push o)[w.heap.size]?=some o;simp
theorem zwj{w:World}{k:Nat}:∀(vs:List Value)(o:Nat){w1:World},Ext w w1→w.heap.size≤k→Ext w (w1.setCells k o vs)
 |[],_,_,h,_=>h
 |v::r,o,_,h,hk=>zwj r (o+1) (h.setCell hk v) hk
theorem zwk{k:Nat}{t:TypeId}{fr:Nat×Nat}:∀(vs:List Value)(o:Nat){w1:World}{ROW:Array Value},w1.heap[k]?=some (.cells ROW t fr)→∃ROW',(w1.setCells k o vs).heap[k]?=some (.cells ROW' t fr)∧ROW'.size=ROW.size
 |[],_,_,ROW,h=>⟨ROW,h,rfl⟩
 |v::r,o,w1,ROW,h=>by
  have h1:(w1.setCell ⟨k,o,none⟩ v).heap[k]?=some (.cells (ROW.setIfInBounds o v) t fr):=by
   unfold World.setCell;simp[y3w,h]
  obtain⟨ROW',h2,h3⟩:=zwk r (o+1) h1;exact⟨ROW',h2,by rw[h3];simp⟩
set_option maxHeartbeats 4000000 in
theorem z1bo(base:Option Addr)(n vb voff vc:Nat)(cs vs:List Value)(w:World)(hbig:n≤1000000)(hcl:cs.length=n*3)(hvl:vs.length=3)(hnil:base=none→n=0)
  (hcs:∀a,base=some a→∀j v,cs[j]?=some v→w.cell? (a.add j)=some v)
  (hvs:∀j v,vs[j]?=some v→w.cell? ⟨vb,voff+j,none⟩=some v)(h1v:∀v∈vs,v.oneCell'=true):
  Calls Tryz.prog z1qm #[.slice base n n,.int .i64 n,.slice (some ⟨vb,voff,none⟩) 1 vc] w fun e w'=>
   z1qn w n (cs++vs) e w':=by
 have mixed:Tryz.prog.follows .mixedOrders=true:=by kernel_rfl
 obtain⟨i0,z0,hi0,hz0,h3,hb1,hb2,hz3⟩:=z152;have hsrc:Src Tryz.prog i0.size 56 (.slice (some ⟨vb,voff,none⟩) 1 vc) 1 vs w:=by
  rw[h3];exact Src.ofSlice w zce ⟨vb,voff,none⟩ 1 vc vs (by omega) (fun j u hj=>by rw[Addr.add_lit];exact hvs j u hj) h1v
 have hold:(Builtin.firstCells i0.size n (.slice base n n)).run Tryz.prog w.drew=.ok cs.toArray w.drew:=by
  rw[h3];cases base with
  |none=>
   have h0:=hnil rfl;subst h0;rw[yz (l:=cs) (by omega)];exact run_firstCells_none w.drew 3 0 0 0
  |some a=>exact run_firstCells_some w.drew 3 n a n n cs (by omega) (fun j v hj=>hcs a rfl j v hj)
 have hfit:Builtin.nextslicecap (n+1) n*i0.bytes≤281474976710656:=growslice_fits (by omega) (by
  have:(n+1)*i0.bytes≤1000001*100000:=y22 (by omega) hb1
  omega)
 have hrun:∀ty,(Builtin.append_ #[56,56] ty #[.slice base n n,.slice (some ⟨vb,voff,none⟩) 1 vc]).run Tryz.prog w=_:=fun ty=>
  run_append_grow_src w 56 56 ty 37 i0 _ zce hi0 hz0 base n n cs hold _ 1 vs hsrc (by omega) (by omega) hfit
 obtain⟨G,hG⟩:∃G,G=grownCap w (n+1) n 37:=⟨_,rfl⟩;obtain⟨ROW,hROW⟩:∃ROW:Array Value,ROW=(cs++vs).toArray++Builtin.zeroCells z0.cells (G- (n+1)):=⟨_,rfl⟩;rw[←hG,←hROW]at hrun;have hGn:n+1≤G:=by rw[hG];exact grownCap_ge w _ _ _
 have hsize:ROW.size=G*3:=by
  rw[hROW];simp[Builtin.zeroCells,hcl,hvl,hz3];omega
 have hget:∀(j:Nat) v,(cs++vs)[j]?=some v→ROW[j]?=some v:=fun j v hj=>by
  rw[hROW,y3t (by have:=(yl.1 hj).1;simpa using this)];simpa using hj
 have hnn:(n:Int)<(n:Int)+1:=by omega
 clear hROW hG hfit hold hsrc
 go_enter Tryz.func223,Tryz.ntmps223
 cases base with
 |none=>
  have h0:=hnil rfl;subst h0
  go_wp2_with (at_builtin;refine Lib.wpList_append_run _ rfl _ _ _ _ rfl _ _ rfl rfl _ _ (hrun _) ?_)
  go_ret;exact⟨G,ROW,by simp,hGn,hsize,hget,(Ext.refl w).drew.alloc _,z1kl w _⟩
 |some a=>
  obtain⟨ab,ao,asp⟩:=a
  go_wp2_with (at_builtin;refine Lib.wpList_append_run _ rfl _ _ _ _ rfl _ _ rfl rfl _ _ (hrun _) ?_)
  all_goals(go_ret;exact⟨G,ROW,by simp,hGn,hsize,hget,(Ext.refl w).drew.alloc _,z1kl w _⟩)
theorem z1bp(W:World)(k o:Nat)(vs:List Value):(W.drew.setCells k o vs).heap=(W.setCells k o vs).heap:=by rw[←drew_setCells];rfl
theorem z2ek{w W1:World}{G n i:Nat}{ROW:Array Value}{cs vs:List Value}(hi:i<n)(hRl:ROW.size=G*3)(hRg:∀(j:Nat),j<i*3→ROW[j]?=cs[j]?)(hGn:n+1≤G)(hcl:cs.length=n*3)(hvl:vs.length=3)
  (hW:∀k:Nat,W1.heap[k]?=((((w.drew.alloc (.cells ROW 37)).setCells w.heap.size (i*3) vs)).setCells w.heap.size ((i+1)*3) (cs.drop (i*3))).heap[k]?)
  (hE:Ext w W1):z1qn w n (cs.take (i*3)++vs++cs.drop (i*3)) (.returned (.slice (some ⟨w.heap.size,0,none⟩) (n+1) G)) W1:=by
 obtain⟨R1,h1,h1s⟩:=zwk vs (i*3) (z1kl w (.cells ROW 37));obtain⟨R2,h2,h2s⟩:=zwk (cs.drop (i*3)) ((i+1)*3) h1;have hdl:(cs.drop (i*3)).length=(n- i)*3:=by rw[yr,hcl];omega
 refine⟨G,R2,rfl,hGn,by omega,fun j v hj=>?_,hE,by rw[hW];exact h2⟩;have c0:∀j,(w.drew.alloc (.cells ROW 37)).cell? ⟨w.heap.size,j,none⟩=ROW[j]?:=fun j=>World.cell?_alloc_at (w:=w.drew) ROW _ w.heap.size j rfl;have c2:∀j,((((w.drew.alloc (.cells ROW 37)).setCells w.heap.size (i*3) vs)).setCells w.heap.size ((i+1)*3) (cs.drop (i*3))).cell? ⟨w.heap.size,j,none⟩=R2[j]?:=fun j=>by simp[World.cell?,h2]
 have is0:∀j,j<(n+1)*3→((w.drew.alloc (.cells ROW 37)).cell? ⟨w.heap.size,j,none⟩).isSome=true:=fun j hj=>by rw[c0,y2i (by omega)];rfl
 have is1:∀j,j<(n+1)*3→(((w.drew.alloc (.cells ROW 37)).setCells w.heap.size (i*3) vs).cell? ⟨w.heap.size,j,none⟩).isSome=true:=fun j hj=>isSome_setCells _ _ _ _ (fun t ht=>is0 _ (by omega)) _ (is0 _ hj);have hlt:j<(n+1)*3:=by have:=(yl.1 hj).1;simp only[y9,yq,hdl,hvl,hcl]at this;omega
 have htk:(cs.take (i*3)).length=i*3:=by rw[yq];omega
 rw[←c2];by_cases h3:j<(i+1)*3
 ·rw[World.cell?_setCells_out _ _ _ _ _ (fun _ _=>.inl h3)];by_cases h4:j<i*3
  ·rw[World.cell?_setCells_out _ _ _ _ _ (fun _ _=>.inl h4),c0,hRg j h4];rw[y11,y1a (by omega),y2q h4]at hj;exact hj
  ·have:=World.cell?_setCells_in w.heap.size vs (i*3) (w.drew.alloc (.cells ROW 37)) (fun q hq=>is0 _ (by omega)) (j- i*3) (by omega);rw[show i*3+(j- i*3)=j by omega]at this;rw[this,←hj,y11,y1i (by omega),htk,y1a (by omega),ya]
 ·have:=World.cell?_setCells_in w.heap.size (cs.drop (i*3)) ((i+1)*3) ((w.drew.alloc (.cells ROW 37)).setCells w.heap.size (i*3) vs) (fun q hq=>is1 _ (by omega)) (j- (i+1)*3) (by omega);rw[show(i+1)*3+(j- (i+1)*3)=j by omega]at this;rw[this,←hj,y1i (by rw[y9];omega),y9,htk,hvl,show i*3+3=(i+1)*3 by omega,ya]
set_option maxHeartbeats 4000000 in
theorem z2kz(b off n i vb voff vc:Nat)(cs vs:List Value)(w:World)(hi:i<n)(hbig:n≤1000000)
  (hcl:cs.length=n*3)(hvl:vs.length=3)
  (hcs:∀j v,cs[j]?=some v→w.cell? ⟨b,off+j,none⟩=some v) 
  (hvs:∀j v,vs[j]?=some v→w.cell? ⟨vb,voff+j,none⟩=some v)(h1c:∀v∈cs,v.oneCell'=true)(h1v:∀v∈vs,v.oneCell'=true):
  Calls Tryz.prog z1qm #[.slice (some ⟨b,off,none⟩) n n,.int .i64 i,.slice (some ⟨vb,voff,none⟩) 1 vc] w fun e w'=>
   z1qn w n (cs.take (i*3)++vs++cs.drop (i*3)) e w':=by
 have mixed:Tryz.prog.follows .mixedOrders=true:=by kernel_rfl
 obtain⟨i0,z0,hi0,hz0,h3,hbb1,hbb2,hz3⟩:=z152;have hsz:(Tryz.prog.info? 37).map (·.size)=some 3:=by rw[hi0];simp[h3]
 have hz2:¬((i:Int)=(n:Int)):=by omega
 have hz4:(n:Int)<(n:Int)+1:=by omega
 have hbw:b<w.heap.size:=block_lt_of_cell (hcs 0 _ (ya (by omega)));have hvw:vb<w.heap.size:=block_lt_of_cell (hvs 0 _ (ya (by omega)));have hkk:(n:Int)+1- (i:Int)=((n+1- i:Nat):Int):=by omega
 have hik:i+(n+1- i)=n+1:=by omega
 have htk:(cs.take (i*3)).length=i*3:=by rw[yq];omega
 have hold:(Builtin.firstCells i0.size i (.slice (some ⟨b,off,none⟩) i n)).run Tryz.prog w.drew=.ok (cs.take (i*3)).toArray w.drew:=by
  rw[h3]
  exact run_firstCells_some w.drew 3 i ⟨b,off,none⟩ i n (cs.take (i*3)) htk (fun j v hj=>by
   rw[Addr.add_lit];rw[List.getElem?_take]at hj;split at hj
   ·exact hcs j v hj
   ·cases hj)
 have hfit:Builtin.nextslicecap (n+1) n*i0.bytes≤281474976710656:=growslice_fits (by omega) (by
  have:(n+1)*i0.bytes≤1000001*100000:=y22 (by omega) hbb1
  omega)
 have hfit2:(n+1- i)*i0.bytes≤281474976710656:=by
  have:(n+1- i)*i0.bytes≤1000001*100000:=y22 (by omega) hbb1;omega
 have hint:Tryz.prog.underlying 3=some (.int .i64):=by kernel_rfl
 obtain⟨G,hG⟩:∃G,G=grownCap w (n+1) n 37:=⟨_,rfl⟩;obtain⟨ROW,hROW⟩:∃ROW:Array Value,ROW=(cs.take (i*3)).toArray++Builtin.zeroCells z0.cells (n+1- i)++Builtin.zeroCells z0.cells (G- (n+1)):=⟨_,rfl⟩
 have hrz:∀ty,(Builtin.append_ #[56,3] ty #[.slice (some ⟨b,off,none⟩) i n,.int .i64 ((n:Int)+1- (i:Int))]).run Tryz.prog w=
   .ok (.slice (some ⟨w.heap.size,0,none⟩) (n+1) G) (w.drew.alloc (.cells ROW 37)):=fun ty=>by
  have h:=Lib.run_append_grow_zeros w 56 3 ty 37 i0 _ .i64 .i64 zce hint hi0 hz0 (some ⟨b,off,none⟩) i n (cs.take (i*3)) hold (n+1- i) (by omega) (by omega) (by omega) (by omega) hfit2 (by rw[hik];exact hfit);rw[hik,←hG,←hROW]at h;rw[hkk];exact h
 have hGn:n+1≤G:=by rw[hG];exact grownCap_ge w _ _ _
 have hG63:G≤9223372036854775807:=by
  have:=grownCap_le_maxLen w (n+1) n 37 (by unfold maxLen;omega);rw[←hG]at this;unfold maxLen at this;omega
 have hRl:ROW.size=G*3:=by
  rw[hROW];simp[Builtin.zeroCells,htk,hz3];omega
 have hRg:∀(j:Nat),j<i*3→ROW[j]?=cs[j]?:=fun j hj=>by
  rw[hROW,Array.append_assoc,y3t (by simp[htk];omega)];simp[List.getElem?_take,hj]
 obtain⟨W1,hW1⟩:∃W1,W1=w.drew.alloc (.cells ROW 37):=⟨_,rfl⟩;rw[←hW1]at hrz;have hN:∀j,j<(n+1)*3→(W1.cell? ⟨w.heap.size,j,none⟩).isSome=true:=fun j hj=>by
  rw[hW1,World.cell?_alloc_at (w:=w.drew) ROW _ w.heap.size j rfl,y2i (by omega)];rfl
 have hNf:∀j,W1.frozen? ⟨w.heap.size,j,none⟩=false:=fun j=>by rw[hW1];exact World.frozen?_alloc_at (w:=w.drew) ROW _ w.heap.size j rfl
 have hOb:∀j v,w.cell? ⟨b,j,none⟩=some v→W1.cell? ⟨b,j,none⟩=some v:=fun j v h=>by rw[hW1,World.cell?_alloc_past (w:=w.drew) _ b j hbw];exact h
 have hOv:∀j v,w.cell? ⟨vb,j,none⟩=some v→W1.cell? ⟨vb,j,none⟩=some v:=fun j v h=>by rw[hW1,World.cell?_alloc_past (w:=w.drew) _ vb j hvw];exact h
 have hcpA:∀(W:World),(∀x,W.cell? x=W1.cell? x)→(∀x,W.frozen? x=W1.frozen? x)→∀ty dc,(Builtin.copy_ #[56,56] ty #[.slice (some ⟨w.heap.size,i*3,none⟩) (n+1- i) dc,.slice (some ⟨vb,voff,none⟩) 1 vc]).run Tryz.prog W=.ok (goInt 1) (W.setCells w.heap.size (i*3) vs):=fun W hWc hWf ty dc=>by
  have hm:Nat.min 1 (n+1- i)=1:=by simp only[y3v];split<;>omega
  have:=zfi W 56 56 ty 37 w.heap.size (i*3) (n+1- i) dc ⟨vb,voff,none⟩ 1 vc vs 3 zce hsz (by rw[hm,hvl])
   (fun j v hj=>by rw[Addr.add_lit,hWc];exact hOv _ v (hvs j v hj))
   (fun j hj=>by rw[hWc];exact hN _ (by omega)) (fun j hj=>by rw[hWf];exact hNf _) h1v
  rw[hm]at this;exact this
 have hGi:¬(G=i):=by omega
 have hGim:¬(G=i+1):=by omega
 have hci:¬(n=i):=by omega
 have hbN:b≠w.heap.size:=by omega
 have hdl:(cs.drop (i*3)).length=(n- i)*3:=by rw[yr,hcl];omega
 have hcpB:∀(W:World),(∀x,W.cell? x=(W1.setCells w.heap.size (i*3) vs).cell? x)→(∀x,W.frozen? x=(W1.setCells w.heap.size (i*3) vs).frozen? x)→∀ty dc sc,(Builtin.copy_ #[56,56] ty #[.slice (some ⟨w.heap.size,(i+1)*3,none⟩) (n- i) dc,.slice (some ⟨b,off+i*3,none⟩) (n- i) sc]).run Tryz.prog W=.ok (goInt ((n- i:Nat):Int)) (W.setCells w.heap.size ((i+1)*3) (cs.drop (i*3))):=fun W hWc hWf ty dc sc=>by
  have hm:Nat.min (n- i) (n- i)=n- i:=by simp only[y3v];split<;>rfl
  have:=zfi W 56 56 ty 37 w.heap.size ((i+1)*3) (n- i) dc ⟨b,off+i*3,none⟩ (n- i) sc (cs.drop (i*3)) 3 zce hsz (by rw[hm,hdl])
   (fun j v hj=>by
    rw[Addr.add_lit,hWc,World.cell?_setCells_out _ _ _ _ _ (fun h _=>absurd h hbN),y1d]
    exact hOb _ v (hcs (i*3+j) v (by rwa[y25]at hj)))
   (fun j hj=>by rw[hWc];exact isSome_setCells _ _ _ _ (fun t ht=>hN _ (by omega)) _ (hN _ (by omega)))
   (fun j hj=>by rw[hWf,World.frozen?_setCells];exact hNf _) (fun v hv=>h1c v (y29 hv))
  rw[hm]at this;exact this
 subst hW1;have hE1:∀x,((w.alloc (.cells ROW 37)).drew).cell? x=(w.drew.alloc (.cells ROW 37)).cell? x:=fun x=>rfl;have hE2:∀x,((w.alloc (.cells ROW 37)).drew).frozen? x=(w.drew.alloc (.cells ROW 37)).frozen? x:=fun x=>rfl;have hF1:∀x,(((w.alloc (.cells ROW 37)).drew.setCells w.heap.size (i*3) vs).drew).cell? x=((w.drew.alloc (.cells ROW 37)).setCells w.heap.size (i*3) vs).cell? x:=fun x=>rfl;have hF2:∀x,(((w.alloc (.cells ROW 37)).drew.setCells w.heap.size (i*3) vs).drew).frozen? x=((w.drew.alloc (.cells ROW 37)).setCells w.heap.size (i*3) vs).frozen? x:=fun x=>rfl;have hw1:IntKind.i64.wrap ((i:Int)+1)=(i:Int)+1:=by rw[IntKind.wrap_i64];omega
 have hw2:IntKind.i64.wrap ((n:Int)+1)=(n:Int)+1:=by rw[IntKind.wrap_i64];omega
 have hw3:IntKind.i64.wrap ((n:Int)+1- i)=(n:Int)+1- i:=by rw[IntKind.wrap_i64];omega
 have hb1:(0:Int)≤(i:Int)+1:=by omega
 have hin:i≤n:=by omega
 have htn:((i:Int)+1).toNat=i+1:=by omega
 have hb3:(i:Int)≤(n:Int):=by omega
 have hb7:(i:Int)+1≤(n:Int)+1:=by omega
 have hcpB':=fun ty dc sc=>hcpB _ hF1 hF2 ty dc sc;clear hkk hik hold hROW hG hfit hfit2
 go_enter Tryz.func223,Tryz.ntmps223
 go_wp2_with (first
  |(at_builtin;refine Lib.wpList_append_run _ rfl _ _ _ _ rfl _ _ rfl rfl _ _ (hrz _) ?_)
  |(at_builtin;refine wpList_copy_runI _ rfl _ _ 56 56 rfl _ _ rfl rfl (hcpA _ hE1 hE2 _ _) ?_))
 go_region_law_o (refine step_copy_runI rfl _ _ 56 56 rfl (.slice (some ⟨w.heap.size,(i+1)*3,none⟩) (n- i) (G- (i+1))) (.slice (some ⟨b,off+i*3,none⟩) (n- i) (n- i)) (by simp[Act.eval,Act.put]) (by simp[Act.eval,Act.put]) (hcpB _ hF1 hF2 3 (G- (i+1)) (n- i)) ?_)
 go_wp2
 go_ret;refine z2ek hi hRl hRg hGn hcl hvl (fun k=>?_) ?_
 ·exact congrArg (fun h:Array Obj=>h[k]?) (z1bp ((w.drew.alloc (.cells ROW 37)).setCells w.heap.size (i*3) vs) w.heap.size ((i+1)*3) (cs.drop (i*3)))
 ·exact(zwj _ _ ((zwj _ _ ((Ext.refl w).alloc _).drew (y6 _)).drew) (y6 _))
def RowRel(St:Nat→Nat→Prop)(w:World)(xs:List Val)(us:List Value):Prop:=
 us.length=xs.length*3∧∀e(he:e<xs.length) j d,(enc .val xs[e])[j]?=some d→∃u,us[e*3+j]?=some u∧VRel En St w u d
theorem enc3(x:Val){j:Nat}{d:V Un}(h:(enc .val x)[j]?=some d):j<3:=by
 have h0:=(yl.1 h).1;rw[zgx]at h0;exact h0
theorem RowRel.append{St:Nat→Nat→Prop}{w:World}{xs ys:List Val}{us vs:List Value}(h:RowRel St w xs us)(k:RowRel St w ys vs):RowRel St w (xs++ys) (us++vs):=by
 refine⟨by rw[y9,y9,h.1,k.1,y1k],fun e he j d hd=>?_⟩;rw[y9]at he;by_cases h1:e<xs.length
 ·rw[List.getElem_append_left h1]at hd;obtain⟨u,h2,h3⟩:=h.2 e h1 j d hd;exact⟨u,by rw[y1a (yl.1 h2).1];exact h2,h3⟩
 ·rw[List.getElem_append_right (by omega)]at hd;obtain⟨u,h2,h3⟩:=k.2 (e- xs.length) (by omega) j d hd;refine⟨u,?_,h3⟩;rw[y1i (by rw[h.1];have:=y1e 3 (show xs.length≤e by omega);omega),h.1];rw[show e*3+j- xs.length*3=(e- xs.length)*3+j by omega];exact h2
theorem RowRel.take{St:Nat→Nat→Prop}{w:World}{xs:List Val}{us:List Value}(h:RowRel St w xs us)(i:Nat):RowRel St w (xs.take i) (us.take (i*3)):=by
 refine⟨by rw[yq,yq,h.1];omega,fun e he j d hd=>?_⟩;rw[yq]at he;rw[List.getElem_take]at hd;have hj:=enc3 _ hd;obtain⟨u,h2,h3⟩:=h.2 e (by omega) j d hd;exact⟨u,by rw[y2q (by omega)];exact h2,h3⟩
theorem RowRel.drop{St:Nat→Nat→Prop}{w:World}{xs:List Val}{us:List Value}(h:RowRel St w xs us)(i:Nat):RowRel St w (xs.drop i) (us.drop (i*3)):=by
 refine⟨by rw[yr,yr,h.1];omega,fun e he j d hd=>?_⟩;rw[yr]at he;rw[List.getElem_drop]at hd;obtain⟨u,h2,h3⟩:=h.2 (i+e) (by omega) j d hd;exact⟨u,by rw[y25,show i*3+(e*3+j)=(i+e)*3+j by omega];exact h2,h3⟩
theorem RowRel.one{St:Nat→Nat→Prop}{w:World}{xs:List Val}{us:List Value}(h:RowRel St w xs us):∀u∈us,u.oneCell'=true:=by
 intro u hu;obtain⟨q,hq⟩:=y1u hu;have hlt:=(yl.1 hq).1;rw[h.1]at hlt;have he:q/3<xs.length:=by omega
 have hl:q % 3<(enc .val (xs[q/3]'he)).length:=by rw[zgx];exact y2o _ (by decide)
 obtain⟨u',h2,h3⟩:=h.2 (q/3) he (q % 3) _ (ya hl);rw[show q/3*3+q % 3=q by omega,hq]at h2;cases h2;exact z1sg h3.one
theorem RowRel.of{St:Nat→Nat→Prop}{w:World}{xs:List Val}{cv:Nat→Nat→Value}(h:∀i(hi:i<xs.length) j d,(enc .val xs[i])[j]?=some d→VRel En St w (cv i j) d):RowRel St w xs (z7c xs.length 3 cv):=
 ⟨zud _ _ _,fun e he j d hd=>⟨_,z1qi (by decide) he (enc3 _ hd),h e he j d hd⟩⟩
theorem zfj(b:Nat):∀(vs:List Value)(o:Nat)(w:World),(∀j,j<vs.length→(w.cell? ⟨b,o+j,none⟩).isSome=true)→Stored w (w.setCells b o vs) b o vs
 |[],o,w,_=>⟨rfl,rfl,rfl,rfl,fun _ _=>rfl,fun i v h=>by simp at h,fun _ _=>rfl,fun _=>rfl,fun _=>rfl⟩
 |v::r,o,w,h=>by
  have hs:∀j,j<r.length→((w.setCell ⟨b,o,none⟩ v).cell? ⟨b,o+1+j,none⟩).isSome=true:=fun j hj=>by
   rw[World.cell?_setCell_other _ _ _ _ (by simp)];have:=h (j+1) (by simp;omega);rwa[show o+(j+1)=o+1+j by omega]at this
  have ih:=zfj b r (o+1) (w.setCell ⟨b,o,none⟩ v) hs;refine⟨ih.os,ih.tape,ih.output,by rw[World.setCells,ih.size];simp,fun k hk=>by rw[World.setCells,ih.block k hk];exact Below.heap_setCell _ _ _ _ hk,fun i u hu=>?_,fun p hp=>?_,fun p=>?_,by simp⟩
  ·have:=World.cell?_setCells_in b (v::r) o w h i (yl.1 hu).1;rw[this];obtain⟨_,h2⟩:=yl.1 hu;exact congrArg some h2
  ·rw[World.setCells,ih.other p (by simp only[yt]at hp;omega)];exact World.cell?_setCell_other _ _ _ _ (by rintro rfl;simp only[yt]at hp;omega)
  ·rw[World.setCells,ih.frozen p];exact zsa _ _ _ _
theorem z2el{w w1 w2:World}{b off o1 o2:Nat}{us v1 v2:List Value}(h1:Stored w.drew w1 b o1 v1)(h2:Stored w1 w2 b o2 v2)(hne:us≠[])(hb1:off≤o1∧o1+v1.length≤off+us.length)(hb2:off≤o2∧o2+v2.length≤off+us.length)
  (hin:∀(j:Nat) v,us[j]?=some v→w2.cell? ⟨b,off+j,none⟩=some v):Stored w w2 b off us:=
 ⟨h2.os.trans h1.os,h2.tape.trans h1.tape,h2.output.trans h1.output,h2.size.trans h1.size,fun k hk=>(h2.block k hk).trans (h1.block k hk),hin,fun p hp=>(h2.other p (by omega)).trans (h1.other p (by omega)),fun p=>(h2.frozen p).trans (h1.frozen p),fun h=>(hne h).elim⟩
theorem z1km{w:World}{b off n i:Nat}{cs vs:List Value}(hi:i≤n)(hcl:cs.length=n*3)(hvl:vs.length=3)(hcs:∀j v,cs[j]?=some v→w.cell? ⟨b,off+j,none⟩=some v)(hsp:∀j,j<(n+1)*3→(w.cell? ⟨b,off+j,none⟩).isSome=true):
  Stored w ((w.drew.setCells b (off+(i+1)*3) (cs.drop (i*3))).setCells b (off+i*3) vs) b off (cs.take (i*3)++vs++cs.drop (i*3)):=by
 have hdl:(cs.drop (i*3)).length=(n- i)*3:=by rw[yr,hcl];omega
 have htk:(cs.take (i*3)).length=i*3:=by rw[yq];omega
 have h1:=zfj b (cs.drop (i*3)) (off+(i+1)*3) w.drew (fun j hj=>by rw[y1d];exact hsp _ (by omega));have hs1:∀j,j<(n+1)*3→((w.drew.setCells b (off+(i+1)*3) (cs.drop (i*3))).cell? ⟨b,off+j,none⟩).isSome=true:=fun j hj=>isSome_setCells _ _ _ _ (fun t ht=>by rw[y1d];exact hsp _ (by omega)) _ (hsp _ hj);have h2:=zfj b vs (off+i*3) _ (fun j hj=>by rw[y1d];exact hs1 (i*3+j) (by omega));have hul:(cs.take (i*3)++vs++cs.drop (i*3)).length=(n+1)*3:=by simp only[y9];omega
 refine z2el h1 h2 (fun h=>by rw[h]at hul;simp at hul) (by omega) (by omega) (fun j v hj=>?_);have hlt:j<(n+1)*3:=by have:=(yl.1 hj).1;omega
 by_cases h3:j<i*3
 ·rw[h2.other ⟨b,off+j,none⟩ (.inl (by show off+j<_;omega)),h1.other ⟨b,off+j,none⟩ (.inl (by show off+j<_;omega))];rw[y11,y1a (by omega),y2q h3]at hj;exact hcs j v hj
 ·by_cases h4:j<(i+1)*3
  ·have:=h2.cell (j- i*3) v (by rw[←hj,y11,y1i (by omega),htk,y1a (by omega)]);rw[show off+i*3+(j- i*3)=off+j by omega]at this;exact this
  ·rw[h2.other ⟨b,off+j,none⟩ (.inr (.inl (by show _≤off+j;omega)))];have:=h1.cell (j- (i+1)*3) v (by rw[←hj,y1i (by rw[y9];omega),y9,htk,hvl,show i*3+3=(i+1)*3 by omega]);rw[show off+(i+1)*3+(j- (i+1)*3)=off+j by omega]at this;exact this
theorem z1v2{w:World}{b off n:Nat}{cs vs:List Value}(hcl:cs.length=n*3)(hvl:vs.length=3)(hcs:∀j v,cs[j]?=some v→w.cell? ⟨b,off+j,none⟩=some v)(hsp:∀j,j<(n+1)*3→(w.cell? ⟨b,off+j,none⟩).isSome=true):
  Stored w (w.setCells b (off+n*3) vs) b off (cs++vs):=by
 have h2:=zfj b vs (off+n*3) w (fun j hj=>by rw[y1d];exact hsp (n*3+j) (by omega));have hul:(cs++vs).length=(n+1)*3:=by simp only[y9];omega
 refine⟨h2.os,h2.tape,h2.output,h2.size,h2.block,fun j v hj=>?_,fun p hp=>h2.other p (by omega),h2.frozen,fun h=>by rw[h]at hul;simp at hul⟩;by_cases h3:j<n*3
 ·rw[h2.other ⟨b,off+j,none⟩ (.inl (by show off+j<_;omega))];rw[y1a (by omega)]at hj;exact hcs j v hj
 ·have:=h2.cell (j- n*3) v (by rw[←hj,y1i (by omega),hcl]);rw[show off+n*3+(j- n*3)=off+j by omega]at this;exact this
theorem z2l0{g:G}{w w':World}{xs ys:List Val}{b off cap:Nat}{us:List Value}(hp:Part Tryz.prog En g w [] [⟨0,.val,xs,some 0,true⟩])(htk:g.tk 0=(some ⟨b,off,none⟩,cap))(hst:Stored w w' b off us)(hcap:ys.length≤cap)(hxy:xs.length≤ys.length)(hbig:ys.length≤9223372036854775807)
  (hA:∀x,x<cap*3→g.ω b (off+x)=some (.obj 0)∧(∃v,w.cell? ⟨b,off+x,none⟩=some v)∧stuck w ⟨b,off+x,none⟩=false)(hrel:RowRel g.St w ys us):
  RetG Tryz.prog En g w w' (.slice (some ⟨b,off,none⟩) ys.length cap) [.c (.ob 0 0)] [] [⟨0,.val,ys,some 0,true⟩]:=by
 have hul:=hrel.1;have hcap3:ys.length*3≤cap*3:=y1e 3 hcap;have hmine:∀x,x<cap*3→g.mine b (off+x):=fun x hx=>⟨.obj 0,by simp,(hA x hx).1⟩
 have hk:Keeps g.St w g.St w':=fun b' o hs=>⟨hs,hst.other ⟨b',o,none⟩ (by
  by_cases e:b'=b
  ·subst e;by_cases h1:o<off
   ·exact .inl h1
   ·by_cases h2:off+us.length≤o
    ·exact .inr (.inl h2)
    ·have:=(hA (o- off) (by omega)).1;rw[show off+(o- off)=o by omega]at this;have hs':g.ω b' o=some .st:=hs;rw[this]at hs';simp at hs'
  ·exact .inr (.inr e))⟩
 have hobj:ObRel En g w' 0 ⟨0,.val,ys,some 0,true⟩:=by
  refine⟨⟨⟨by rw[htk];exact hcap,hbig⟩,fun f hf=>by simp at hf;subst hf;exact yb _⟩,fun _=>⟨b,off,fun i j=>us.getD (i*3+j) undef,by rw[htk],⟨?_,?_,?_⟩⟩⟩
  ·intro i j hi hj;have hi':i<ys.length:=hi;have hj':j<3:=hj;have hlt:i*3+j<ys.length*3:=by omega
   have e0:off+i*Un.sz .val+j=off+(i*3+j):=by show off+i*3+j=_;omega
   show w'.cell? ⟨b,off+i*Un.sz .val+j,none⟩=_∧Mode g w' 0 (some 0) i b (off+i*Un.sz .val+j);rw[e0];refine⟨?_,fun h=>absurd h (y18 _),fun _=>⟨(hA _ (by omega)).1,by rw[hst.frozen];exact(hA _ (by omega)).2.2⟩⟩;rw[yd,ya (by omega)];exact hst.cell _ _ (ya (by omega))
  ·intro i hi j d hd;obtain⟨u,h1,h2⟩:=hrel.2 i hi j d hd;show VRel En g.St w' (us.getD (i*3+j) undef) d;rw[yd,h1];exact h2.mono hk
  ·intro _ x hx hx';have hx1:ys.length*3≤x:=hx;have hx2:x<cap*3:=by rw[htk]at hx';exact hx'
   obtain⟨h1,⟨v,h2⟩,h3⟩:=hA x hx2;exact⟨h1,⟨v,by rw[hst.other ⟨b,off+x,none⟩ (.inr (.inl (by show _≤off+x;omega)))];exact h2⟩,by rw[hst.frozen];exact h3⟩
 have hnb:∀b o,LB b=true→¬g.mine b o:=fun b o hl hm=>by obtain⟨y,hy,hx⟩:=hm;exact hy (hp.nlb b o y hl hx)
 have hfe:=FExt.stored (fr:=⟨w,g.mine,g.St,0,g.β⟩) (w:=w) ⟨rfl,rfl,rfl,y6 _,fun _ _ _=>rfl,fun _ _ _ _=>rfl,fun _ _ _ _=>rfl,hp.laid,fun b hl=>hp.laid.lt b hl,hnb⟩ hst (fun i hi=>.inr (hmine i (by omega)));refine⟨g,hfe,⟨fun k fz cells hk'=>by simp at hk',hp.lbs,fun k o ho=>?_,fun b' o x hx=>by rw[hst.size];exact hp.own b' o x hx,hfe.laid,hp.nlb⟩,fun _ _=>rfl,fun b' o x _ hx=>?_,?_⟩
 ·cases k with
  |zero=>simp at ho;subst ho;exact⟨hobj,rfl⟩
  |succ k=>simp at ho
 ·cases x with
  |st=>exact .inr ⟨rfl,hx⟩
  |box k=>exact .inl ⟨_,by simp,hx⟩
  |obj k=>exact .inl ⟨_,by simp,hx⟩
 ·exact⟨rfl,_,rfl,y6 _,fun _=>by rw[htk]⟩
open Classical in
theorem z1kn{g:G}{w w':World}{ys:List Val}{n:Nat}{us:List Value}{e:Ending}(hld:Laid w)(hnl:∀b o x,LB b=true→g.ω b o=some x→x=.st)(hlb:∀k,¬g.lb k)(hown:∀b o x,g.ω b o=some x→b<w.heap.size)(hI:z1qn w n us e w')(hn:ys.length=n+1)(hbig:ys.length≤9223372036854775807)(hrel:RowRel g.St w ys us):
  ∃v,e=.returned v∧RetG Tryz.prog En g w w' v [.c (.ob 0 0)] [] [⟨0,.val,ys,some 0,true⟩]:=by
 obtain⟨cap,ROW,rfl,hcap,hsz,hget,hext,hheap⟩:=hI;refine⟨_,rfl,?_⟩;have hul:=hrel.1;have hcap3:ys.length*3≤cap*3:=y1e 3 (by omega);have hgb:w.heap.size<w'.heap.size:=(y2v.1 hheap).1;have hcell:∀q,q<cap*3→w'.cell? ⟨w.heap.size,q,none⟩=ROW[q]?∧(∃u,w'.cell? ⟨w.heap.size,q,none⟩=some u)∧stuck w' ⟨w.heap.size,q,none⟩=false:=by
  intro q hq;have h1:w'.cell? ⟨w.heap.size,q,none⟩=ROW[q]?:=by simp[World.cell?,hheap]
  refine⟨h1,⟨ROW[q]'(by omega),by rw[h1];exact y2i _⟩,?_⟩;simp[stuck,World.shape?,World.frozen?,hheap]
 let g':G:=⟨g.β,fun _=>False,fun b o=>if b<w.heap.size then(if g.St b o then some .st else none)else if b=w.heap.size∧o<cap*3 then some (.obj 0)else none,fun _=>(some ⟨w.heap.size,0,none⟩,cap)⟩;have hω:∀o,o<cap*3→g'.ω w.heap.size o=some (.obj 0):=fun o ho=>by
  show(if w.heap.size<w.heap.size then _ else _)=_;rw[if_neg (by omega),if_pos ⟨rfl,ho⟩]
 have hk:Keeps g.St w g'.St w':=fun b o hs=>by
  have hb:=hown b o _ hs;refine⟨?_,hext.cell (p:=⟨b,o,none⟩) hb⟩;show(if b<w.heap.size then _ else _)=_;rw[if_pos hb,if_pos hs]
 have hnb:∀b o,LB b=true→¬g.mine b o:=fun b o hl hm=>by obtain⟨y,hy,hx⟩:=hm;exact hy (hnl b o y hl hx)
 refine⟨g',FExt.later ⟨rfl,rfl,rfl,y6 _,fun _ _ _=>rfl,fun _ _ _ _=>rfl,fun _ _ _ _=>rfl,hld,fun b hl=>hld.lt b hl,hnb⟩ hext,⟨fun k fz cells hk'=>by simp at hk',fun k hk'=>hk'.elim,fun k o ho=>?_,fun b o x hx=>?_,hld.ext hext,fun b o x hl hx=>?_⟩,fun _ _=>rfl,fun b o x hb hx=>?_,?_⟩
 ·cases k with
  |succ k=>simp at ho
  |zero=>
   simp at ho;subst ho;refine⟨⟨⟨⟨by show ys.length≤cap;omega,hbig⟩,fun f hf=>by simp at hf;subst hf;exact yb _⟩,fun _=>⟨w.heap.size,0,fun i j=>us.getD (i*3+j) undef,rfl,⟨?_,?_,?_⟩⟩⟩,rfl⟩
   ·intro i j hi hj;have hi':i<ys.length:=hi;have hj':j<3:=hj;have hlt:i*3+j<ys.length*3:=by omega
    have e0:0+i*Un.sz .val+j=i*3+j:=by show 0+i*3+j=_;omega
    show w'.cell? ⟨w.heap.size,0+i*Un.sz .val+j,none⟩=_∧Mode g' w' 0 (some 0) i w.heap.size (0+i*Un.sz .val+j);rw[e0];obtain⟨c1,_,c3⟩:=hcell (i*3+j) (by omega);refine⟨?_,fun h=>absurd h (y18 _),fun _=>⟨hω _ (by omega),c3⟩⟩;rw[c1,yd,ya (by omega)];exact hget _ _ (ya (by omega))
   ·intro i hi j d hd;obtain⟨u,h1,h2⟩:=hrel.2 i hi j d hd;show VRel En g'.St w' (us.getD (i*3+j) undef) d;rw[yd,h1];exact h2.mono hk
   ·intro _ x hx hx';have hx2:x<cap*3:=hx';obtain⟨_,c2,c3⟩:=hcell x hx2;show g'.ω w.heap.size (0+x)=_∧_;rw[y16];exact⟨hω x hx2,c2,c3⟩
 ·have hx':(if b<w.heap.size then(if g.St b o then some Own.st else none)else if b=w.heap.size∧o<cap*3 then some (Own.obj 0)else none)=some x:=hx;split at hx'
  ·omega
  ·split at hx'
   ·rename_i hh;omega
   ·simp at hx'
 ·have hx':(if b<w.heap.size then(if g.St b o then some Own.st else none)else _)=some x:=hx;rw[if_pos (hld.lt b hl)]at hx';split at hx'
  ·simp at hx';exact hx'.symm
  ·simp at hx'
 ·have hx':(if b<w.heap.size then(if g.St b o then some Own.st else none)else _)=some x:=hx;rw[if_pos hb]at hx';split at hx'
  ·rename_i hs;simp at hx';exact .inr ⟨hx'.symm,hs⟩
  ·simp at hx'
 ·exact⟨rfl,_,rfl,y6 _,fun _=>by rw[hn]⟩
def zwl:List Bool×FnG Un:=([true],fun args bxs os=>match args,bxs,os with
 |[.c (.ob 0 0),x1,x2],[],[o]=>(oM .val o).bind fun xs=>(aI .i64 x1).bind fun i=>(aL .val x2).bind fun vs=>some ([(0≤i∧i≤(xs.length:Int))∧xs.length≤1000000∧vs.length=1],[.c (.ob 0 0)],[],[⟨0,.val,xs.take i.toNat++vs++xs.drop i.toNat,some 0,true⟩])
 |_,_,_=>none)
theorem z1v3:GnOK z1qm zwl:=by
 intro args bxs obs ob rs bxs' obs' h hob;unfold zwl at h;dsimp only at h;split at h
 ·rename_i x1 x2 o;simp only[y7,y8,ym]at h;obtain⟨xs,e0,i,e1,vs,e2,rfl,rfl,rfl,rfl⟩:=h;obtain rfl:=z21r e0;obtain rfl:=z1mm e1;obtain rfl:=z2mb e2;obtain⟨⟨hi0,hi1⟩,hbig,hv1⟩:=hob _ (yi.2 rfl);refine⟨?_,zk Tryz.func223 (by kernel_rfl) (by kernel_rfl)⟩;obtain⟨i,rfl⟩:∃k:Nat,i=k:=⟨i.toNat,(y3x hi0).symm⟩;rw[y5];have hin:i≤xs.length:=by omega
  intro w g vals hp hvals
  match vals,hvals with
  |[v0,v1,v2],⟨h0,h1,h2,_⟩=>
   obtain⟨_,o',ho',_,hv⟩:=h0;simp at ho';subst ho';have hv:=hv rfl;obtain rfl:v1=.int .i64 i:=h1.1;have hV:VRel En g.St w v2 (.dat .val vs):=h2.1;obtain⟨hob0,_⟩:=hp.obs 0 _ rfl;obtain⟨⟨⟨hcap,hmax⟩,_⟩,hrow⟩:=hob0;rcases hV.inv with⟨rfl,_⟩|⟨vb,voff,vc,cv,rfl,_,hvc,hvr⟩
   ·simp at hv1
   ·have hvR:RowRel g.St w vs (z7c vs.length 3 cv):=RowRel.of hvr;have hvl:(z7c vs.length 3 cv).length=3:=by rw[zud,hv1]
    have hvcell:∀j u,(z7c vs.length 3 cv)[j]?=some u→w.cell? ⟨vb,voff+j,none⟩=some u∧g.St vb (voff+j):=by
     intro j u hj;obtain⟨e,q,he,hq,rfl,rfl⟩:=zue hj;have:=hvc e q he hq;have e3:Un.sz .val=3:=rfl;rw[e3,y1d]at this;exact⟨this.2,this.1⟩
    obtain⟨us,hus⟩:∃us,us=z7c vs.length 3 cv:=⟨_,rfl⟩;rw[←hus]at hvR hvl hvcell;have hys:∀cs,RowRel g.St w xs cs→RowRel g.St w (xs.take i++vs++xs.drop i) (cs.take (i*3)++us++cs.drop (i*3)):=fun cs hc=>((hc.take i).append hvR).append (hc.drop i);have hyl:(xs.take i++vs++xs.drop i).length=xs.length+1:=by simp only[y9,yq,yr];omega
    have hone:=hvR.one;have hv2:vs.length=1:=hv1;rw[hv,hv1];rcases yj xs.length (g.tk 0).2 with hroom|hfull
    ·obtain⟨b,off,cs0,hbase,hA⟩:=hrow (by show 0<_;omega);have hcR:RowRel g.St w xs (z7c xs.length 3 cs0):=RowRel.of hA.rel;obtain⟨cs,hcs⟩:∃cs,cs=z7c xs.length 3 cs0:=⟨_,rfl⟩;rw[←hcs]at hcR;have hccell:∀j u,cs[j]?=some u→w.cell? ⟨b,off+j,none⟩=some u:=by
      intro j u hj;rw[hcs]at hj;obtain⟨e,q,he,hq,rfl,rfl⟩:=zue hj;have:=(hA.cell e q he hq).1;have e3:Un.sz .val=3:=rfl;rw[e3,y1d]at this;exact this
     have hall:∀x,x<(g.tk 0).2*3→g.ω b (off+x)=some (.obj 0)∧(∃v,w.cell? ⟨b,off+x,none⟩=some v)∧stuck w ⟨b,off+x,none⟩=false:=by
      intro x hx;rcases yj x (xs.length*3)with g1|g1
      ·have he:x/3<xs.length:=by omega
       have hm:=hA.cell (x/3) (x % 3) he (y2o _ (by decide));have e3:off+x/3*Un.sz .val+x % 3=off+x:=by show off+x/3*3+x % 3=_;omega
       rw[e3]at hm;obtain⟨m1,m2⟩:=hm.2.2 (yb _);exact⟨m1,⟨_,hm.1⟩,m2⟩
      ·exact hA.spare rfl x g1 hx
     have htk:g.tk 0=(some ⟨b,off,none⟩,(g.tk 0).2):=by rw[←hbase]
     have hcap3:(xs.length+1)*3≤(g.tk 0).2*3:=y1e 3 hroom;have hsp:∀j,j<(xs.length+1)*3→(w.cell? ⟨b,off+j,none⟩).isSome=true:=fun j hj=>by
      obtain⟨_,⟨v,hv⟩,_⟩:=hall j (by omega);rw[hv];rfl
     have hnf:∀j,j<(xs.length+1)*3→w.frozen? ⟨b,off+j,none⟩=false:=fun j hj=>zo6 (hall j (by omega)).2.2
     have fin:∀(e:Ending)(w':World),e=.returned (.slice (some ⟨b,off,none⟩) (xs.length+1) (g.tk 0).2)→Stored w w' b off (cs.take (i*3)++us++cs.drop (i*3))→
       ∃v,e=.returned v∧RetG Tryz.prog En g w w' v [.c (.ob 0 0)] [] [⟨0,.val,xs.take i++vs++xs.drop i,some 0,true⟩]:=fun e w' he hst=>by
      refine⟨_,he,?_⟩;rw[←hyl];exact z2l0 hp htk hst (by omega) (by omega) (by omega) hall (hys cs hcR)
     rw[hbase];by_cases hie:i=xs.length
     ·subst hie;refine(z263 b off xs.length (g.tk 0).2 vb voff vc us w hroom hbig hvl (fun j hj=>by rw[y1d];exact hsp _ (by omega)) (fun j hj=>by rw[y1d];exact hnf _ (by omega)) (fun j u hj=>(hvcell j u hj).1) hone).mono ?_;rintro e w' ⟨he,rfl⟩;refine fin e _ he ?_;have:=z1v2 (vs:=us) hcR.1 hvl hccell hsp;rw[y36 (by have:=hcR.1;omega),y23 (by have:=hcR.1;omega),y13];exact this
     ·obtain⟨_,⟨z1,hz1⟩,hz2⟩:=hall ((i+1)*3) (by omega);have hshape:∀{k o:Nat}{u:Value},w.cell? ⟨k,o,none⟩=some u→∃t n,w.shape? k=some (t,n)∧n≠0:=by
       intro k o u hu;unfold World.cell? at hu;unfold World.shape?;split at hu
       ·rename_i c t fr hk;simp only[hk];refine⟨_,_,rfl,fun h0=>?_⟩;simp at hu;have:=(y2v.1 hu).1;omega
       ·simp at hu
      obtain⟨u0,hu0⟩:∃u0,us[0]?=some u0:=⟨us[0]'(by omega),ya _⟩;obtain⟨tA,kA,hsa,hkA⟩:=hshape (hvcell 0 u0 hu0).1;obtain⟨tB,kB,hsb,hkB⟩:=hshape hz1;refine(z2i7 b off xs.length (g.tk 0).2 i vb voff vc cs us w (by omega) hroom hbig hcR.1 hvl hccell hsp hnf (fun j u hj=>(hvcell j u hj).1) hcR.one hone tA tB kA kB hsa hsb hkA hkB hz2 ?_).mono ?_
      ·intro he j hj q hq hjq;subst he;obtain⟨u,hu⟩:∃u,us[q]?=some u:=⟨us[q]'(by omega),ya _⟩;have h1:=(hvcell q u hu).2;have h2:=(hall j (by omega)).1;have h1':g.ω vb (voff+q)=some .st:=h1;rw[←hjq,h2]at h1';simp at h1'
      ·rintro e w' ⟨he,rfl⟩;exact fin e _ he (z1km hin hcR.1 hvl hccell hsp)
    ·have hcn:(g.tk 0).2=xs.length:=by have h1:xs.length≤(g.tk 0).2:=hcap;omega
     have hlb:∀k,¬g.lb k:=fun k hk=>by have:=hp.lbs k hk;simp at this
     rw[hcn];by_cases hx0:xs.length=0
     ·have hx:xs=[]:=yz hx0;subst hx;obtain rfl:i=0:=by simpa using hin
      refine(z1bo (g.tk 0).1 0 vb voff vc [] us w (by omega) rfl hvl (fun _=>rfl) (fun a _ j v hj=>by simp at hj) (fun j u hj=>(hvcell j u hj).1) hone).mono ?_;intro e w' hI;have hz:=hys [] ⟨rfl,fun e he=>absurd he (y18 _)⟩;simp only[List.take_nil,List.drop_nil,yw,y13]at hz ⊢;exact z1kn hp.laid hp.nlb hlb hp.own hI (by simpa using hv2) (by omega) hz
     ·obtain⟨b,off,cs0,hbase,hA⟩:=hrow (by show 0<_;omega);have hcR:RowRel g.St w xs (z7c xs.length 3 cs0):=RowRel.of hA.rel;obtain⟨cs,hcs⟩:∃cs,cs=z7c xs.length 3 cs0:=⟨_,rfl⟩;rw[←hcs]at hcR;have hccell:∀j u,cs[j]?=some u→w.cell? ⟨b,off+j,none⟩=some u:=by
       intro j u hj;rw[hcs]at hj;obtain⟨e,q,he,hq,rfl,rfl⟩:=zue hj;have:=(hA.cell e q he hq).1;have e3:Un.sz .val=3:=rfl;rw[e3,y1d]at this;exact this
      rw[hbase];by_cases hie:i=xs.length
      ·subst hie;refine(z1bo (some ⟨b,off,none⟩) xs.length vb voff vc cs us w hbig hcR.1 hvl (fun h=>by simp at h) (fun a ha j v hj=>by cases ha;rw[Addr.add_lit];exact hccell j v hj) (fun j u hj=>(hvcell j u hj).1) hone).mono ?_;intro e w' hI;have hz:=hys cs hcR;rw[y36 (l:=cs) (by have:=hcR.1;omega),y23 (l:=cs) (by have:=hcR.1;omega),y13]at hz;exact z1kn hp.laid hp.nlb hlb hp.own hI hyl (by omega) hz
      ·refine(z2kz b off xs.length i vb voff vc cs us w (by omega) hbig hcR.1 hvl hccell (fun j u hj=>(hvcell j u hj).1) hcR.one hone).mono ?_;intro e w' hI;exact z1kn hp.laid hp.nlb hlb hp.own hI hyl (by omega) (hys cs hcR)
 ·simp at h
end B
namespace B
open Go Go.RowKit
set_option maxRecDepth 100000
noncomputable section
attribute [local irreducible] awp ctxK zw z1a retQ z1m awf ctxF z1l
def zsw(r:Int×Bool):RF Un:=(z4i r,z4j r)
def zjy:Nat→NS:=nsF_ [(3,{ts:=bl 49 1813,bs:=bl 49 16,nm:=[]})] false
def z68(x:List Val)(t:Val)(p:Val→Val→Int)(v0:Int)(v1:Int):S Un:=(st 49 49 196 0 [(0,al .val x),(2,AV.one (A.c (C.fv (z1h p)))),(4,ax 4),(8,ai (↑x.length:Int)),(9,ai v0),(10,ai v1)] [(4,bg .val t)] [])
def zdd:S Un→Option (EX Un):=lpF_ z1f6 zjy Tryz.f222 [1,1,1,0,2,2] 3
def z12h:Exit→S Un→Option (RF Un):=cxF_ z1f6 zjy Tryz.f222 [1,1,1,0,2] [.d,.d]
def z12i(x:List Val)(t:Val)(p:Val→Val→Int):Option (RF Un):=fnF_ z1f6 zjy Tryz.f222 0 [.d,.d] [.d (.v (.dat (U:=Un) Ty.val x)),.d (.agg (enc Ty.val t)),.fn (z1h p)]
theorem z1v4(x:List Val)(t:Val)(p:Val→Val→Int):z12i x t p=(zdd (z68 x t p (0:Int) (↑x.length:Int))).bind (zd z12h):=by kernel_rfl
theorem z1v5(x:List Val)(t:Val)(p:Val→Val→Int)(v0:Int)(v1:Int):zdd (z68 x t p v0 v1)=cndO (decide (v0<v1)) (obO (¬(1:Int)<(0:Int)) (obO (0≤IntKind.i64.wrap ((IntKind.u64.wrap (IntKind.i64.wrap (v0+v1))).fdiv ((2:Int) ^min 1 IntKind.u64.bits))∧IntKind.i64.wrap ((IntKind.u64.wrap (IntKind.i64.wrap (v0+v1))).fdiv ((2:Int) ^min 1 IntKind.u64.bits))<(↑x.length:Int)) (cndO (decide (p (x.getD (IntKind.i64.wrap ((IntKind.u64.wrap (IntKind.i64.wrap (v0+v1))).fdiv ((2:Int) ^min 1 IntKind.u64.bits))).toNat z7) t<0)) (zdd (z68 x t p (IntKind.i64.wrap (IntKind.i64.wrap ((IntKind.u64.wrap (IntKind.i64.wrap (v0+v1))).fdiv ((2:Int) ^min 1 IntKind.u64.bits))+1)) v1)) (zdd (z68 x t p v0 (IntKind.i64.wrap ((IntKind.u64.wrap (IntKind.i64.wrap (v0+v1))).fdiv ((2:Int) ^min 1 IntKind.u64.bits)))))))) (some (.exit 0,(z68 x t p v0 v1))):=lpQ_ (by kernel_rfl)
theorem z1eg(x:List Val)(t:Val)(p:Val→Val→Int)(v0:Int)(v1:Int):z12h (.exit 0) (z68 x t p v0 v1)=cndO (decide (v0<(↑x.length:Int))) (obO (0≤v0∧v0<(↑x.length:Int)) (some (zsw (v0,p (x.getD v0.toNat z7) t==0)))) (some (zsw (v0,false))):=by kernel_rfl
def posP(p:Val→Val→Int)(x:List Val)(t:Val):Nat:=(x.takeWhile fun y=>decide (p y t<0)).length
def z1qo(p:Val→Val→Int)(x:List Val)(t:Val):Prop:=x.length≤1000000000∧∀i,posP p x t≤i→i<x.length→¬p (x.getD i z7) t<0
def z6h(x:List Val)(t:Val)(p:Val→Val→Int):Int×Bool:=(posP p x t,decide (posP p x t<x.length)&&p (x.getD (posP p x t) z7) t==0)
theorem z174{p:Val→Bool}:∀(l:List Val)(i:Nat),i<(l.takeWhile p).length→p (l.getD i z7)=true
 |[],i,h=>by simp at h
 |y::l,i,h=>by
  rw[y3u]at h;split at h
  ·cases i with
   |zero=>grind
   |succ i=>simp at h;simpa using z174 l i (by omega)
  grind
theorem z2nd(p:Val→Val→Int)(x:List Val)(t:Val):posP p x t≤x.length:=(y4y _).length_le
theorem z2ne{a b:Int}(ha:0≤a)(hb:0≤b)(h:a+b≤4000000000):IntKind.i64.wrap ((IntKind.u64.wrap (IntKind.i64.wrap (a+b))).fdiv ((2:Int) ^min 1 IntKind.u64.bits))=(a+b)/2:=by
 have e2:IntKind.u64.wrap (a+b)=a+b:=by
  have hb:IntKind.u64.bits=64:=rfl;unfold IntKind.wrap;grind
 have e3:((2:Int) ^min 1 IntKind.u64.bits)=2:=by rfl
 grind[Int.fdiv_eq_ediv_of_nonneg,z1f]
theorem z264(x:List Val)(t:Val)(p:Val→Val→Int)(h:z1qo p x t):∀(k a b:Nat),b- a=k→a≤posP p x t→posP p x t≤b→b≤x.length→
  zdd (z68 x t p a b)=some (.exit 0,z68 x t p (posP p x t:Nat) (posP p x t:Nat)):=by
 intro k
 induction k using Nat.strongRecOn with
 |_ k ih=>
  intro a b hk h1 h2 h3;have hl:=h.1;rw[z1v5];simp only[z8,z2g4,z2ne (a:=(a:Int)) (b:=(b:Int)) (by omega) (by omega) (by omega)];by_cases hab:(a:Int)<b
  ·obtain⟨c,hc⟩:∃c:Nat,((a:Int)+b)/2=c:=⟨(a+b)/2,by rfl⟩;rw[hc];have hcl:(c:Int)<x.length:=by omega
   rw[if_pos (by grind),if_pos (by simp),if_pos ⟨by omega,hcl⟩,y5];by_cases hp:p (x.getD c z7) t<0
   ·have:c<posP p x t:=by
     rcases yj c (posP p x t)with g|g
     ·omega
     ·exact(h.2 c g (by omega) hp).elim
    rw[if_pos (by grind),z1f (by omega)];exact ih (b- (c+1)) (by omega) (c+1) b rfl (by omega) h2 h3
   ·have:posP p x t≤c:=by
     rcases yj c (posP p x t)with g|g
     ·have:=z174 (p:=fun y=>decide (p y t<0)) x c g;grind
     omega
    grind
  grind
theorem z1ko(x:List Val)(t:Val)(p:Val→Val→Int)(_hx:WL .val x)(_ht:WS .val t)(h:z1qo p x t):z12i x t p=some (zsw (z6h x t p)):=by
 rw[z1v4];have hl:=z264 x t p h x.length 0 x.length rfl (yb _) (z2nd p x t) (y6 _)
 erw[hl]
 simp only[yh,zd,z1eg,z8,z2g4,y5];grind[z6h,posP]
def zsx:FnC Un:=fun args=>match args with
 |[x0,x1,x2]=>(dL .val x0).bind fun x=>(dS .val x1).bind fun t=>(dF x2).bind fun p=>some ([p=(z1h (zm p)),z1qo (zm p) x t],z4i (z6h x t (zm p)),z4j (z6h x t (zm p)))
 |_=>none
theorem z1v6:FnOK 222 zsx:=by
 intro args ob rs os h hob;unfold zsx at h;split at h
 ·simp only[y7,y8,ym]at h;obtain⟨x,e0,t,e1,p,e2,rfl,rfl,rfl⟩:=h;obtain rfl:=zr e0;obtain rfl:=zt e1;obtain rfl:=zpb e2;have hfv0:=hob _ (ye (i:=0) rfl);generalize zm p=pp0 at*;subst hfv0;exact⟨z2d (M:=z1f6) rfl (z4o (l1:=[]) (l2:=[]) (l3:=[]) (l4:=[]) (l5:=[]) trivial trivial trivial trivial trivial) Tryz.func222 (by rfl) zjy 0 [.d,.d] (fun hwf=>(z1ko x t pp0 (z57 hwf (a:=.d (.v (.dat (U:=Un) Ty.val x))) (ye (i:=0) rfl)) (z57 hwf (a:=.d (.agg (enc Ty.val t))) (ye (i:=1) rfl)) (hob _ (ye (i:=1) rfl)))),zk Tryz.func222 (by rfl) (by rfl)⟩
 grind
def z1qp:Mc Un:=mcF_ [(220,z1bi),(221,z10e),(222,zsx),(224,z1hj)] [(147,z2g)] [] [(223,zwl)] []
def z1hl(x:Acc)(v:Val):Option (RF Un):=fnF_ z1qp z286 Tryz.f186 0 [.d] [.d (.agg (enc Ty.acc x)),.d (.agg (enc Ty.val v))]
theorem z2a4(x:Acc)(v:Val):z1hl x v=cndO (!znl x v) (some (z6f (x))) (cndO (!x.distinct) (obO (zuc x∧(x.name=nmSum→(-1000000000000000:Int)≤v.n∧v.n≤1000000000000000)) (some (z6f (zlb x v)))) (obO (z2g=z1h (zm z2g)) (obO (z1qo (zm z2g) x.l v) (cndO (!(z6h x.l v (zm z2g)).snd) (obO (x.l.length≤(1000000000:Nat)) (obO (((0:Int)≤(z6h x.l v (zm z2g)).fst∧(z6h x.l v (zm z2g)).fst≤(↑x.l.length:Int))∧x.l.length≤(1000000:Nat)∧[v].length=(1:Nat)) (some (z6f ({name:=x.name,distinct:=x.distinct,n:=x.n,hi:=x.hi,lo:=x.lo,v:=x.v,l:=List.take (z6h x.l v (zm z2g)).fst.toNat x.l++[v]++List.drop (z6h x.l v (zm z2g)).fst.toNat x.l}))))) (some (z6f (x))))))):=by kernel_rfl
def accV(k:Nat)(x:Acc):Prop:=((0≤x.n∧x.n≤k)∧(-(k:Int)≤x.hi∧x.hi≤k)∧-bigM<x.lo∧x.lo<bigM)∧x.l.length≤k∧(x.l.Pairwise fun a b=>ordV a b<0)∧(x.name=nmSum→∀v∈x.l,-bigM≤v.n∧v.n≤bigM)
theorem accV.mono{k k':Nat}{x:Acc}(h:accV k x)(hk:k≤k'):accV k' x:=⟨⟨⟨h.1.1.1,by have:=h.1.1.2;omega⟩,⟨by have:=h.1.2.1.1;omega,by have:=h.1.2.1.2;omega⟩,h.1.2.2⟩,by have:=h.2.1;omega,h.2.2⟩
theorem accV.ok{k:Nat}{x:Acc}(h:accV k x)(hk:k≤1000000):zuc x:=by
 obtain⟨⟨h1,h2,h3⟩,_⟩:=h;grind[bigM,zuc]
theorem accV.start(a:Agg):accV 0 (zix a):=by
 unfold zix;split
 ·split<;>exact⟨⟨by simp,by simp,by simp[bigM]⟩,by simp,by simp,by simp⟩
 ·split<;>exact⟨⟨by simp,by simp,by simp[bigM]⟩,by simp,by simp,by simp⟩
theorem accV.taken{k:Nat}{x:Acc}(h:accV k x){v:Val}(hv:x.name=nmSum→-bigM≤v.n∧v.n≤bigM):accV (k+1) (zbt x v):=by
 obtain⟨t1,t2,t3⟩:=z1hd x v;obtain⟨⟨h1,h2,h3⟩,h4,h5,h6⟩:=h;refine⟨?_,by grind,by grind,by grind⟩;unfold zbt;by_cases hs:x.name=nmSum
 ·have hv':=hv hs;have a1:=z2kw (n:=x.lo+v.n) (by omega) (by omega);have a2:=z2kv (x.lo+v.n);grind
 grind
theorem accV.step{k:Nat}{x:Acc}(h:accV k x)(v:Val):accV (k+1) (zqn x v):=by
 unfold zqn;split
 ·rename_i hc;split
  ·obtain⟨⟨h1,h2,h3⟩,h4,h5,h6⟩:=h;refine⟨⟨by grind,by grind,h3⟩,?_,z29z h5 v,fun hs u hu=>?_⟩
   all_goals grind[z2a0,z2kx,z150]
  ·exact h.taken (fun hs=>z150 hc hs)
 ·exact h.mono (by omega)
def zry(x:Acc):Prop:=accV 500000 x
def zwm(x:Acc)(v:Val):Acc:=zqn x v
@[simp] theorem z2a5(x:Acc)(v:Val):zwm x v=zqn x v:=by rfl
theorem z1yk(l:List Val)(v:Val):posP ordV l v=posV l v:=rfl
theorem z2l1{l:List Val}(h:l.Pairwise fun a b=>ordV a b<0)(hl:l.length≤1000000000)(v:Val):z1qo ordV l v:=by
 refine⟨hl,fun i hi hil=>?_⟩;rw[z1yk]at hi;refine z14z h (v:=v) _ ?_;rw[List.mem_iff_getElem?];refine⟨i- posV l v,?_⟩;grind
theorem z2i8{l:List Val}(h:l.Pairwise fun a b=>ordV a b<0)(v:Val):(decide (posV l v<l.length)&&ordV (l.getD (posV l v) z7) v==0)=true↔v∈l:=by
 rw[yp,decide_eq_true_eq,beq_iff_eq];constructor
 ·rintro⟨h1,h2⟩;have:=ordV_zero.1 h2;rw[←this,yd,ya h1];exact y1z h1
 ·intro hm;have hd:v∈l.drop (posV l v):=by
   have:=hm;rw[←y1m (posV l v) l,yc]at this;rcases this with g|g
   ·have:=z14y (l:=l) (v:=v) v g;simp_all[z1yj]
   omega
  have hlt:posV l v<l.length:=by
   grind[Nat.lt_or_ge,posV,List.drop_of_length_le]
  have hdl:l.drop (posV l v)=l[posV l v]'hlt::l.drop (posV l v+1):=y1l hlt;have hnot:¬ordV (l.getD (posV l v) z7) v<0:=z14z h (v:=v) _ (by grind);rw[hdl]at hd;rcases yg.1 hd with g|g
  ·grind[z1yj]
  ·have hp:(l.drop (posV l v)).Pairwise fun a b=>ordV a b<0:=h.drop;grind[List.pairwise_cons]
theorem z20z(x:Acc)(v:Val)(_hx:WS .acc x)(_hv:WS .val v)(h:zry x):z1hl x v=some (z6f (zwm x v)):=by
 have hok:=h.ok (by omega);obtain⟨_,h4,h5,h6⟩:=h;rw[z2a4,zw6,zfr];unfold zwm zqn;simp only[z8,z20u,z1bk];by_cases hc:zou x.name v=true
 ·rw[if_neg (by grind),if_pos hc];by_cases hd:x.distinct=true
  ·rw[if_neg (by grind),if_pos hd,z6 trivial,z6 (z2l1 h5 (by omega) v)];unfold z6h insV;rw[z1yk];have hf:=z2i8 h5 v;by_cases hm:v∈x.l
   ·rw[if_neg (by grind),if_pos hm]
   ·have hle:=z2bi x.l v;rw[if_pos (by grind),if_neg hm,z6 (by omega),z6 ⟨⟨by simp,by omega⟩,by omega,rfl⟩];simp
  ·rw[if_pos (by grind),if_neg hd,z6 ⟨hok,fun hs=>z150 hc hs⟩]
 grind
def z1qq:FnC Un:=fnF2 (dS .acc) (dS .val) fun x v=>([zry x],z6f (zwm x v))
theorem z2a6:FnOK 186 z1qq:=fnK2 zt zt (M:=z1qp) rfl ⟨z20v,z1bl,z1v6,z261,trivial⟩ ⟨zxw,trivial⟩ trivial ⟨z1v3,trivial⟩ trivial Tryz.func186 fun x v=>GiF.r fun w o=>z20z x v (wfA_ w 0) (wfA_ w 1) (obA_ o 0)
def zqo:Mc Un:=mcF_ [(221,z10e),(32,zer),(225,z1hi)] [] [] [] []
def z10f:Nat→NS:=nsF_ [(2,{ts:=bl 34 454,bs:=bl 34 6,nm:=[],gb:=[1]})] false
def zde(x:Acc)(b1:Acc)(v0:Int):S Un:=(st 34 34 136 0 [(1,ax 1),(2,ax 2),(6,al .val x.l),(7,ai (↑x.l.length:Int)),(8,ai v0)] [(1,bg .acc b1),(2,bg .val z7)] [])
def znn:S Un→Option (EX Un):=lpF_ zqo z10f Tryz.f187 [1,0,1,2,2] 2
def z1bq:Exit→S Un→Option (RF Un):=cxF_ zqo z10f Tryz.f187 [1,0,1,2] [.d]
def z1br(x:Acc):Option (RF Un):=fnF_ zqo z10f Tryz.f187 0 [.d] [.d (.agg (enc Ty.acc x))]
theorem z265(x:Acc):z1br x=(znn (zde x x (0:Int))).bind (zd z1bq):=by kernel_rfl
theorem z1bs(x:Acc)(b1:Acc)(v0:Int):znn (zde x b1 v0)=cndO (decide (v0<(↑x.l.length:Int))) (obO (0≤v0∧v0<(↑x.l.length:Int)) (obO (zuc b1∧(b1.name=nmSum→(-1000000000000000:Int)≤(x.l.getD v0.toNat z7).n∧(x.l.getD v0.toNat z7).n≤1000000000000000)) (znn (zde x (zlb b1 (x.l.getD v0.toNat z7)) (IntKind.i64.wrap (v0+1)))))) (some (.exit 0,(zde x b1 v0))):=lpQ_ (by kernel_rfl)
def zwn(b1:Acc):Option (RF Un):=cndO (b1.name.toList==(ByteArray.mk #[115,117,109]).toList) (obO (zuc b1) (some (zzd (zrx b1)))) (cndO (b1.name.toList==(ByteArray.mk #[109,105,110]).toList) (cndO (b1.name.toList==(ByteArray.mk #[109,105,110]).toList) (some (zzd (b1.v))) (some (zzd (z7)))) (cndO (b1.name.toList==(ByteArray.mk #[109,97,120]).toList) (some (zzd (b1.v))) (some (zzd (z7)))))
theorem z1qr(x:Acc)(b1:Acc)(v0:Int):z1bq (.exit 0) (zde x b1 v0)=cndO (b1.name.toList==(ByteArray.mk #[99,111,117,110,116]).toList) (cndO (b1.name.toList==(ByteArray.mk #[99,111,117,110,116]).toList) (some (zzd (zh b1.n))) (zwn b1)) (cndO (b1.name.toList==(ByteArray.mk #[114,111,119,115]).toList) (some (zzd (zh b1.n))) (zwn b1)):=by kernel_rfl
def zrz(x:Acc):Val:=z1bf x
@[simp] theorem z266(x:Acc):zrz x=z1bf x:=by rfl
theorem z1v7(x:Acc)(_hx:WS .acc x)(h:zry x):z1br x=some (zzd (zrz x)):=by
 have hxl:=h.2.1;have hxb:=h.2.2.2
 obtain⟨hl,hI⟩:=z1j (e:=.exit 0) (L:=znn) (st:=fun a i=>zde x a i) (l:=x.l) (d:=z7) (g:=zbt) (fun i a=>accV (500000+i) a∧a.name=x.name) (by omega)
  (fun a i v hi hv hI=>⟨⟨hI.1.taken (fun hs=>hxb (hI.2.symm.trans hs) v (by
    grind)),(z1hd a v).2.2.trans hI.2⟩,by
   rw[z1bs];simp only[z8,hi,decide_true,if_true,and_true,y5,hv,z1bk]
   rw[z6 (by omega),z6 ⟨hI.1.ok (by omega),fun hs=>hxb (hI.2.symm.trans hs) v (by
    grind)⟩]⟩)
  (fun a _=>by rw[z1bs];simp[z8]) x ⟨h,rfl⟩
 rw[z265,zj hl];have hok:=hI.1.ok (by omega);unfold zrz z1bf endA;simp only[z1qr,zwn,z8,z25r,z1qe,z25s,z25t,z1ut,z2kt,z12g,z6 hok,zrx,decide_eq_true_eq];grind
def z1hm:FnC Un:=fnF1 (dS .acc) fun x=>([zry x],zzd (zrz x))
theorem z267:FnOK 187 z1hm:=fnK1 zt (M:=zqo) rfl ⟨z1bl,zfs,z260,trivial⟩ trivial trivial trivial trivial Tryz.func187 fun x=>GiF.r fun w o=>z1v7 x (wfA_ w 0) (obA_ o 0)
def zyl:Mc Un:=mcF_ [(185,z1hf),(186,z1qq),(187,z1hm)] [] [] [] []
def z1bu:Nat→NS:=nsF_ [(3,{ts:=bl 22 7216,bs:=bl 22 48,nm:=[],gb:=[5]})] false
def zho(l:List Val)(b5:Acc)(v0:Int):S Un:=(st 22 22 88 0 [(4,ax 4),(5,ax 5),(10,al .val l),(11,ai (↑l.length:Int)),(12,ai v0)] [(4,bg .val z7),(5,bg .acc b5)] [])
def zuf:S Un→Option (EX Un):=lpF_ zyl z1bu Tryz.f141 [1,1,0,1,2,2] 3
def z1qs:Exit→S Un→Option (RF Un):=cxF_ zyl z1bu Tryz.f141 [1,1,0,1,2] [.d]
def z1qt(a:Agg)(l:List Val):Option (RF Un):=fnF_ zyl z1bu Tryz.f141 0 [.d] [.d (.agg (enc Ty.agg a)),.d (.v (.dat (U:=Un) Ty.val l))]
theorem z2en(a:Agg)(l:List Val):z1qt a l=(zuf (zho l (zla (Agg.ids a)) (0:Int))).bind (zd z1qs):=by kernel_rfl
theorem z1qu(l:List Val)(b5:Acc)(v0:Int):zuf (zho l b5 v0)=cndO (decide (v0<(↑l.length:Int))) (obO (0≤v0∧v0<(↑l.length:Int)) (obO (zry b5) (zuf (zho l (zwm b5 (l.getD v0.toNat z7)) (IntKind.i64.wrap (v0+1)))))) (some (.exit 0,(zho l b5 v0))):=lpQ_ (by kernel_rfl)
theorem z210(l:List Val)(b5:Acc)(v0:Int):z1qs (.exit 0) (zho l b5 v0)=obO (zry b5) (some (zzd (zrz b5))):=by kernel_rfl
def zf8(a:Agg)(l:List Val):Val:=runA a l
@[simp] theorem z2eo(a:Agg)(l:List Val):zf8 a l=runA a l:=by rfl
theorem z268(a:Agg)(l:List Val)(_ha:WS .agg a)(_hl:WL .val l)(h:l.length≤400000):z1qt a l=some (zzd (zf8 a l)):=by
 obtain⟨hl,hI⟩:=z1j (e:=.exit 0) (L:=zuf) (st:=fun b i=>zho l b i) (l:=l) (d:=z7) (g:=zqn) (fun i b=>accV i b) (by omega)
  (fun b i v hi hv hI=>⟨hI.step v,by
   rw[z1qu];simp only[z8,hi,decide_true,if_true,and_true,y5,hv,z2a5]
   rw[z6 (by omega),z6 (show zry b from hI.mono (by omega))]⟩)
  (fun b _=>by rw[z1qu];simp[z8]) (zix a) (accV.start a)
 rw[z2en,Agg.ids_eq,z1uu,zj hl];unfold zf8 runA;simp only[z210,z266];rw[z6 (show zry _ from hI.mono (by omega))]
def z1yl:FnC Un:=fnF2 (dS .agg) (dL .val) fun a l=>([l.length≤400000],zzd (zf8 a l))
theorem z2ep:FnOK 141 z1yl:=fnK2 zt zr (M:=zyl) rfl ⟨z25w,z2a6,z267,trivial⟩ trivial trivial trivial trivial Tryz.func141 fun a l=>GiF.r fun w o=>z268 a l (wfA_ w 0) (wfA_ w 1) (obA_ o 0)
end
end B
namespace B
open Go Go.RowKit
set_option maxRecDepth 100000
noncomputable section
attribute [local irreducible] awp ctxK zw z1a retQ z1m awf ctxF z1l
def z4w(s:List (List Val))(f_o:(List Val)→Prop)(f:(List Val)→Bool)(v0:Int):S Un:=(st 19 19 76 0 [(0,al .row s),(1,AV.one (A.c (C.fv (z2f f_o f)))),(4,ai (0:Int)),(7,ai (↑s.length:Int)),(8,ai v0)] [] [])
def zkm(s:List (List Val))(f_o:(List Val)→Prop)(f:(List Val)→Bool)(v0:Int)(v1:Int):S Un:=(st 19 19 76 0 [(0,al .row s),(1,AV.one (A.c (C.fv (z2f f_o f)))),(4,ai v1),(7,ai (↑s.length:Int)),(8,ai v0)] [] [])
def z8a:S Un→Option (EX Un):=lpF_ z1f6 zqk Tryz.f188 [1,0,1,2,2] 2
def zno:Exit→S Un→Option (RF Un):=cxF_ z1f6 zqk Tryz.f188 [1,0,1,2] [.d]
def z1bv(s:List (List Val))(f_o:(List Val)→Prop)(f:(List Val)→Bool):Option (RF Un):=fnF_ z1f6 zqk Tryz.f188 0 [.d] [.d (.v (.dat (U:=Un) Ty.row s)),.fn (z2f f_o f)]
theorem z269(s:List (List Val))(f_o:(List Val)→Prop)(f:(List Val)→Bool):z1bv s f_o f=(z8a (z4w s f_o f (0:Int))).bind (zd zno):=by kernel_rfl
theorem zwo(s:List (List Val))(f_o:(List Val)→Prop)(f:(List Val)→Bool)(v0:Int):z8a (z4w s f_o f v0)=cndO (decide (v0<(↑s.length:Int))) (obO (0≤v0∧v0<(↑s.length:Int)) (obO (f_o (s.getD v0.toNat [])) (cndO (f (s.getD v0.toNat [])) (some (.ret,(zkm s f_o f v0 v0))) (z8a (z4w s f_o f (IntKind.i64.wrap (v0+1))))))) (some (.exit 0,(z4w s f_o f v0))):=lpQ_ (by kernel_rfl)
theorem z1kp(s:List (List Val))(f_o:(List Val)→Prop)(f:(List Val)→Bool)(v0:Int)(v1:Int):zno .ret (zkm s f_o f v0 v1)=some (z1ar (v1)):=by kernel_rfl
theorem z1qv(s:List (List Val))(f_o:(List Val)→Prop)(f:(List Val)→Bool)(v0:Int):zno (.exit 0) (z4w s f_o f v0)=some (z1ar ((-1:Int))):=by kernel_rfl
def zym(o:List Val→Prop)(s:List (List Val)):Prop:=∀x∈s,o x
def zs0(s:List (List Val))(_o:List Val→Prop)(f:List Val→Bool):Int:=match s.findIdx? f with|some i=>(i:Int)|none=>-1
theorem z1v8(s:List (List Val))(o:List Val→Prop)(f:List Val→Bool)(hs:WL .row s)(ho:zym o s):z1bv s o f=some (z1ar (zs0 s o f)):=by
 have key:∀(r:List (List Val))(i:Nat),s.drop i=r→i≤s.length→(z8a (z4w s o f i)).bind (zd zno)=some (z1ar (match r.findIdx? f with|some k=>((i+k:Nat):Int)|none=>-1)):=by
  intro r
  induction r with
  |nil=>
   intro i hr hi;have:s.length≤i:=by rw[←y1q];exact hr
   have e:z8a (z4w s o f i)=some (.exit 0,z4w s o f i):=by rw[zwo,z8,if_neg (by simp;omega)]
   rw[zj e,z1qv];rfl
  |cons x r ih=>
   intro i hr hi;obtain⟨a1,a2,a3,hm⟩:=z3f hr;have hx:s.getD i []=x:=a2 [];by_cases hf:f x=true
   ·have e:z8a (z4w s o f i)=some (.ret,zkm s o f i i):=by
     rw[zwo,z8,if_pos (by simp;omega),z6 (by omega),y5,hx,z6 (ho x hm),z8,if_pos hf]
    rw[zj e,z1kp];simp[y2n,hf]
   ·have e:z8a (z4w s o f i)=z8a (z4w s o f ((i+1:Nat):Int)):=by
     rw[zwo,z8,if_pos (by simp;omega),z6 (by omega),y5,hx,z6 (ho x hm),z8,if_neg hf,z3g a1 hs.len]
    rw[e,ih (i+1) a3 (by omega)];congr 2;simp only[y2n,hf];cases r.findIdx? f with
    |none=>rfl
    |some k=>simp;omega
 rw[z269];have:=key s 0 rfl (yb _);refine Eq.trans this ?_;unfold zs0;cases s.findIdx? f<;>simp
def z10g:FnC Un:=fun args=>match args with
 |[x0,x1]=>(dL .row x0).bind fun s=>(dF x1).bind fun f=>some ([f=(z2f (z5p f) (z8q f)),zym (z5p f) s],zas (zs0 s (z5p f) (z8q f)),zat (zs0 s (z5p f) (z8q f)))
 |_=>none
theorem z26a:FnOK 188 z10g:=by
 intro args ob rs os h hob;unfold z10g at h;split at h
 ·simp only[y7,y8,ym]at h;obtain⟨s,e0,f,e1,rfl,rfl,rfl⟩:=h;obtain rfl:=zr e0;obtain rfl:=zpb e1;have hfv0:=hob _ (ye (i:=0) rfl);generalize z8q f=pp0 at*;generalize z5p f=qq0 at*;subst hfv0;exact⟨z2d (M:=z1f6) rfl (z4o (l1:=[]) (l2:=[]) (l3:=[]) (l4:=[]) (l5:=[]) trivial trivial trivial trivial trivial) Tryz.func188 (by kernel_rfl) zqk 0 [.d] (fun hwf=>(z1v8 s qq0 pp0 (z57 hwf (a:=.d (.v (.dat (U:=Un) Ty.row s))) (ye (i:=0) rfl)) (hob _ (ye (i:=1) rfl)))),zk Tryz.func188 (by kernel_rfl) (by kernel_rfl)⟩
 ·simp at h
def z2i9:Mc Un:=mcF_ [(149,z7h)] [] [] [] []
def z2bj(x:List Val)(r:List Val):Option (RF Un):=fnF_ z2i9 z286 Tryz.f189 0 [.d] [.d (.v (.dat (U:=Un) Ty.val x)),.box [.v (.dat (U:=Un) Ty.val r)]]
theorem z2nf(x:List Val)(r:List Val):z2bj x r=some (z9b (zbh x r==0)):=by kernel_rfl
def plc1(x r:List Val):Bool:=zbh x r==0
theorem z2ic(x r:List Val)(_hx:WL .val x)(_hr:WL .val r)(_h:True):z2bj x r=some (z9b (plc1 x r)):=by
 rw[z2nf];rfl
def z26b:List (List (DC Un))→Option (FV Un):=fun dl=>match dl with
 |[b0]=>(bL .val b0).bind fun r=>some (z2f (fun x=>True) (fun x=>plc1 x r))
 |_=>none
theorem z2l2:ClOK 189 z26b:=by
 refine⟨zk Tryz.func189 (by kernel_rfl) (by kernel_rfl),fun dl φ args ob rs hF hφ hob=>?_⟩;unfold z26b at hF;split at hF
 ·simp only[y7,y8]at hF;obtain⟨r,g0,hE⟩:=hF;subst hE;obtain rfl:=z2ci g0;unfold z2f at hφ;split at hφ
  ·simp only[y7,y8,ym]at hφ;obtain⟨x,e0,rfl,rfl⟩:=hφ;simp only[yy,y1o,y15,yw];rw[zr e0];exact Contract.data (z2d (M:=z2i9) rfl (z4o (l1:=[(149,z7h)]) (l2:=[]) (l3:=[]) (l4:=[]) (l5:=[]) ⟨zn9,trivial⟩ trivial trivial trivial trivial) Tryz.func189 (by kernel_rfl) z286 0 [.d] (fun hwf=>(z2ic x r (z57 hwf (a:=.d (.v (.dat (U:=Un) Ty.val x))) (ye (i:=0) rfl)) (z57 hwf (a:=.box [.v (.dat (U:=Un) Ty.val r)]) (ye (i:=1) rfl)) (hob _ (ye (i:=0) rfl)))))
  ·simp at hφ
 ·simp at hF
def z175:Mc Un:=mcF_ [(188,z10g)] [] [(189,z26b)] [] []
def z12j(l:List (List Val))(r:List Val):Option (RF Un):=fnF_ z175 z286 Tryz.f142 0 [.d] [.d (.v (.dat (U:=Un) Ty.row l)),.d (.v (.dat (U:=Un) Ty.val r))]
theorem z1v9(l:List (List Val))(r:List Val):z12j l r=obO ((z2f (fun x=>True) fun x=>plc1 x r)=z2f (z5p (z2f (fun x=>True) fun x=>plc1 x r)) (z8q (z2f (fun x=>True) fun x=>plc1 x r))) (obO (zym (z5p (z2f (fun x=>True) fun x=>plc1 x r)) l) (some (z2c (zs0 l (z5p (z2f (fun x=>True) fun x=>plc1 x r)) (z8q (z2f (fun x=>True) fun x=>plc1 x r)))))):=by kernel_rfl
def zg(l:List (List Val))(r:List Val):Int:=match l.findIdx? (fun x=>plc1 x r)with|some i=>(i:Int)|none=>-1
theorem z1kq(l:List (List Val))(r:List Val)(_hl:WL .row l)(_hr:WL .val r):z12j l r=some (z2c (zg l r)):=by
 rw[z1v9];simp only[z1it,z1is];rw[z6 trivial,z6 (show zym (fun _=>True) l from fun _ _=>trivial)];rfl
def zsz:FnC Un:=fnF2 (dL .row) (dL .val) fun l r=>([],z2c (zg l r))
theorem z12k:FnOK 142 zsz:=fnK2 zr zr (M:=z175) rfl ⟨z26a,trivial⟩ trivial ⟨z2l2,trivial⟩ trivial trivial Tryz.func142 fun l r=>GiF.r fun w _=>z1kq l r (wfA_ w 0) (wfA_ w 1)
def z176(r:List Val)(at_:Int):Option (RF Un):=fnF_ z1f6 z286 Tryz.f148 0 [.d] [.d (.v (.dat (U:=Un) Ty.val r)),.d (.v (.s (.int .i64 at_)))]
theorem z212(r:List Val)(at_:Int):z176 r at_=cndO (decide (at_<0)) (some (zzd (z7))) (cndO (decide (at_≥(↑r.length:Int))) (some (zzd (z7))) (obO (0≤at_∧at_<(↑r.length:Int)) (some (zzd (r.getD at_.toNat z7))))):=by kernel_rfl
def z15(r:List Val)(k:Int):Val:=if 0≤k then r.getD k.toNat z7 else z7
theorem z1qw(r:List Val)(k:Int)(_hr:WL .val r)(_hk:WI k):z176 r k=some (zzd (z15 r k)):=by
 rw[z212];unfold z15;simp only[z8,decide_eq_true_eq];by_cases h0:k<0
 ·rw[if_pos h0,if_neg (by omega)]
 ·rw[if_neg h0];have h2:0≤k:=by omega
  by_cases h1:k≥(r.length:Int)
  ·rw[if_pos h1,if_pos h2,yd,y4z (by omega)];rfl
  ·rw[if_neg h1,if_pos h2,z6 (by omega)]
def zwp:FnC Un:=fnF2 (dL .val) (dI .i64) fun r at_=>([],zzd (z15 r at_))
theorem z213:FnOK 148 zwp:=fnK2 zr z17 (M:=z1f6) rfl trivial trivial trivial trivial trivial Tryz.func148 fun r at_=>GiF.r fun w _=>z1qw r at_ (wfA_ w 0) (wfA_ w 1)
def znp:Mc Un:=mcF_ [(142,zsz)] [] [] [] []
def zwq(r:List (List Val)):RF Un:=([.c (.ob 0 0)],[⟨0,Ty.row,r,some 0,true⟩])
def zwr:Nat→NS:=nsF_ [(3,{ts:=bl 22 456,bs:=bl 22 0,nm:=[(.sl 3,88)]})] false
def z8v(l:List (List Val))(v0:Int)(v1:List (List Val)):S Un:=(st 22 22 89 0 [(3,ao 88),(6,al .row l),(7,ai (↑l.length:Int)),(8,ai v0)] [] [(88,some ⟨(0:Nat),Ty.row,v1,some (0:Nat),true⟩)])
def zeo:S Un→Option (EX Un):=lpF_ znp zwr Tryz.f90 [1,1,0,1,2,2] 3
def z177:Exit→S Un→Option (RF Un):=cxF_ znp zwr Tryz.f90 [1,1,0,1,2] [.m]
def z178(l:List (List Val)):Option (RF Un):=fnF_ znp zwr Tryz.f90 1 [.m] [.d (.v (.dat (U:=Un) Ty.row l))]
theorem z214(l:List (List Val)):z178 l=(zeo (z8v l (0:Int) ([]))).bind (zd z177):=by kernel_rfl
theorem z179(l:List (List Val))(v0:Int)(v1:List (List Val)):zeo (z8v l v0 v1)=cndO (decide (v0<(↑l.length:Int))) (obO (0≤v0∧v0<(↑l.length:Int)) (cndO (decide (zg v1 (l.getD v0.toNat [])<0)) (obO ((v1.length+[l.getD v0.toNat []].length)*(24:Nat)≤ze) (zeo (z8v l (IntKind.i64.wrap (v0+1)) (v1++[l.getD v0.toNat []])))) (zeo (z8v l (IntKind.i64.wrap (v0+1)) v1)))) (some (.exit 0,(z8v l v0 v1))):=lpQ_ (by kernel_rfl)
theorem z1kr(l:List (List Val))(v0:Int)(v1:List (List Val)):z177 (.exit 0) (z8v l v0 v1)=some (zwq (v1)):=by kernel_rfl
def z1q(l:List (List Val)):List (List Val):=l.foldl (fun o x=>if zg o x<0 then o++[x]else o) []
theorem z1qx(l:List (List Val))(hl:WL .row l)(h:l.length≤100000000):z178 l=some (zwq (z1q l)):=by
 rw[z214]
 obtain⟨lp,_⟩:=z1j (e:=.exit 0) (L:=zeo) (st:=fun(o:List (List Val)) i=>z8v l i o) (l:=l) (d:=[]) (g:=fun o x=>if zg o x<0 then o++[x]else o) (fun i o=>o.length≤i) hl.len
  (fun o i x hi hx hI=>by
   have hI':o.length≤i:=hI;rw[z179];simp only[z8,hi,decide_true,if_true,and_true,y5,hx,decide_eq_true_eq];rw[z6 (by omega)];by_cases hp:zg o x<0
   ·rw[if_pos hp,if_pos hp,z6 (by unfold ze;rw[yf];omega)];exact⟨by show(o++[x]).length≤i+1;rw[y9,yf];omega,rfl⟩
   ·rw[if_neg hp,if_neg hp]
    exact⟨by show o.length≤i+1;omega,rfl⟩)
  (fun o _=>by rw[z179];simp[z8]) [] (y6 _)
 refine(zj lp).trans ?_;rw[z1kr];rfl
def zws:FnC Un:=fnF1 (dL .row) fun l=>([l.length≤100000000],zwq (z1q l))
theorem z17a:FnOK 90 zws:=fnK1 zr (M:=znp) rfl ⟨z12k,trivial⟩ trivial trivial trivial trivial Tryz.func90 fun l=>GiF.r fun w o=>z1qx l (wfA_ w 0) (obA_ o 0)
def zjz:Mc Un:=mcF_ [(152,z8l),(154,z1k9),(153,zol),(155,zf5)] [] [] [] []
def zt1:Nat→NS:=nsF_ [(3,{ts:=bl 38 7220,bs:=bl 38 20,nm:=[]})] false
def z69(v:Val)(l:List (List Val))(v0:Int)(v1:Int):S Un:=(st 38 38 152 0 [(2,ax 2),(4,ax 4),(5,ai v1),(10,al .row l),(11,ai (↑l.length:Int)),(12,ai v0)] [(2,bg .val v),(4,bg .val z7)] [])
def za6:S Un→Option (EX Un):=lpF_ zjz zt1 Tryz.f119 [1,1,0,1,2,2] 3
def z12l:Exit→S Un→Option (RF Un):=cxF_ zjz zt1 Tryz.f119 [1,1,0,1,2] [.d]
def z12m(v:Val)(l:List (List Val)):Option (RF Un):=fnF_ zjz zt1 Tryz.f119 0 [.d] [.d (.agg (enc Ty.val v)),.d (.v (.dat (U:=Un) Ty.row l))]
theorem z1va(v:Val)(l:List (List Val)):z12m v l=(za6 (z69 v l (0:Int) (0:Int))).bind (zd z12l):=by kernel_rfl
theorem z12n(v:Val)(l:List (List Val))(v0:Int)(v1:Int):za6 (z69 v l v0 v1)=cndO (decide (v0<(↑l.length:Int))) (obO (0≤v0∧v0<(↑l.length:Int)) (cndO ((↑(List.length (l.getD v0.toNat [])):Int)==(0:Int)) (za6 (z69 v l (IntKind.i64.wrap (v0+1)) v1)) (obO ((0:Int)≤(0:Int)∧(0:Int)<(↑(List.length (l.getD v0.toNat [])):Int)) (cndO ((z1t v (List.getD (l.getD v0.toNat []) 0 z7)).snd) (za6 (z69 v l (IntKind.i64.wrap (v0+1)) (z91 v1 (zrt ((z1t v (List.getD (l.getD v0.toNat []) 0 z7)).fst ==0))))) (za6 (z69 v l (IntKind.i64.wrap (v0+1)) (z91 v1 (1:Int)))))))) (some (.exit 0,(z69 v l v0 v1))):=lpQ_ (by kernel_rfl)
theorem z1eh(v:Val)(l:List (List Val))(v0:Int)(v1:Int):z12l (.exit 0) (z69 v l v0 v1)=some (zzd (z66 v1)):=by kernel_rfl
def ziz(v:Val)(l:List (List Val)):Val:=z66 (l.foldl (fun t x=>if x.length=0 then t else if(z1t v (x.getD 0 z7)).2 then z91 t (zrt ((z1t v (x.getD 0 z7)).1 ==0))else z91 t 1) 0)
theorem z1ks(v:Val)(l:List (List Val))(_hv:WS .val v)(hl:WL .row l):z12m v l=some (zzd (ziz v l)):=by
 rw[z1va]
 obtain⟨lp,_⟩:=z1j (e:=.exit 0) (L:=za6) (st:=fun(t:Int) i=>z69 v l i t) (l:=l) (d:=[]) (g:=fun t x=>if x.length=0 then t else if(z1t v (x.getD 0 z7)).2 then z91 t (zrt ((z1t v (x.getD 0 z7)).1 ==0))else z91 t 1) (fun _ _=>True) hl.len
  (fun t i x hi hx _=>by
   refine⟨trivial,?_⟩;rw[z12n];simp only[z8,hi,decide_true,if_true,and_true,y5,hx,beq_iff_eq];rw[z6 (by omega)];by_cases h0:x.length=0
   ·rw[if_pos (by omega),if_pos h0]
   ·rw[if_neg (by omega),if_neg h0,z6 (by omega)]
    split<;>rfl)
  (fun t _=>by rw[z12n];simp[z8]) 0 trivial
 refine(zj lp).trans ?_;rw[z1eh];rfl
def z17b:FnC Un:=fnF2 (dS .val) (dL .row) fun v l=>([],zzd (ziz v l))
theorem z1vb:FnOK 119 z17b:=fnK2 zt zr (M:=zjz) rfl ⟨zkj,z1y0,z1aw,zna,trivial⟩ trivial trivial trivial trivial Tryz.func119 fun v l=>GiF.r fun w _=>z1ks v l (wfA_ w 0) (wfA_ w 1)
end
end B
namespace B
open Go Go.RowKit
set_option maxRecDepth 100000
noncomputable section
attribute [local irreducible] awp ctxK zw z1a retQ z1m awf ctxF z1l
def z153(r:Wld):List (A Un):=[.agg (encC Ty.wld r)]
def z1qz(_r:Wld):List (Ob Un):=[]
def z1r0(r:Wld):RF Un:=(z153 r,z1qz r)
def z1hp(w:Wld)(r:List Val):Option (RF Un):=fnF_ z1f6 z286 Tryz.f137 0 [.d] [.d (.agg (enc Ty.wld w)),.d (.v (.dat (U:=Un) Ty.val r))]
theorem z2a7(w:Wld)(r:List Val):z1hp w r=obO (([r].length+w.env.length)*(24:Nat)≤ze) (some (z1r0 ({env:=r::w.env,db:=w.db}))):=by kernel_rfl
def zi(w:Wld)(r:List Val):Wld:={w with env:=r::w.env}
theorem z215(w:Wld)(r:List Val)(_hw:WS .wld w)(_hr:WL .val r)(h:w.env.length≤100000000):z1hp w r=some (z1r0 (zi w r)):=by
 rw[z2a7,z6 (by unfold ze;rw[yf];omega)];rfl
def ze7:FnC Un:=fun args=>match args with
 |[x0,x1]=>(dS .wld x0).bind fun w=>(dL .val x1).bind fun r=>some ([w.env.length≤100000000],z153 (zi w r),z1qz (zi w r))
 |_=>none
theorem zqs:FnOK 137 ze7:=by
 intro args ob rs os h hob;unfold ze7 at h;split at h
 ·simp only[y7,y8,ym]at h;obtain⟨w,e0,r,e1,rfl,rfl,rfl⟩:=h;obtain rfl:=zt e0;obtain rfl:=zr e1;exact⟨z2d (M:=z1f6) rfl (z4o (l1:=[]) (l2:=[]) (l3:=[]) (l4:=[]) (l5:=[]) trivial trivial trivial trivial trivial) Tryz.func137 (by kernel_rfl) z286 0 [.d] (fun hwf=>(z215 w r (z57 hwf (a:=.d (.agg (enc Ty.wld w))) (ye (i:=0) rfl)) (z57 hwf (a:=.d (.v (.dat (U:=Un) Ty.val r))) (ye (i:=1) rfl)) (hob _ (ye (i:=0) rfl)))),zk Tryz.func137 (by kernel_rfl) (by kernel_rfl)⟩
 ·simp at h
def zk0:Mc Un:=mcF_ [(85,znm)] [] [] [] []
def zt2:Nat→NS:=nsF_ [(2,{ts:=bl 22 1810,bs:=bl 22 0,nm:=[(.sl 4,88)]})] false
def z3p(w:Wld)(name:ByteArray)(v0:Int):S Un:=(st 22 22 89 0 [(1,at_ name),(4,ao 88),(8,al .data w.db),(9,ai (↑w.db.length:Int)),(10,ai v0)] [] [(88,some ⟨(0:Nat),Ty.row,[],some (0:Nat),true⟩)])
def zgo(w:Wld)(name:ByteArray)(v0:Int)(v1:List (List Val)):S Un:=(st 22 22 89 0 [(1,at_ name),(4,ao 88),(8,al .data w.db),(9,ai (↑w.db.length:Int)),(10,ai v0)] [] [(88,some ⟨(0:Nat),Ty.row,v1,some (0:Nat),true⟩)])
def z6a:S Un→Option (EX Un):=lpF_ zk0 zt2 Tryz.f84 [1,0,1,2,2] 2
def zhp:Exit→S Un→Option (RF Un):=cxF_ zk0 zt2 Tryz.f84 [1,0,1,2] [.m]
def z12o(w:Wld)(name:ByteArray):Option (RF Un):=fnF_ zk0 zt2 Tryz.f84 1 [.m] [.d (.agg (enc Ty.wld w)),.d (.v (cs name))]
theorem z1vc(w:Wld)(name:ByteArray):z12o w name=(z6a (z3p w name (0:Int))).bind (zd zhp):=by kernel_rfl
theorem zov(w:Wld)(name:ByteArray)(v0:Int):z6a (z3p w name v0)=cndO (decide (v0<(↑w.db.length:Int))) (obO (0≤v0∧v0<(↑w.db.length:Int)) (cndO ((w.db.getD v0.toNat z38).table.toList ==name.toList) (obO ((w.db.getD v0.toNat z38).rows.length≤(1000000000:Nat)) (some (.ret,(zgo w name v0 ((w.db.getD v0.toNat z38).rows))))) (z6a (z3p w name (IntKind.i64.wrap (v0+1)))))) (some (.exit 0,(z3p w name v0))):=lpQ_ (by kernel_rfl)
theorem z1bx(w:Wld)(name:ByteArray)(v0:Int)(v1:List (List Val)):zhp .ret (zgo w name v0 v1)=some (zwq (v1)):=by kernel_rfl
theorem z1ei(w:Wld)(name:ByteArray)(v0:Int):zhp (.exit 0) (z3p w name v0)=some (zwq ([])):=by kernel_rfl
def dbOK(db:List Data):Prop:=db.length≤1000000000∧∀d∈db,d.rows.length≤1000000000
def z6i(w:Wld)(name:ByteArray):List (List Val):=match w.db.find? (fun d=>d.table.toList==name.toList)with|some d=>d.rows|none=>[]
theorem z1kt(w:Wld)(name:ByteArray)(_hw:WS .wld w)(_hn:WStr name)(h:dbOK w.db):z12o w name=some (zwq (z6i w name)):=by
 obtain⟨h1,h2⟩:=h;have key:∀(r:List Data)(i:Nat),w.db.drop i=r→i≤w.db.length→(z6a (z3p w name i)).bind (zd zhp)=some (zwq (match r.find? (fun d=>d.table.toList==name.toList)with|some d=>d.rows|none=>[])):=by
  intro r
  induction r with
  |nil=>
   intro i hr hi;have:w.db.length≤i:=by rw[←y1q];exact hr
   have e:z6a (z3p w name i)=some (.exit 0,z3p w name i):=by rw[zov,z8,if_neg (by simp;omega)]
   rw[zj e,z1ei];rfl
  |cons x r ih=>
   intro i hr hi;obtain⟨a1,a2,a3,hm⟩:=z3f hr;have hx:w.db.getD i z38=x:=a2 z38;by_cases hf:(x.table.toList==name.toList)=true
   ·have e:z6a (z3p w name i)=some (.ret,zgo w name i x.rows):=by
     rw[zov,z8,if_pos (by simp;omega),z6 (by omega),y5,hx,z8,if_pos hf,z6 (h2 x hm)]
    rw[zj e,z1bx];simp[hf]
   ·have e:z6a (z3p w name i)=z6a (z3p w name ((i+1:Nat):Int)):=by
     rw[zov,z8,if_pos (by simp;omega),z6 (by omega),y5,hx,z8,if_neg hf,z3g a1 (by omega)]
    rw[e,ih (i+1) a3 (by omega)];simp[hf]
 rw[z1vc];exact key w.db 0 rfl (yb _)
def z17c:FnC Un:=fnF2 (dS .wld) dStr fun w name=>([dbOK w.db],zwq (z6i w name))
theorem z1vd:FnOK 84 z17c:=fnK2 zt z3y (M:=zk0) rfl ⟨zsv,trivial⟩ trivial trivial trivial trivial Tryz.func84 fun w name=>GiF.r fun w1 o=>z1kt w name (wfA_ w1 0) (wfA_ w1 1) (obA_ o 0)
end
end B
namespace B
open Go Go.RowKit
set_option maxRecDepth 100000
noncomputable section
attribute [local irreducible] awp ctxK zw z1a retQ z1m awf ctxF z1l
def z1r2:Mc Un:=mcF_ [(148,zwp),(147,zb7),(149,z7h)] [] [] [] []
def z1r4:Nat→NS:=nsF_ [(2,{ts:=bl 35 3619,bs:=bl 36 1,nm:=[]})] false
def zb9(a:List Val)(b:List Val)(c0:List By)(v0:Int):S Un:=(st 35 36 144 1 [(0,al .val a),(1,al .val b),(5,ai (0:Int)),(9,al .by_ c0),(10,ai (↑c0.length:Int)),(11,ai v0)] [(0,some (true,[C.sl Ty.by_ c0 false]))] [])
def zqt(a:List Val)(b:List Val)(c0:List By)(v0:Int)(v1:Int):S Un:=(st 35 36 144 1 [(0,al .val a),(1,al .val b),(5,ai v1),(9,al .by_ c0),(10,ai (↑c0.length:Int)),(11,ai v0)] [(0,some (true,[C.sl Ty.by_ c0 false]))] [])
def zhq:S Un→Option (EX Un):=lpF_ z1r2 z1r4 Tryz.f146 [1,0,1,2,2] 2
def z1dp:Exit→S Un→Option (RF Un):=cxF_ z1r2 z1r4 Tryz.f146 [1,0,1,2] [.d]
def z2bk(a:List Val)(b:List Val)(c0:List By):Option (RF Un):=fnF_ z1r2 z1r4 Tryz.f146 0 [.d] [.d (.v (.dat (U:=Un) Ty.val a)),.d (.v (.dat (U:=Un) Ty.val b)),.box [.v (.dat (U:=Un) Ty.by_ c0)]]
theorem z2ng(a:List Val)(b:List Val)(c0:List By):z2bk a b c0=(zhq (zb9 a b c0 (0:Int))).bind (zd z1dp):=by kernel_rfl
theorem z2bl(a:List Val)(b:List Val)(c0:List By)(v0:Int):zhq (zb9 a b c0 v0)=cndO (decide (v0<(↑c0.length:Int))) (obO (0≤v0∧v0<(↑c0.length:Int)) (cndO ((c0.getD v0.toNat zab).down) (cndO (IntKind.i64.wrap ((0:Int)- zbg (z15 a (c0.getD v0.toNat zab).at_) (z15 b (c0.getD v0.toNat zab).at_)) !=0) (some (.ret,(zqt a b c0 v0 (IntKind.i64.wrap ((0:Int)- zbg (z15 a (c0.getD v0.toNat zab).at_) (z15 b (c0.getD v0.toNat zab).at_)))))) (zhq (zb9 a b c0 (IntKind.i64.wrap (v0+1))))) (cndO (zbg (z15 a (c0.getD v0.toNat zab).at_) (z15 b (c0.getD v0.toNat zab).at_) !=0) (some (.ret,(zqt a b c0 v0 (zbg (z15 a (c0.getD v0.toNat zab).at_) (z15 b (c0.getD v0.toNat zab).at_))))) (zhq (zb9 a b c0 (IntKind.i64.wrap (v0+1))))))) (some (.exit 0,(zb9 a b c0 v0))):=lpQ_ (by kernel_rfl)
theorem z2a8(a:List Val)(b:List Val)(c0:List By)(v0:Int)(v1:Int):z1dp .ret (zqt a b c0 v0 v1)=some (z2c (v1)):=by kernel_rfl
theorem z2eq(a:List Val)(b:List Val)(c0:List By)(v0:Int):z1dp (.exit 0) (zb9 a b c0 v0)=some (z2c (zbh a b)):=by kernel_rfl
def kc(a b:List Val)(k:By):Int:=if k.down=true then IntKind.i64.wrap ((0:Int)- zbg (z15 a k.at_) (z15 b k.at_))else zbg (z15 a k.at_) (z15 b k.at_)
def ord1(a b:List Val):List By→Int
 |[]=>zbh a b
 |k::r=>if(kc a b k !=0)=true then kc a b k else ord1 a b r
theorem z2id(a b:List Val)(keys:List By)(_ha:WL .val a)(_hb:WL .val b)(hk:WL .by_ keys)(_h:True):z2bk a b keys=some (z2c (ord1 a b keys)):=by
 have key:∀(r:List By)(i:Nat),keys.drop i=r→i≤keys.length→(zhq (zb9 a b keys i)).bind (zd z1dp)=some (z2c (ord1 a b r)):=by
  intro r
  induction r with
  |nil=>
   intro i hr hi;have:keys.length≤i:=by rw[←y1q];exact hr
   have e:zhq (zb9 a b keys i)=some (.exit 0,zb9 a b keys i):=by rw[z2bl,z8,if_neg (by simp;omega)]
   rw[zj e,z2eq];rfl
  |cons x r ih=>
   intro i hr hi;obtain⟨a1,a2,a3,hm⟩:=z3f hr;have hx:keys.getD i zab=x:=a2 zab;have hl:=z2bl a b keys i;rw[z8,if_pos (by simp;omega),z6 (by omega),y5,hx,z3g a1 hk.len]at hl;by_cases hf:(kc a b x !=0)=true
   ·have e:zhq (zb9 a b keys i)=some (.ret,zqt a b keys i (kc a b x)):=by
     rw[hl];unfold kc at hf ⊢;cases hd:x.down<;>rw[hd]at hf<;>simp only[z8,y2g,if_false,if_true]at hf ⊢<;>rw[if_pos hf]
    rw[zj e,z2a8];unfold ord1;rw[if_pos hf]
   ·have e:zhq (zb9 a b keys i)=zhq (zb9 a b keys ((i+1:Nat):Int)):=by
     rw[hl];unfold kc at hf;cases hd:x.down<;>rw[hd]at hf<;>simp only[z8,y2g,if_false,if_true]at hf ⊢<;>rw[if_neg hf]
    rw[e,ih (i+1) a3 (by omega)]
    conv=>rhs;unfold ord1
    rw[if_neg hf]
 rw[z2ng];exact key keys 0 rfl (yb _)
def z1r5:List (List (DC Un))→Option (FV Un):=fun dl=>match dl with
 |[b0]=>(bL .by_ b0).bind fun c0=>some (z12 (fun a b=>True) (fun a b=>ord1 a b c0))
 |_=>none
theorem z2l3:ClOK 146 z1r5:=by
 refine⟨zk Tryz.func146 (by kernel_rfl) (by kernel_rfl),fun dl φ args ob rs hF hφ hob=>?_⟩;unfold z1r5 at hF;split at hF
 ·simp only[y7,y8]at hF;obtain⟨c0,g0,hE⟩:=hF;subst hE;obtain rfl:=z2ci g0;unfold z12 at hφ;split at hφ
  ·simp only[y7,y8,ym]at hφ;obtain⟨a,e0,b,e1,rfl,rfl⟩:=hφ;simp only[yy,y1o,y15,yw];rw[zr e0];rw[zr e1];exact Contract.data (z2d (M:=z1r2) rfl (z4o (l1:=[(148,zwp),(147,zb7),(149,z7h)]) (l2:=[]) (l3:=[]) (l4:=[]) (l5:=[]) ⟨z213,zoj,zn9,trivial⟩ trivial trivial trivial trivial) Tryz.func146 (by kernel_rfl) z1r4 0 [.d] (fun hwf=>(z2id a b c0 (z57 hwf (a:=.d (.v (.dat (U:=Un) Ty.val a))) (ye (i:=0) rfl)) (z57 hwf (a:=.d (.v (.dat (U:=Un) Ty.val b))) (ye (i:=1) rfl)) (z57 hwf (a:=.box [.v (.dat (U:=Un) Ty.by_ c0)]) (ye (i:=2) rfl)) (hob _ (ye (i:=0) rfl)))))
  ·simp at hφ
 ·simp at hF
end
end B
end Go.Proofs.YtjfpbchdcbhfgaaGreat
