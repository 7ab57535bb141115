/- Part 14 of the proof: Linsert Sagg2 Snaive1 Snaive2 Snaive3. -/
import Derived.Shelf.Spec.SlicesInsertGrow
import Derived.Test.YtjfpbchdcbhfgaaGreatNsy13
set_option linter.unusedVariables false
set_option linter.unusedSimpArgs false
set_option linter.defProp false
set_option maxHeartbeats 4000000
namespace Go.Proofs.YtjfpbchdcbhfgaaGreat
namespace B
open Go Go.RowKit Go.Shelf Go.Lib
set_option maxRecDepth 1000000
set_option linter.unusedVariables false
set_option linter.unusedSimpArgs false
def arQ{P} w tS tR e(ht:P.underlying tS=some (.slice e)) size(hz:∀w,(Go.sizeOf e).run P w=.ok size w) ab ao bb bo la ca lb cb tA tB kA kB(hsa:w.shape? ab=some (tA,kA))(hsb:w.shape? bb=some (tB,kB))(hkA:kA≠0)(hkB:kB≠0)(hst:stuck w ⟨bb,bo,none⟩=false)(hap:ab=bb→¬(ao<bo+lb*size∧bo<ao+la*size)):
 (Extern.SlicesOverlaps.overlaps #[tS,tS] #[tR] #[.slice (some ⟨ab,ao,none⟩) la ca,.slice (some ⟨bb,bo,none⟩) lb cb]).run P w=.ok (.bool false) w:=by
 have hfb:=yQ hst;have hmb:=agp hst hsb
 change Sem.run P (α:=Value) (do
  let some t:=(#[tS,tS]:Array TypeId)[0]?|Go.stuck "slices.overlaps: no parameter types"
  let .slice elem ←underlying t|Go.stuck "slices.overlaps: slice type expected"
  let size ←sizeOf elem
  match(some (⟨ab,ao,none⟩:Addr):Option Addr),(some (⟨bb,bo,none⟩:Addr):Option Addr)with
  |some a,some b=>
   if la=0∨lb=0∨size=0 then pure (Value.bool false)
   else if a.block !=b.block&&(←frozen a)&&(←frozen b)then unsupported .addressObserved
   else do
    if a.block !=b.block then do
     noView a;noView b
     if ←mayBeOne a b then return Value.bool ((←choose<|.extern "sameAddr.stringBytes" 2)==1)
    pure (Value.bool<|a.block==b.block&&a.off<b.off+lb*size&&b.off<a.off+la*size)
  |_,_=>pure (Value.bool false)) w=_
 by_cases h0:la=0∨lb=0∨size=0
 ·simp_all[run_underlying]
 ·cases kB with
  |zero=>omega
  |succ kB=>
   cases kA with
   |zero=>omega
   |succ kA=>
    by_cases he:ab=bb
    ·simp_all[run_underlying]
    ·have hnb:(ab !=bb)=true:=by grind
     have hnb':(ab==bb)=false:=by grind
     cases hfa:w.frozen? ⟨ab,ao,none⟩<;>cases hma:w.frozen? ⟨ab,kA+1,none⟩<;>
     simp[run_underlying ht,hz,h0,hnb,hnb',frozen,noView,viewAt,mayBeOne,stringish,shape,Sem.run,hsa,hsb,hfb,hmb,hfa,hma]
def I5{P:Program} w dT sT ty elem b o dLen dCap a sLen sCap(cs:List Value) k(hu:P.underlying dT=some (.slice elem))(hs:(P.info? elem).map (·.size)=some k)(hn:cs.length=Nat.min sLen dLen*k)(hsrc:∀j v,cs[j]?=some v→w.cell? (a.add j)=some v)(hc:∀j,j<cs.length→(w.cell? ⟨b,o+j,none⟩).isSome=true)(hf:∀j,j<cs.length→w.frozen? ⟨b,o+j,none⟩=false)(h1:∀v∈cs,v.oneCell'=true):
 (Builtin.copy_ #[dT,sT] ty #[.slice (some ⟨b,o,none⟩) dLen dCap,.slice (some a) sLen sCap]).run P w=.ok (goInt<|Nat.min sLen dLen) (w.setCells b o cs):=by
 have hl:=run_loadCells_list (P:=P) w a cs hsrc;have hst:=run_storeCells_cells (P:=P) b o cs 0 w (by omega) (by omega) h1;cases hq:P.info? elem with
 |none=>grind
 |some i=>
  simp_all[Builtin.copy_,run_underlying,Builtin.lenOf,Builtin.firstCells,sizeOf,typeInfo]
abbrev AC:FuncId:=223
def NM:∃i z,Tryz.prog.info? 37=some i∧i.zero=some z∧i.size=3∧i.bytes≤100000∧0<i.bytes∧z.cells.size=3:=by
 obtain⟨bytes,i,z,hb,h1',h1,h0,h2,h3,h4,h5,h6⟩:=sg (t:=56) (e:=37) (τ:=.val) (by rfl);exact⟨i,z,h2,h5,h3,by omega,by omega,h6⟩
theorem mZ:Tryz.prog.underlying 56=some (.slice 37):=by rfl
def arR(b off n c i vb voff vc:Nat)(cs vs:List Value)(w:World)(hi:i<n)(hroom:n+1≤c)(hbig:n≤1000000)
 (hcl:cs.length=n*3)(hvl:vs.length=3)
 (hcs:∀j v,cs[j]?=some v→w.cell? ⟨b,off+j,none⟩=some v)(hsp:∀j,j<(n+1)*3→(w.cell? ⟨b,off+j,none⟩).isSome=true)(hfz:∀j,j<(n+1)*3→w.frozen? ⟨b,off+j,none⟩=false)
 (hvs:∀j v,vs[j]?=some v→w.cell? ⟨vb,voff+j,none⟩=some v)(h1c:∀v∈cs,v.oneCell'=true)(h1v:∀v∈vs,v.oneCell'=true)
 (tA tB:TypeId)(kA kB:Nat)(hsa:w.shape? vb=some (tA,kA))(hsb:w.shape? b=some (tB,kB))(hkA:kA≠0)(hkB:kB≠0)(hst:stuck w ⟨b,off+(i+1)*3,none⟩=false)
 (hap:vb=b→∀j,j<(n+1)*3→∀q,q<3→off+j≠voff+q):
 Calls Tryz.prog AC #[.slice (some ⟨b,off,none⟩) n c,.int .i64 i,.slice (some ⟨vb,voff,none⟩) 1 vc] w fun e w'=>
  e=.returned (.slice (some ⟨b,off,none⟩) (n+1) c)∧w'=(w.drew.setCells b (off+(i+1)*3) (cs.drop (i*3))).setCells b (off+i*3) vs:=by
 have hsz:(Tryz.prog.info? 37).map (·.size)=some 3:=by
  rfl
 have hzz:∀w,(Go.sizeOf 37).run Tryz.prog w=.ok 3 w:=Tryz.sizeOf37;have hov0:∀lb cb,lb≤n- i→(callFunc 242 #[.slice (some ⟨vb,voff,none⟩) 1 vc,.slice (some ⟨b,off+(i+1)*3,none⟩) lb cb]).run Tryz.prog w=.ok (.value (.bool false)) w:=fun lb cb hlb=>by
  rw[run_callFunc_extern Tryz.func242 (by rfl) (by rfl) (by rfl) (e:=Extern.SlicesOverlaps.overlaps #[56,56] #[4]) (by kernel_rfl),
   arQ w 56 4 37 mZ 3 hzz vb voff b (off+(i+1)*3) 1 vc lb cb tA tB kA kB hsa hsb hkA hkB hst (fun e=>?_)]
  ·rfl
  ·rintro⟨g1,g2⟩;by_cases g3:voff<off+(i+1)*3
   ·exact hap e ((i+1)*3) (by omega) (off+(i+1)*3- voff) (by omega) (by omega)
   ·exact hap e (voff- off) (by omega) 0 (by omega) (by omega)
 have hov1:=fun cb=>hov0 (n+1- (i+1)) cb (by omega);have hov2:=fun cb=>hov0 (n- i) cb (by omega);have hz2:¬((i:Int)=(n:Int)):=by omega
 have hdl:(cs.drop (i*3)).length=(n- i)*3:=by grind
 have mixed:Tryz.prog.follows .mixedOrders=true:=by rfl
 have hw1:IntKind.i64.wrap ((i:Int)+1)=(i:Int)+1:=by rw[IntKind.wrap_i64];omega
 have hw2:IntKind.i64.wrap ((n:Int)+1)=(n:Int)+1:=by rw[IntKind.wrap_i64];omega
 have hb1:(0:Int)≤(i:Int)+1:=by omega
 have hin:i≤n:=by omega
 have htn:((i:Int)+1).toNat=i+1:=by rfl
 have htn2:((n:Int)+1).toNat=n+1:=by rfl
 have hb2:¬(c=i+1):=by omega
 have hb3:(i:Int)≤(n:Int)+1:=by omega
 have hb4:¬(c=i):=by omega
 have hb5:(n:Int)+1≤c:=by omega
 have hb6:¬((c:Int)<(n:Int)+1):=by omega
 have hcp1:∀ty l dc sl sc,Nat.min sl l=n- i→(Builtin.copy_ #[56,56] ty #[.slice (some ⟨b,off+(i+1)*3,none⟩) l dc,.slice (some ⟨b,off+i*3,none⟩) sl sc]).run Tryz.prog w.drew=  .ok (goInt ((n- i:Nat):Int)) (w.drew.setCells b (off+(i+1)*3) (cs.drop (i*3))):=fun ty l dc sl sc hl=>by
  have:=I5 w.drew 56 56 ty 37 b (off+(i+1)*3) l dc ⟨b,off+i*3,none⟩ sl sc (cs.drop (i*3)) 3 mZ hsz (by omega)
   (fun j v hj=>by simp_all[Addr.add_lit,fa,mg])
   (fun j hj=>by rw[fa];exact hsp _ (by omega)) (fun j hj=>by rw[fa];exact hfz _ (by omega)) (fun v hv=>h1c v (A5 hv))
  grind
 obtain⟨W1,hW1⟩:∃W1,W1=w.drew.setCells b (off+(i+1)*3) (cs.drop (i*3)):=⟨_,rfl⟩;have hsp1:∀k,k<(n+1)*3→(W1.cell? ⟨b,off+k,none⟩).isSome=true:=fun k hk=>by
  rw[hW1];exact isSome_setCells b _ _ _ (fun j hj=>by rw[fa];exact hsp _ (by omega)) _ (hsp k hk)
 have hcp2:∀(W:World),(∀x,W.cell? x=W1.cell? x)→(∀x,W.frozen? x=W1.frozen? x)→∀ty l dc,Nat.min 1 l=1→(Builtin.copy_ #[56,56] ty #[.slice (some ⟨b,off+i*3,none⟩) l dc,.slice (some ⟨vb,voff,none⟩) 1 vc]).run Tryz.prog W=.ok (goInt 1) (W.setCells b (off+i*3) vs):=fun W hWc hWf ty l dc hl=>by
  have:=I5 W 56 56 ty 37 b (off+i*3) l dc ⟨vb,voff,none⟩ 1 vc vs 3 mZ hsz (by omega)
   (fun j v hj=>by
    rw[Addr.add_lit,hWc,hW1,World.cell?_setCells_out b _ _ _ _ (fun h _=>?_)]
    ·simp_all
    ·have hj3:j<3:=by grind
     rcases yk (voff+j) (off+(i+1)*3)with g|g
     ·grind
     ·refine .inr ?_;rcases yk (voff+j) (off+(i+1)*3+(cs.drop (i*3)).length)with g2|g2
      ·exact(hap h (voff+j- off) (by omega) j hj3 (by omega)).elim
      omega)
   (fun j hj=>by rw[hWc,fa];exact hsp1 _ (by omega)) (fun j hj=>by rw[hWf,hW1,World.frozen?_setCells,fa];exact hfz _ (by omega)) h1v
  grind
 have hcp2':=fun ty=>hcp2 (w.drew.setCells b (off+(i+1)*3) (cs.drop (i*3))) (fun x=>by grind) (fun x=>by grind) ty (n+1- i) (c- i) (by grind)
 go_enter Tryz.func223,Tryz.ntmps223
 go_wp2_with (simp only[hov1,hov2])
 go_region_law_o (refine step_copy_runI rfl _ _ 56 56 rfl _ _ (by simp[Act.eval,Act.put]) (by simp[Act.eval,Act.put]) (hcp1 _ (n- i) (c- (i+1)) (n+1- i) (c- i) (by grind)) ?_)
 go_wp2_with (simp only[hcp2'])
 go_ret;simp
def arS(b off n c vb voff vc:Nat)(vs:List Value)(w:World)(hroom:n+1≤c)(hbig:n≤1000000)(hvl:vs.length=3)
 (hsp:∀j,j<3→(w.cell? ⟨b,off+n*3+j,none⟩).isSome=true)(hfz:∀j,j<3→w.frozen? ⟨b,off+n*3+j,none⟩=false)
 (hvs:∀j v,vs[j]?=some v→w.cell? ⟨vb,voff+j,none⟩=some v)(h1v:∀v∈vs,v.oneCell'=true):
 Calls Tryz.prog AC #[.slice (some ⟨b,off,none⟩) n c,.int .i64 n,.slice (some ⟨vb,voff,none⟩) 1 vc] w fun e w'=>
  e=.returned (.slice (some ⟨b,off,none⟩) (n+1) c)∧w'=w.setCells b (off+n*3) vs:=by
 obtain⟨i0,z0,hi0,hz0,h3,hb1,hb2,hz3⟩:=NM;have hsrc:Src Tryz.prog i0.size 56 (.slice (some ⟨vb,voff,none⟩) 1 vc) 1 vs w:=by
  simp_all[Src.ofSlice,mZ,Addr.add_lit]
 have hsp':∀j,j<vs.length→(w.cell? ⟨b,off+n*i0.size+j,none⟩).isSome=true:=by simp_all
 have hfz':∀j,j<vs.length→w.frozen? ⟨b,off+n*i0.size+j,none⟩=false:=by simp_all
 go_enter Tryz.func223,Tryz.ntmps223
 go_wp2_with (refine wpList_append_room_src _ rfl _ _ 56 56 rfl 37 i0 mZ hi0 b off n c rfl _ rfl 1 vs hsrc hroom hsp' hfz' ?_)
 go_ret;simp
def Fj(w:World)(n:Nat)(us:List Value)(e:Ending)(w':World):Prop:=
 ∃(G:Nat)(ROW:Array Value),e=.returned (.slice (some ⟨w.heap.size,0,none⟩) (n+1) G)∧n+1≤G∧ROW.size=G*3∧(∀(j:Nat) v,us[j]?=some v→ROW[j]?=some v)∧Ext w w'∧w'.heap[w.heap.size]?=some (.cells ROW 37 (0,0))
def NN(w:World) o:(w.drew.alloc o).heap[w.heap.size]?=some o:=by
 show(w.heap.push o)[w.heap.size]?=some o;simp
def NO{w k}:∀(vs:List Value)(o:Nat){w1:World},Ext w w1→w.heap.size≤k→Ext w (w1.setCells k o vs)
 |[],_,_,h,_=>h
 |v::r,o,_,h,hk=>NO r (o+1) (h.setCell hk v) hk
def NP{k t fr}:∀(vs:List Value)(o:Nat){w1:World}{ROW:Array Value},w1.heap[k]?=some (.cells ROW t fr)→∃ROW',(w1.setCells k o vs).heap[k]?=some (.cells ROW' t fr)∧ROW'.size=ROW.size
 |[],_,_,ROW,h=>⟨ROW,h,rfl⟩
 |v::r,o,w1,ROW,h=>by
  have h1:(w1.setCell ⟨k,o,none⟩ v).heap[k]?=some (.cells (ROW.setIfInBounds o v) t fr):=by
   unfold World.setCell;grind
  obtain⟨ROW',h2,h3⟩:=NP r (o+1) h1;exact⟨ROW',h2,by grind⟩
def Z2(base:Option Addr)(n vb voff vc:Nat)(cs vs:List Value)(w:World)(hbig:n≤1000000)(hcl:cs.length=n*3)(hvl:vs.length=3)(hnil:base=none→n=0)
 (hcs:∀a,base=some a→∀j v,cs[j]?=some v→w.cell? (a.add j)=some v)
 (hvs:∀j v,vs[j]?=some v→w.cell? ⟨vb,voff+j,none⟩=some v)(h1v:∀v∈vs,v.oneCell'=true):
 Calls Tryz.prog AC #[.slice base n n,.int .i64 n,.slice (some ⟨vb,voff,none⟩) 1 vc] w fun e w'=>
  Fj w n (cs++vs) e w':=by
 have mixed:Tryz.prog.follows .mixedOrders=true:=by kernel_rfl
 obtain⟨i0,z0,hi0,hz0,h3,hb1,hb2,hz3⟩:=NM;have hsrc:Src Tryz.prog i0.size 56 (.slice (some ⟨vb,voff,none⟩) 1 vc) 1 vs w:=by
  rw[h3];exact Src.ofSlice w mZ ⟨vb,voff,none⟩ 1 vc vs (by omega) (fun j u hj=>by rw[Addr.add_lit];exact hvs j u hj) h1v
 have hold:(Builtin.firstCells i0.size n<|.slice base n n).run Tryz.prog w.drew=.ok cs.toArray w.drew:=by
  rw[h3];cases base with
  |none=>
   have h0:=hnil rfl;subst h0;rw[yx (l:=cs)<|by omega];exact run_firstCells_none w.drew 3 0 0 0
  |some a=>exact run_firstCells_some w.drew 3 n a n n cs (by omega) fun j v hj=>hcs a rfl j v hj
 have hfit:Builtin.nextslicecap (n+1) n*i0.bytes≤281474976710656:=growslice_fits (by omega) (by
  have:(n+1)*i0.bytes≤1000001*100000:=ld (by omega) hb1
  omega)
 have hrun:∀ty,(Builtin.append_ #[56,56] ty #[.slice base n n,.slice (some ⟨vb,voff,none⟩) 1 vc]).run Tryz.prog w=_:=fun ty=>
  run_append_grow_src w 56 56 ty 37 i0 _ mZ hi0 hz0 base n n cs hold _ 1 vs hsrc (by omega) (by omega) hfit
 obtain⟨G,hG⟩:∃G,G=grownCap w (n+1) n 37:=⟨_,rfl⟩;obtain⟨ROW,hROW⟩:∃ROW:Array Value,ROW=(cs++vs).toArray++Builtin.zeroCells z0.cells (G- (n+1)):=⟨_,rfl⟩;rw[←hG,←hROW]at hrun;have hGn:n+1≤G:=by rw[hG];exact grownCap_ge w _ _ _
 have hsize:ROW.size=G*3:=by
  rw[hROW];simp[Builtin.zeroCells,hcl,hvl,hz3];omega
 have hget:∀(j:Nat) v,(cs++vs)[j]?=some v→ROW[j]?=some v:=fun j v hj=>by
  rw[hROW,Gp (by have:=(ym.1 hj).1;simpa using this)];simpa using hj
 have hnn:(n:Int)<(n:Int)+1:=by omega
 clear hROW hG hfit hold hsrc
 go_enter Tryz.func223,Tryz.ntmps223
 cases base with
 |none=>
  have h0:=hnil rfl;subst h0
  go_wp2_with (at_builtin;refine Lib.wpList_append_run _ rfl _ _ _ _ rfl _ _ rfl rfl _ _ (hrun _) ?_)
  go_ret;exact⟨G,ROW,by simp,hGn,hsize,hget,(Ext.refl w).drew.alloc _,NN w _⟩
 |some a=>
  obtain⟨ab,ao,asp⟩:=a
  go_wp2_with (at_builtin;refine Lib.wpList_append_run _ rfl _ _ _ _ rfl _ _ rfl rfl _ _ (hrun _) ?_)
  all_goals(go_ret;exact⟨G,ROW,by simp,hGn,hsize,hget,(Ext.refl w).drew.alloc _,NN w _⟩)
def arT(W:World) k o vs:(W.drew.setCells k o vs).heap=(W.setCells k o vs).heap:=by rw[←drew_setCells];rfl
def arU{w W1 G n i ROW}{cs vs:List Value}(hi:i<n)(hRl:ROW.size=G*3)(hRg:∀(j:Nat),j<i*3→ROW[j]?=cs[j]?)(hGn:n+1≤G)(hcl:cs.length=n*3)(hvl:vs.length=3)(hW:∀k:Nat,W1.heap[k]?=((((w.drew.alloc (.cells ROW 37)).setCells w.heap.size (i*3) vs)).setCells w.heap.size ((i+1)*3) (cs.drop (i*3))).heap[k]?)(hE:Ext w W1):Fj w n (cs.take (i*3)++vs++cs.drop (i*3)) (.returned (.slice (some ⟨w.heap.size,0,none⟩) (n+1) G)) W1:=by
 obtain⟨R1,h1,h1s⟩:=NP vs (i*3) (NN w (.cells ROW 37));obtain⟨R2,h2,h2s⟩:=NP (cs.drop (i*3)) ((i+1)*3) h1;have hdl:(cs.drop (i*3)).length=(n- i)*3:=by rw[yt,hcl];omega
 refine⟨G,R2,rfl,hGn,by omega,fun j v hj=>?_,hE,by rw[hW];exact h2⟩;have c0:∀j,(w.drew.alloc (.cells ROW 37)).cell? ⟨w.heap.size,j,none⟩=ROW[j]?:=fun j=>World.cell?_alloc_at (w:=w.drew) ROW _ w.heap.size j rfl;have c2:∀j,((((w.drew.alloc (.cells ROW 37)).setCells w.heap.size (i*3) vs)).setCells w.heap.size ((i+1)*3) (cs.drop (i*3))).cell? ⟨w.heap.size,j,none⟩=R2[j]?:=fun j=>by simp[World.cell?,h2]
 have is0:∀j,j<(n+1)*3→((w.drew.alloc (.cells ROW 37)).cell? ⟨w.heap.size,j,none⟩).isSome=true:=fun j hj=>by rw[c0,sD (by omega)];rfl
 have is1:∀j,j<(n+1)*3→(((w.drew.alloc (.cells ROW 37)).setCells w.heap.size (i*3) vs).cell? ⟨w.heap.size,j,none⟩).isSome=true:=fun j hj=>isSome_setCells _ _ _ _ (fun t ht=>is0 _ (by omega)) _ (is0 _ hj);have hlt:j<(n+1)*3:=by have:=(ym.1 hj).1;simp only[yb,yn,hdl,hvl,hcl]at this;omega
 have htk:(cs.take (i*3)).length=i*3:=by rw[yn];omega
 rw[←c2];by_cases h3:j<(i+1)*3
 ·rw[World.cell?_setCells_out _ _ _ _ _ (fun _ _=>.inl h3)];by_cases h4:j<i*3
  ·rw[World.cell?_setCells_out _ _ _ _ _ (fun _ _=>.inl h4),c0,hRg j h4];rw[yw,d7 (by omega),vn h4]at hj;exact hj
  ·have:=World.cell?_setCells_in w.heap.size vs (i*3) (w.drew.alloc (.cells ROW 37)) (fun q hq=>is0 _ (by omega)) (j- i*3) (by omega);rw[show i*3+(j- i*3)=j by omega]at this;rw[this,←hj,yw,fC (by omega),htk,d7 (by omega),ya]
 ·have:=World.cell?_setCells_in w.heap.size (cs.drop (i*3)) ((i+1)*3) ((w.drew.alloc (.cells ROW 37)).setCells w.heap.size (i*3) vs) (fun q hq=>is1 _ (by omega)) (j- (i+1)*3) (by omega);rw[show(i+1)*3+(j- (i+1)*3)=j by omega]at this;rw[this,←hj,fC (by rw[yb];omega),yb,htk,hvl,show i*3+3=(i+1)*3 by omega,ya]
def arV(b off n i vb voff vc:Nat)(cs vs:List Value)(w:World)(hi:i<n)(hbig:n≤1000000)
 (hcl:cs.length=n*3)(hvl:vs.length=3)
 (hcs:∀j v,cs[j]?=some v→w.cell? ⟨b,off+j,none⟩=some v) 
 (hvs:∀j v,vs[j]?=some v→w.cell? ⟨vb,voff+j,none⟩=some v)(h1c:∀v∈cs,v.oneCell'=true)(h1v:∀v∈vs,v.oneCell'=true):
 Calls Tryz.prog AC #[.slice (some ⟨b,off,none⟩) n n,.int .i64 i,.slice (some ⟨vb,voff,none⟩) 1 vc] w fun e w'=>
  Fj w n (cs.take (i*3)++vs++cs.drop (i*3)) e w':=by
 have mixed:Tryz.prog.follows .mixedOrders=true:=by kernel_rfl
 obtain⟨i0,z0,hi0,hz0,h3,hbb1,hbb2,hz3⟩:=NM;have hsz:(Tryz.prog.info? 37).map (·.size)=some 3:=by rw[hi0];simp[h3]
 have hz2:¬((i:Int)=(n:Int)):=by omega
 have hz4:(n:Int)<(n:Int)+1:=by omega
 have hbw:b<w.heap.size:=block_lt_of_cell (hcs 0 _ (ya (by omega)));have hvw:vb<w.heap.size:=block_lt_of_cell (hvs 0 _ (ya (by omega)));have hkk:(n:Int)+1- (i:Int)=((n+1- i:Nat):Int):=by omega
 have hik:i+(n+1- i)=n+1:=by omega
 have htk:(cs.take (i*3)).length=i*3:=by rw[yn];omega
 have hold:(Builtin.firstCells i0.size i (.slice (some ⟨b,off,none⟩) i n)).run Tryz.prog w.drew=.ok (cs.take (i*3)).toArray w.drew:=by
  rw[h3]
  exact run_firstCells_some w.drew 3 i ⟨b,off,none⟩ i n (cs.take (i*3)) htk (fun j v hj=>by
   rw[Addr.add_lit];rw[List.getElem?_take]at hj;split at hj
   ·exact hcs j v hj
   ·cases hj)
 have hfit:Builtin.nextslicecap (n+1) n*i0.bytes≤281474976710656:=growslice_fits (by omega) (by
  have:(n+1)*i0.bytes≤1000001*100000:=ld (by omega) hbb1
  omega)
 have hfit2:(n+1- i)*i0.bytes≤281474976710656:=by
  have:(n+1- i)*i0.bytes≤1000001*100000:=ld (by omega) hbb1;omega
 have hint:Tryz.prog.underlying 3=some (.int .i64):=by kernel_rfl
 obtain⟨G,hG⟩:∃G,G=grownCap w (n+1) n 37:=⟨_,rfl⟩;obtain⟨ROW,hROW⟩:∃ROW:Array Value,ROW=(cs.take (i*3)).toArray++Builtin.zeroCells z0.cells (n+1- i)++Builtin.zeroCells z0.cells (G- (n+1)):=⟨_,rfl⟩
 have hrz:∀ty,(Builtin.append_ #[56,3] ty #[.slice (some ⟨b,off,none⟩) i n,.int .i64 ((n:Int)+1- (i:Int))]).run Tryz.prog w=
  .ok (.slice (some ⟨w.heap.size,0,none⟩) (n+1) G) (w.drew.alloc (.cells ROW 37)):=fun ty=>by
  have h:=Lib.run_append_grow_zeros w 56 3 ty 37 i0 _ .i64 .i64 mZ hint hi0 hz0 (some ⟨b,off,none⟩) i n (cs.take (i*3)) hold (n+1- i) (by omega) (by omega) (by omega) (by omega) hfit2 (by rw[hik];exact hfit);rw[hik,←hG,←hROW]at h;rw[hkk];exact h
 have hGn:n+1≤G:=by rw[hG];exact grownCap_ge w _ _ _
 have hG63:G≤9223372036854775807:=by
  have:=grownCap_le_maxLen w (n+1) n 37 (by unfold maxLen;omega);rw[←hG]at this;unfold maxLen at this;omega
 have hRl:ROW.size=G*3:=by
  rw[hROW];simp[Builtin.zeroCells,htk,hz3];omega
 have hRg:∀(j:Nat),j<i*3→ROW[j]?=cs[j]?:=fun j hj=>by
  rw[hROW,Array.append_assoc,Gp (by simp[htk];omega)];simp[List.getElem?_take,hj]
 obtain⟨W1,hW1⟩:∃W1,W1=w.drew.alloc (.cells ROW 37):=⟨_,rfl⟩;rw[←hW1]at hrz;have hN:∀j,j<(n+1)*3→(W1.cell? ⟨w.heap.size,j,none⟩).isSome=true:=fun j hj=>by
  rw[hW1,World.cell?_alloc_at (w:=w.drew) ROW _ w.heap.size j rfl,sD (by omega)];rfl
 have hNf:∀j,W1.frozen? ⟨w.heap.size,j,none⟩=false:=fun j=>by rw[hW1];exact World.frozen?_alloc_at (w:=w.drew) ROW _ w.heap.size j rfl
 have hOb:∀j v,w.cell? ⟨b,j,none⟩=some v→W1.cell? ⟨b,j,none⟩=some v:=fun j v h=>by rw[hW1,World.cell?_alloc_past (w:=w.drew) _ b j hbw];exact h
 have hOv:∀j v,w.cell? ⟨vb,j,none⟩=some v→W1.cell? ⟨vb,j,none⟩=some v:=fun j v h=>by rw[hW1,World.cell?_alloc_past (w:=w.drew) _ vb j hvw];exact h
 have hcpA:∀(W:World),(∀x,W.cell? x=W1.cell? x)→(∀x,W.frozen? x=W1.frozen? x)→∀ty dc,(Builtin.copy_ #[56,56] ty #[.slice (some ⟨w.heap.size,i*3,none⟩) (n+1- i) dc,.slice (some ⟨vb,voff,none⟩) 1 vc]).run Tryz.prog W=.ok (goInt 1) (W.setCells w.heap.size (i*3) vs):=fun W hWc hWf ty dc=>by
  have hm:Nat.min 1 (n+1- i)=1:=by simp only[Nat.min_def];split<;>omega
  have:=I5 W 56 56 ty 37 w.heap.size (i*3) (n+1- i) dc ⟨vb,voff,none⟩ 1 vc vs 3 mZ hsz (by rw[hm,hvl])
   (fun j v hj=>by rw[Addr.add_lit,hWc];exact hOv _ v (hvs j v hj))
   (fun j hj=>by rw[hWc];exact hN _ (by omega)) (fun j hj=>by rw[hWf];exact hNf _) h1v
  rw[hm]at this;exact this
 have hGi:¬(G=i):=by omega
 have hGim:¬(G=i+1):=by omega
 have hci:¬(n=i):=by omega
 have hbN:b≠w.heap.size:=by omega
 have hdl:(cs.drop (i*3)).length=(n- i)*3:=by rw[yt,hcl];omega
 have hcpB:∀(W:World),(∀x,W.cell? x=(W1.setCells w.heap.size (i*3) vs).cell? x)→(∀x,W.frozen? x=(W1.setCells w.heap.size (i*3) vs).frozen? x)→∀ty dc sc,(Builtin.copy_ #[56,56] ty #[.slice (some ⟨w.heap.size,(i+1)*3,none⟩) (n- i) dc,.slice (some ⟨b,off+i*3,none⟩) (n- i) sc]).run Tryz.prog W=.ok (goInt ((n- i:Nat):Int)) (W.setCells w.heap.size ((i+1)*3) (cs.drop (i*3))):=fun W hWc hWf ty dc sc=>by
  have hm:Nat.min (n- i) (n- i)=n- i:=by simp only[Nat.min_def];split<;>rfl
  have:=I5 W 56 56 ty 37 w.heap.size ((i+1)*3) (n- i) dc ⟨b,off+i*3,none⟩ (n- i) sc (cs.drop (i*3)) 3 mZ hsz (by rw[hm,hdl])
   (fun j v hj=>by
    rw[Addr.add_lit,hWc,World.cell?_setCells_out _ _ _ _ _ (fun h _=>absurd h hbN),fa]
    exact hOb _ v (hcs (i*3+j) v (by rwa[mg]at hj)))
   (fun j hj=>by rw[hWc];exact isSome_setCells _ _ _ _ (fun t ht=>hN _ (by omega)) _ (hN _ (by omega)))
   (fun j hj=>by rw[hWf,World.frozen?_setCells];exact hNf _) (fun v hv=>h1c v (A5 hv))
  rw[hm]at this;exact this
 subst hW1;have hE1:∀x,((w.alloc (.cells ROW 37)).drew).cell? x=(w.drew.alloc (.cells ROW 37)).cell? x:=fun x=>rfl;have hE2:∀x,((w.alloc (.cells ROW 37)).drew).frozen? x=(w.drew.alloc (.cells ROW 37)).frozen? x:=fun x=>rfl;have hF1:∀x,(((w.alloc (.cells ROW 37)).drew.setCells w.heap.size (i*3) vs).drew).cell? x=((w.drew.alloc (.cells ROW 37)).setCells w.heap.size (i*3) vs).cell? x:=fun x=>rfl;have hF2:∀x,(((w.alloc (.cells ROW 37)).drew.setCells w.heap.size (i*3) vs).drew).frozen? x=((w.drew.alloc (.cells ROW 37)).setCells w.heap.size (i*3) vs).frozen? x:=fun x=>rfl;have hw1:IntKind.i64.wrap ((i:Int)+1)=(i:Int)+1:=by rw[IntKind.wrap_i64];omega
 have hw2:IntKind.i64.wrap ((n:Int)+1)=(n:Int)+1:=by rw[IntKind.wrap_i64];omega
 have hw3:IntKind.i64.wrap ((n:Int)+1- i)=(n:Int)+1- i:=by rw[IntKind.wrap_i64];omega
 have hb1:(0:Int)≤(i:Int)+1:=by omega
 have hin:i≤n:=by omega
 have htn:((i:Int)+1).toNat=i+1:=by omega
 have hb3:(i:Int)≤(n:Int):=by omega
 have hb7:(i:Int)+1≤(n:Int)+1:=by omega
 have hcpB':=fun ty dc sc=>hcpB _ hF1 hF2 ty dc sc;clear hkk hik hold hROW hG hfit hfit2
 go_enter Tryz.func223,Tryz.ntmps223
 go_wp2_with (first
  |(at_builtin;refine Lib.wpList_append_run _ rfl _ _ _ _ rfl _ _ rfl rfl _ _ (hrz _) ?_)
  |(at_builtin;refine wpList_copy_runI _ rfl _ _ 56 56 rfl _ _ rfl rfl (hcpA _ hE1 hE2 _ _) ?_))
 go_region_law_o (refine step_copy_runI rfl _ _ 56 56 rfl (.slice (some ⟨w.heap.size,(i+1)*3,none⟩) (n- i) (G- (i+1))) (.slice (some ⟨b,off+i*3,none⟩) (n- i) (n- i)) (by simp[Act.eval,Act.put]) (by simp[Act.eval,Act.put]) (hcpB _ hF1 hF2 3 (G- (i+1)) (n- i)) ?_)
 go_wp2
 go_ret;refine arU hi hRl hRg hGn hcl hvl (fun k=>?_) ?_
 ·exact congrArg (fun h:Array Obj=>h[k]?) (arT ((w.drew.alloc (.cells ROW 37)).setCells w.heap.size (i*3) vs) w.heap.size ((i+1)*3) (cs.drop (i*3)))
 ·exact(NO _ _ ((NO _ _ ((Ext.refl w).alloc _).drew (y7 _)).drew) (y7 _))
def RowRel(St:Nat→Nat→Prop)(w:World)(xs:List Val)(us:List Value):Prop:=
 us.length=xs.length*3∧∀e(he:e<xs.length) j d,(enc .val xs[e])[j]?=some d→∃u,us[e*3+j]?=some u∧VRel En St w u d
def Z3(x:Val){j d}(h:(enc .val x)[j]?=some d):j<3:=by
 have h0:=(ym.1 h).1;rw[pX]at h0;exact h0
def RowRel.append{St w xs ys us vs}(h:RowRel St w xs us)(k:RowRel St w ys vs):RowRel St w (xs++ys) (us++vs):=by
 refine⟨by rw[yb,yb,h.1,k.1,iA],fun e he j d hd=>?_⟩;rw[yb]at he;by_cases h1:e<xs.length
 ·rw[List.getElem_append_left h1]at hd;obtain⟨u,h2,h3⟩:=h.2 e h1 j d hd;exact⟨u,by rw[d7 (ym.1 h2).1];exact h2,h3⟩
 ·rw[List.getElem_append_right (by omega)]at hd;obtain⟨u,h2,h3⟩:=k.2 (e- xs.length) (by omega) j d hd;refine⟨u,?_,h3⟩;rw[fC (by rw[h.1];have:=fB 3 (show xs.length≤e by omega);omega),h.1];rw[show e*3+j- xs.length*3=(e- xs.length)*3+j by omega];exact h2
def RowRel.take{St w xs us}(h:RowRel St w xs us) i:RowRel St w (xs.take i) (us.take<|i*3):=by
 refine⟨by rw[yn,yn,h.1];omega,fun e he j d hd=>?_⟩;rw[yn]at he;rw[List.getElem_take]at hd;have hj:=Z3 _ hd;obtain⟨u,h2,h3⟩:=h.2 e (by omega) j d hd;exact⟨u,by rw[vn<|by omega];exact h2,h3⟩
def RowRel.drop{St w xs us}(h:RowRel St w xs us) i:RowRel St w (xs.drop i) (us.drop<|i*3):=by
 refine⟨by rw[yt,yt,h.1];omega,fun e he j d hd=>?_⟩;rw[yt]at he;rw[List.getElem_drop]at hd;obtain⟨u,h2,h3⟩:=h.2 (i+e) (by omega) j d hd;exact⟨u,by rw[mg,show i*3+(e*3+j)=(i+e)*3+j by omega];exact h2,h3⟩
def RowRel.one{St w xs us}(h:RowRel St w xs us):∀u∈us,u.oneCell'=true:=by
 intro u hu;obtain⟨q,hq⟩:=j8 hu;have hlt:=(ym.1 hq).1;rw[h.1]at hlt;have he:q/3<xs.length:=by omega
 have hl:q % 3<(enc .val<|xs[q/3]'he).length:=by rw[pX];exact A6 _<|by decide
 obtain⟨u',h2,h3⟩:=h.2 (q/3) he (q % 3) _<|ya hl;rw[show q/3*3+q % 3=q by omega,hq]at h2;cases h2;exact Ky h3.one
def RowRel.of{St w}{xs:List Val}{cv}(h:∀i(hi:i<xs.length) j d,(enc .val xs[i])[j]?=some d→VRel En St w (cv i j) d):RowRel St w xs (fM xs.length 3 cv):=
 ⟨Fe _ _ _,fun e he j d hd=>⟨_,Z0 (by decide) he<|Z3 _ hd,h e he j d hd⟩⟩
def I6 b:∀(vs:List Value)(o:Nat)(w:World),(∀j,j<vs.length→(w.cell? ⟨b,o+j,none⟩).isSome=true)→Stored w (w.setCells b o vs) b o vs
 |[],o,w,_=>⟨rfl,rfl,rfl,rfl,fun _ _=>rfl,fun i v h=>by simp at h,fun _ _=>rfl,fun _=>rfl,fun _=>rfl⟩
 |v::r,o,w,h=>by
  have hs:∀j,j<r.length→((w.setCell ⟨b,o,none⟩ v).cell? ⟨b,o+1+j,none⟩).isSome=true:=fun j hj=>by
   rw[World.cell?_setCell_other _ _ _ _<|by simp];have:=h (j+1) (by simp;omega);rwa[show o+(j+1)=o+1+j by omega]at this
  have ih:=I6 b r (o+1) (w.setCell ⟨b,o,none⟩ v) hs;refine⟨ih.os,ih.tape,ih.output,by rw[World.setCells,ih.size];simp,fun k hk=>by rw[World.setCells,ih.block k hk];exact Below.heap_setCell _ _ _ _ hk,fun i u hu=>?_,fun p hp=>?_,fun p=>?_,by simp⟩
  ·have:=World.cell?_setCells_in b (v::r) o w h i (ym.1 hu).1;rw[this];obtain⟨_,h2⟩:=ym.1 hu;exact congrArg some h2
  ·rw[World.setCells,ih.other p (by simp only[yz]at hp;omega)];exact World.cell?_setCell_other _ _ _ _ (by rintro rfl;simp only[yz]at hp;omega)
  ·rw[World.setCells,ih.frozen p];exact Qe _ _ _ _
def arW{w w1 w2 b off o1 o2 us v1 v2}(h1:Stored w.drew w1 b o1 v1)(h2:Stored w1 w2 b o2 v2)(hne:us≠[])(hb1:off≤o1∧o1+v1.length≤off+us.length)(hb2:off≤o2∧o2+v2.length≤off+us.length)(hin:∀(j:Nat) v,us[j]?=some v→w2.cell? ⟨b,off+j,none⟩=some v):Stored w w2 b off us:=
 ⟨h2.os.trans h1.os,h2.tape.trans h1.tape,h2.output.trans h1.output,h2.size.trans h1.size,fun k hk=>(h2.block k hk).trans<|h1.block k hk,hin,fun p hp=>(h2.other p<|by omega).trans<|h1.other p<|by omega,fun p=>(h2.frozen p).trans<|h1.frozen p,fun h=>(hne h).elim⟩
def arX{w b off n i}{cs vs:List Value}(hi:i≤n)(hcl:cs.length=n*3)(hvl:vs.length=3)(hcs:∀j v,cs[j]?=some v→w.cell? ⟨b,off+j,none⟩=some v)(hsp:∀j,j<(n+1)*3→(w.cell? ⟨b,off+j,none⟩).isSome=true):
 Stored w ((w.drew.setCells b (off+(i+1)*3) (cs.drop (i*3))).setCells b (off+i*3) vs) b off (cs.take (i*3)++vs++cs.drop (i*3)):=by
 have hdl:(cs.drop (i*3)).length=(n- i)*3:=by rw[yt,hcl];omega
 have htk:(cs.take (i*3)).length=i*3:=by rw[yn];omega
 have h1:=I6 b (cs.drop (i*3)) (off+(i+1)*3) w.drew (fun j hj=>by rw[fa];exact hsp _ (by omega));have hs1:∀j,j<(n+1)*3→((w.drew.setCells b (off+(i+1)*3) (cs.drop (i*3))).cell? ⟨b,off+j,none⟩).isSome=true:=fun j hj=>isSome_setCells _ _ _ _ (fun t ht=>by rw[fa];exact hsp _ (by omega)) _ (hsp _ hj);have h2:=I6 b vs (off+i*3) _ (fun j hj=>by rw[fa];exact hs1 (i*3+j) (by omega));have hul:(cs.take (i*3)++vs++cs.drop (i*3)).length=(n+1)*3:=by simp only[yb];omega
 refine arW h1 h2 (fun h=>by rw[h]at hul;simp at hul) (by omega) (by omega) (fun j v hj=>?_);have hlt:j<(n+1)*3:=by have:=(ym.1 hj).1;omega
 by_cases h3:j<i*3
 ·rw[h2.other ⟨b,off+j,none⟩ (.inl (by show off+j<_;omega)),h1.other ⟨b,off+j,none⟩ (.inl (by show off+j<_;omega))];rw[yw,d7 (by omega),vn h3]at hj;exact hcs j v hj
 ·by_cases h4:j<(i+1)*3
  ·have:=h2.cell (j- i*3) v (by rw[←hj,yw,fC (by omega),htk,d7 (by omega)]);rw[show off+i*3+(j- i*3)=off+j by omega]at this;exact this
  ·rw[h2.other ⟨b,off+j,none⟩ (.inr (.inl (by show _≤off+j;omega)))];have:=h1.cell (j- (i+1)*3) v (by rw[←hj,fC (by rw[yb];omega),yb,htk,hvl,show i*3+3=(i+1)*3 by omega]);rw[show off+(i+1)*3+(j- (i+1)*3)=off+j by omega]at this;exact this
def arY{w b off n cs vs}(hcl:cs.length=n*3)(hvl:vs.length=3)(hcs:∀j v,cs[j]?=some v→w.cell? ⟨b,off+j,none⟩=some v)(hsp:∀j,j<(n+1)*3→(w.cell? ⟨b,off+j,none⟩).isSome=true):
 Stored w (w.setCells b (off+n*3) vs) b off (cs++vs):=by
 have h2:=I6 b vs (off+n*3) w (fun j hj=>by rw[fa];exact hsp (n*3+j) (by omega));have hul:(cs++vs).length=(n+1)*3:=by simp only[yb];omega
 refine⟨h2.os,h2.tape,h2.output,h2.size,h2.block,fun j v hj=>?_,fun p hp=>h2.other p (by omega),h2.frozen,fun h=>by rw[h]at hul;simp at hul⟩;by_cases h3:j<n*3
 ·rw[h2.other ⟨b,off+j,none⟩ (.inl (by show off+j<_;omega))];rw[d7 (by omega)]at hj;exact hcs j v hj
 ·have:=h2.cell (j- n*3) v (by rw[←hj,fC (by omega),hcl]);rw[show off+n*3+(j- n*3)=off+j by omega]at this;exact this
def arZ{g w w'}{xs ys:List Val}{b off cap us}(hp:Part Tryz.prog En g w [] [⟨0,.val,xs,some 0,true⟩])(htk:g.tk 0=(some ⟨b,off,none⟩,cap))(hst:Stored w w' b off us)(hcap:ys.length≤cap)(hxy:xs.length≤ys.length)(hbig:ys.length≤9223372036854775807)(hA:∀x,x<cap*3→g.ω b (off+x)=some (.obj 0)∧(∃v,w.cell? ⟨b,off+x,none⟩=some v)∧stuck w ⟨b,off+x,none⟩=false)(hrel:RowRel g.St w ys us):
 rM Tryz.prog En g w w' (.slice (some ⟨b,off,none⟩) ys.length cap) [.c (.ob 0 0)] [] [⟨0,.val,ys,some 0,true⟩]:=by
 have hul:=hrel.1;have hcap3:ys.length*3≤cap*3:=fB 3 hcap;have hmine:∀x,x<cap*3→g.mine b (off+x):=fun x hx=>⟨.obj 0,by simp,(hA x hx).1⟩
 have hk:Keeps g.St w g.St w':=fun b' o hs=>⟨hs,hst.other ⟨b',o,none⟩ (by
  by_cases e:b'=b
  ·subst e;by_cases h1:o<off
   ·exact .inl h1
   ·by_cases h2:off+us.length≤o
    ·exact .inr (.inl h2)
    ·have:=(hA (o- off) (by omega)).1;rw[show off+(o- off)=o by omega]at this;have hs':g.ω b' o=some .st:=hs;rw[this]at hs';simp at hs'
  ·exact .inr (.inr e))⟩
 have hobj:ObRel En g w' 0 ⟨0,.val,ys,some 0,true⟩:=by
  refine⟨⟨⟨by rw[htk];exact hcap,hbig⟩,fun f hf=>by simp at hf;subst hf;exact yc _⟩,fun _=>⟨b,off,fun i j=>us.getD (i*3+j) undef,by rw[htk],⟨?_,?_,?_⟩⟩⟩
  ·intro i j hi hj;have hi':i<ys.length:=hi;have hj':j<3:=hj;have hlt:i*3+j<ys.length*3:=by omega
   have e0:off+i*Un.sz .val+j=off+(i*3+j):=by show off+i*3+j=_;omega
   show w'.cell? ⟨b,off+i*Un.sz .val+j,none⟩=_∧eu g w' 0 (some 0) i b (off+i*Un.sz .val+j);rw[e0];refine⟨?_,fun h=>absurd h (cQ _),fun _=>⟨(hA _ (by omega)).1,by rw[hst.frozen];exact(hA _ (by omega)).2.2⟩⟩;rw[yf,ya (by omega)];exact hst.cell _ _ (ya (by omega))
  ·intro i hi j d hd;obtain⟨u,h1,h2⟩:=hrel.2 i hi j d hd;show VRel En g.St w' (us.getD (i*3+j) undef) d;rw[yf,h1];exact h2.mono hk
  ·intro _ x hx hx';have hx1:ys.length*3≤x:=hx;have hx2:x<cap*3:=by rw[htk]at hx';exact hx'
   obtain⟨h1,⟨v,h2⟩,h3⟩:=hA x hx2;exact⟨h1,⟨v,by rw[hst.other ⟨b,off+x,none⟩ (.inr (.inl (by show _≤off+x;omega)))];exact h2⟩,by rw[hst.frozen];exact h3⟩
 have hnb:∀b o,LB b=true→¬g.mine b o:=fun b o hl hm=>by obtain⟨y,hy,hx⟩:=hm;exact hy (hp.nlb b o y hl hx)
 have hfe:=FExt.stored (fr:=⟨w,g.mine,g.St,0,g.β⟩) (w:=w) ⟨rfl,rfl,rfl,y7 _,fun _ _ _=>rfl,fun _ _ _ _=>rfl,fun _ _ _ _=>rfl,hp.laid,fun b hl=>hp.laid.lt b hl,hnb⟩ hst (fun i hi=>.inr (hmine i (by omega)));refine⟨g,hfe,⟨fun k fz cells hk'=>by simp at hk',hp.lbs,fun k o ho=>?_,fun b' o x hx=>by rw[hst.size];exact hp.own b' o x hx,hfe.laid,hp.nlb⟩,fun _ _=>rfl,fun b' o x _ hx=>?_,?_⟩
 ·cases k with
  |zero=>simp at ho;subst ho;exact⟨hobj,rfl⟩
  |succ k=>simp at ho
 ·cases x with
  |st=>exact .inr ⟨rfl,hx⟩
  |box k=>exact .inl ⟨_,by simp,hx⟩
  |obj k=>exact .inl ⟨_,by simp,hx⟩
 ·exact⟨rfl,_,rfl,y7 _,fun _=>by rw[htk]⟩
open Classical in
def NQ{g:G}{w w':World}{ys:List Val}{n:Nat}{us:List Value}{e:Ending}(hld:Laid w)(hnl:∀b o x,LB b=true→g.ω b o=some x→x=.st)(hlb:∀k,¬g.lb k)(hown:∀b o x,g.ω b o=some x→b<w.heap.size)(hI:Fj w n us e w')(hn:ys.length=n+1)(hbig:ys.length≤9223372036854775807)(hrel:RowRel g.St w ys us):
 ∃v,e=.returned v∧rM Tryz.prog En g w w' v [.c (.ob 0 0)] [] [⟨0,.val,ys,some 0,true⟩]:=by
 obtain⟨cap,ROW,rfl,hcap,hsz,hget,hext,hheap⟩:=hI;refine⟨_,rfl,?_⟩;have hul:=hrel.1;have hcap3:ys.length*3≤cap*3:=fB 3 (by omega);have hgb:w.heap.size<w'.heap.size:=(y33.1 hheap).1;have hcell:∀q,q<cap*3→w'.cell? ⟨w.heap.size,q,none⟩=ROW[q]?∧(∃u,w'.cell? ⟨w.heap.size,q,none⟩=some u)∧stuck w' ⟨w.heap.size,q,none⟩=false:=by
  intro q hq;have h1:w'.cell? ⟨w.heap.size,q,none⟩=ROW[q]?:=by simp[World.cell?,hheap]
  refine⟨h1,⟨ROW[q]'(by omega),by rw[h1];exact sD _⟩,?_⟩;simp[stuck,World.shape?,World.frozen?,hheap]
 let g':G:=⟨g.β,fun _=>False,fun b o=>if b<w.heap.size then(if g.St b o then some .st else none)else if b=w.heap.size∧o<cap*3 then some (.obj 0)else none,fun _=>(some ⟨w.heap.size,0,none⟩,cap)⟩;have hω:∀o,o<cap*3→g'.ω w.heap.size o=some (.obj 0):=fun o ho=>by
  show(if w.heap.size<w.heap.size then _ else _)=_;rw[if_neg (by omega),if_pos ⟨rfl,ho⟩]
 have hk:Keeps g.St w g'.St w':=fun b o hs=>by
  have hb:=hown b o _ hs;refine⟨?_,hext.cell (p:=⟨b,o,none⟩) hb⟩;show(if b<w.heap.size then _ else _)=_;rw[if_pos hb,if_pos hs]
 have hnb:∀b o,LB b=true→¬g.mine b o:=fun b o hl hm=>by obtain⟨y,hy,hx⟩:=hm;exact hy (hnl b o y hl hx)
 refine⟨g',FExt.later ⟨rfl,rfl,rfl,y7 _,fun _ _ _=>rfl,fun _ _ _ _=>rfl,fun _ _ _ _=>rfl,hld,fun b hl=>hld.lt b hl,hnb⟩ hext,⟨fun k fz cells hk'=>by simp at hk',fun k hk'=>hk'.elim,fun k o ho=>?_,fun b o x hx=>?_,hld.ext hext,fun b o x hl hx=>?_⟩,fun _ _=>rfl,fun b o x hb hx=>?_,?_⟩
 ·cases k with
  |succ k=>simp at ho
  |zero=>
   simp at ho;subst ho;refine⟨⟨⟨⟨by show ys.length≤cap;omega,hbig⟩,fun f hf=>by simp at hf;subst hf;exact yc _⟩,fun _=>⟨w.heap.size,0,fun i j=>us.getD (i*3+j) undef,rfl,⟨?_,?_,?_⟩⟩⟩,rfl⟩
   ·intro i j hi hj;have hi':i<ys.length:=hi;have hj':j<3:=hj;have hlt:i*3+j<ys.length*3:=by omega
    have e0:0+i*Un.sz .val+j=i*3+j:=by show 0+i*3+j=_;omega
    show w'.cell? ⟨w.heap.size,0+i*Un.sz .val+j,none⟩=_∧eu g' w' 0 (some 0) i w.heap.size (0+i*Un.sz .val+j);rw[e0];obtain⟨c1,_,c3⟩:=hcell (i*3+j) (by omega);refine⟨?_,fun h=>absurd h (cQ _),fun _=>⟨hω _ (by omega),c3⟩⟩;rw[c1,yf,ya (by omega)];exact hget _ _ (ya (by omega))
   ·intro i hi j d hd;obtain⟨u,h1,h2⟩:=hrel.2 i hi j d hd;show VRel En g'.St w' (us.getD (i*3+j) undef) d;rw[yf,h1];exact h2.mono hk
   ·intro _ x hx hx';have hx2:x<cap*3:=hx';obtain⟨_,c2,c3⟩:=hcell x hx2;show g'.ω w.heap.size (0+x)=_∧_;rw[iE];exact⟨hω x hx2,c2,c3⟩
 ·have hx':(if b<w.heap.size then(if g.St b o then some Own.st else none)else if b=w.heap.size∧o<cap*3 then some (Own.obj 0)else none)=some x:=hx;split at hx'
  ·omega
  ·split at hx'
   ·rename_i hh;omega
   ·simp at hx'
 ·have hx':(if b<w.heap.size then(if g.St b o then some Own.st else none)else _)=some x:=hx;rw[if_pos (hld.lt b hl)]at hx';split at hx'
  ·simp at hx';exact hx'.symm
  ·simp at hx'
 ·have hx':(if b<w.heap.size then(if g.St b o then some Own.st else none)else _)=some x:=hx;rw[if_pos hb]at hx';split at hx'
  ·rename_i hs;simp at hx';exact .inr ⟨hx'.symm,hs⟩
  ·simp at hx'
 ·exact⟨rfl,_,rfl,y7 _,fun _=>by rw[hn]⟩
def NR:List Bool×fS Un:=([true],fun args bxs os=>match args,bxs,os with
 |[.c<|.ob 0 0,x1,x2],[],[o]=>(oM .val o).bind fun xs=>(aI .i64 x1).bind fun i=>(aL .val x2).bind fun vs=>some ([(0≤i∧i≤(xs.length:Int))∧xs.length≤1000000∧vs.length=1],[.c<|.ob 0 0],[],[⟨0,.val,xs.take i.toNat++vs++xs.drop i.toNat,some 0,true⟩])
 |_,_,_=>none)
def ar0:iv AC NR:=by
 intro args bxs obs ob rs bxs' obs' h hob;unfold NR at h;dsimp only at h;split at h
 ·rename_i x1 x2 o;simp only[y6,y8,yi]at h;obtain⟨xs,e0,i,e1,vs,e2,rfl,rfl,rfl,rfl⟩:=h;obtain rfl:=DT e0;obtain rfl:=zL e1;obtain rfl:=TA e2;obtain⟨⟨hi0,hi1⟩,hbig,hv1⟩:=hob _ (yl.2 rfl);refine⟨?_,zl Tryz.func223 (by kernel_rfl) (by kernel_rfl)⟩;obtain⟨i,rfl⟩:∃k:Nat,i=k:=⟨i.toNat,(Gr hi0).symm⟩;rw[y5];have hin:i≤xs.length:=by omega
  intro w g vals hp hvals
  match vals,hvals with
  |[v0,v1,v2],⟨h0,h1,h2,_⟩=>
   obtain⟨_,o',ho',_,hv⟩:=h0;simp at ho';subst ho';have hv:=hv rfl;obtain rfl:v1=.int .i64 i:=h1.1;have hV:VRel En g.St w v2 (.dat .val vs):=h2.1;obtain⟨hob0,_⟩:=hp.obs 0 _ rfl;obtain⟨⟨⟨hcap,hmax⟩,_⟩,hrow⟩:=hob0;rcases hV.inv with⟨rfl,_⟩|⟨vb,voff,vc,cv,rfl,_,hvc,hvr⟩
   ·simp at hv1
   ·have hvR:RowRel g.St w vs (fM vs.length 3 cv):=RowRel.of hvr;have hvl:(fM vs.length 3 cv).length=3:=by rw[Fe,hv1]
    have hvcell:∀j u,(fM vs.length 3 cv)[j]?=some u→w.cell? ⟨vb,voff+j,none⟩=some u∧g.St vb (voff+j):=by
     intro j u hj;obtain⟨e,q,he,hq,rfl,rfl⟩:=Ff hj;have:=hvc e q he hq;have e3:Un.sz .val=3:=rfl;rw[e3,fa]at this;exact⟨this.2,this.1⟩
    obtain⟨us,hus⟩:∃us,us=fM vs.length 3 cv:=⟨_,rfl⟩;rw[←hus]at hvR hvl hvcell;have hys:∀cs,RowRel g.St w xs cs→RowRel g.St w (xs.take i++vs++xs.drop i) (cs.take (i*3)++us++cs.drop (i*3)):=fun cs hc=>((hc.take i).append hvR).append (hc.drop i);have hyl:(xs.take i++vs++xs.drop i).length=xs.length+1:=by simp only[yb,yn,yt];omega
    have hone:=hvR.one;have hv2:vs.length=1:=hv1;rw[hv,hv1];rcases yk xs.length (g.tk 0).2 with hroom|hfull
    ·obtain⟨b,off,cs0,hbase,hA⟩:=hrow (by show 0<_;omega);have hcR:RowRel g.St w xs (fM xs.length 3 cs0):=RowRel.of hA.rel;obtain⟨cs,hcs⟩:∃cs,cs=fM xs.length 3 cs0:=⟨_,rfl⟩;rw[←hcs]at hcR;have hccell:∀j u,cs[j]?=some u→w.cell? ⟨b,off+j,none⟩=some u:=by
      intro j u hj;rw[hcs]at hj;obtain⟨e,q,he,hq,rfl,rfl⟩:=Ff hj;have:=(hA.cell e q he hq).1;have e3:Un.sz .val=3:=rfl;rw[e3,fa]at this;exact this
     have hall:∀x,x<(g.tk 0).2*3→g.ω b (off+x)=some (.obj 0)∧(∃v,w.cell? ⟨b,off+x,none⟩=some v)∧stuck w ⟨b,off+x,none⟩=false:=by
      intro x hx;rcases yk x (xs.length*3)with g1|g1
      ·have he:x/3<xs.length:=by omega
       have hm:=hA.cell (x/3) (x % 3) he (A6 _ (by decide));have e3:off+x/3*Un.sz .val+x % 3=off+x:=by show off+x/3*3+x % 3=_;omega
       rw[e3]at hm;obtain⟨m1,m2⟩:=hm.2.2 (yc _);exact⟨m1,⟨_,hm.1⟩,m2⟩
      ·exact hA.spare rfl x g1 hx
     have htk:g.tk 0=(some ⟨b,off,none⟩,(g.tk 0).2):=by rw[←hbase]
     have hcap3:(xs.length+1)*3≤(g.tk 0).2*3:=fB 3 hroom;have hsp:∀j,j<(xs.length+1)*3→(w.cell? ⟨b,off+j,none⟩).isSome=true:=fun j hj=>by
      obtain⟨_,⟨v,hv⟩,_⟩:=hall j (by omega);rw[hv];rfl
     have hnf:∀j,j<(xs.length+1)*3→w.frozen? ⟨b,off+j,none⟩=false:=fun j hj=>yQ (hall j (by omega)).2.2
     have fin:∀(e:Ending)(w':World),e=.returned (.slice (some ⟨b,off,none⟩) (xs.length+1) (g.tk 0).2)→Stored w w' b off (cs.take (i*3)++us++cs.drop (i*3))→
      ∃v,e=.returned v∧rM Tryz.prog En g w w' v [.c (.ob 0 0)] [] [⟨0,.val,xs.take i++vs++xs.drop i,some 0,true⟩]:=fun e w' he hst=>by
      refine⟨_,he,?_⟩;rw[←hyl];exact arZ hp htk hst (by omega) (by omega) (by omega) hall (hys cs hcR)
     rw[hbase];by_cases hie:i=xs.length
     ·subst hie;refine(arS b off xs.length (g.tk 0).2 vb voff vc us w hroom hbig hvl (fun j hj=>by rw[fa];exact hsp _ (by omega)) (fun j hj=>by rw[fa];exact hnf _ (by omega)) (fun j u hj=>(hvcell j u hj).1) hone).mono ?_;rintro e w' ⟨he,rfl⟩;refine fin e _ he ?_;have:=arY (vs:=us) hcR.1 hvl hccell hsp;rw[vm (by have:=hcR.1;omega),fA (by have:=hcR.1;omega),de];exact this
     ·obtain⟨_,⟨z1,hz1⟩,hz2⟩:=hall ((i+1)*3) (by omega);have hshape:∀{k o:Nat}{u:Value},w.cell? ⟨k,o,none⟩=some u→∃t n,w.shape? k=some (t,n)∧n≠0:=by
       intro k o u hu;unfold World.cell? at hu;unfold World.shape?;split at hu
       ·rename_i c t fr hk;simp only[hk];refine⟨_,_,rfl,fun h0=>?_⟩;simp at hu;have:=(y33.1 hu).1;omega
       ·simp at hu
      obtain⟨u0,hu0⟩:∃u0,us[0]?=some u0:=⟨us[0]'(by omega),ya _⟩;obtain⟨tA,kA,hsa,hkA⟩:=hshape (hvcell 0 u0 hu0).1;obtain⟨tB,kB,hsb,hkB⟩:=hshape hz1;refine(arR b off xs.length (g.tk 0).2 i vb voff vc cs us w (by omega) hroom hbig hcR.1 hvl hccell hsp hnf (fun j u hj=>(hvcell j u hj).1) hcR.one hone tA tB kA kB hsa hsb hkA hkB hz2 ?_).mono ?_
      ·intro he j hj q hq hjq;subst he;obtain⟨u,hu⟩:∃u,us[q]?=some u:=⟨us[q]'(by omega),ya _⟩;have h1:=(hvcell q u hu).2;have h2:=(hall j (by omega)).1;have h1':g.ω vb (voff+q)=some .st:=h1;rw[←hjq,h2]at h1';simp at h1'
      ·rintro e w' ⟨he,rfl⟩;exact fin e _ he (arX hin hcR.1 hvl hccell hsp)
    ·have hcn:(g.tk 0).2=xs.length:=by have h1:xs.length≤(g.tk 0).2:=hcap;omega
     have hlb:∀k,¬g.lb k:=fun k hk=>by have:=hp.lbs k hk;simp at this
     rw[hcn];by_cases hx0:xs.length=0
     ·have hx:xs=[]:=yx hx0;subst hx;obtain rfl:i=0:=by simpa using hin
      refine(Z2 (g.tk 0).1 0 vb voff vc [] us w (by omega) rfl hvl (fun _=>rfl) (fun a _ j v hj=>by simp at hj) (fun j u hj=>(hvcell j u hj).1) hone).mono ?_;intro e w' hI;have hz:=hys [] ⟨rfl,fun e he=>absurd he (cQ _)⟩;simp only[List.take_nil,List.drop_nil,yr,de]at hz ⊢;exact NQ hp.laid hp.nlb hlb hp.own hI (by simpa using hv2) (by omega) hz
     ·obtain⟨b,off,cs0,hbase,hA⟩:=hrow (by show 0<_;omega);have hcR:RowRel g.St w xs (fM xs.length 3 cs0):=RowRel.of hA.rel;obtain⟨cs,hcs⟩:∃cs,cs=fM xs.length 3 cs0:=⟨_,rfl⟩;rw[←hcs]at hcR;have hccell:∀j u,cs[j]?=some u→w.cell? ⟨b,off+j,none⟩=some u:=by
       intro j u hj;rw[hcs]at hj;obtain⟨e,q,he,hq,rfl,rfl⟩:=Ff hj;have:=(hA.cell e q he hq).1;have e3:Un.sz .val=3:=rfl;rw[e3,fa]at this;exact this
      rw[hbase];by_cases hie:i=xs.length
      ·subst hie;refine(Z2 (some ⟨b,off,none⟩) xs.length vb voff vc cs us w hbig hcR.1 hvl (fun h=>by simp at h) (fun a ha j v hj=>by cases ha;rw[Addr.add_lit];exact hccell j v hj) (fun j u hj=>(hvcell j u hj).1) hone).mono ?_;intro e w' hI;have hz:=hys cs hcR;rw[vm (l:=cs) (by have:=hcR.1;omega),fA (l:=cs) (by have:=hcR.1;omega),de]at hz;exact NQ hp.laid hp.nlb hlb hp.own hI hyl (by omega) hz
      ·refine(arV b off xs.length i vb voff vc cs us w (by omega) hbig hcR.1 hvl hccell (fun j u hj=>(hvcell j u hj).1) hcR.one hone).mono ?_;intro e w' hI;exact NQ hp.laid hp.nlb hlb hp.own hI hyl (by omega) (hys cs hcR)
 ·simp at h
end B
namespace B
open Go Go.RowKit
set_option maxRecDepth 100000
noncomputable section
attribute [local irreducible] aB bk zw br aK b9 aR bu bA
def QV(r:Int×Bool):RF Un:=(lC r,lD r)
def I7:Nat→NS:=aO [(3,{ts:=bl 49 1813,bs:=bl 49 16,nm:=[]})] false
def qH(x:List Val)(t:Val)(p:Val→Val→Int)(v0:Int)(v1:Int):S Un:=(st 49 49 196 0 [(0,al .val x),(2,AV.one<|A.c<|C.fv<|kj p),(4,ax 4),(8,ai (↑x.length:Int)),(9,ai v0),(10,ai v1)] [(4,bg .val t)] [])
def CG:S Un→Option (EX Un):=aC av I7 Tryz.f222 [1,1,1,0,2,2] 3
def Z4:Exit→S Un→Option (RF Un):=aE av I7 Tryz.f222 [1,1,1,0,2] [.d,.d]
def Z5(x:List Val)(t:Val)(p:Val→Val→Int):Option (RF Un):=aw av I7 Tryz.f222 0 [.d,.d] [.d<|.v<|.dat (U:=Un) Ty.val x,.d<|.agg<|enc Ty.val t,.fn<|kj p]
def ar1(x t p):Z5 x t p=(CG<|qH x t p (0:Int) (↑x.length:Int)).bind (zd Z4):=ah
def ar2(x t p v0 v1):CG (qH x t p v0 v1)=af (decide<|v0<v1) (ae (¬(1:Int)<(0:Int))<|ae (0≤IntKind.i64.wrap ((IntKind.u64.wrap<|IntKind.i64.wrap<|v0+v1).fdiv<|(2:Int) ^min 1 IntKind.u64.bits)∧IntKind.i64.wrap ((IntKind.u64.wrap<|IntKind.i64.wrap<|v0+v1).fdiv<|(2:Int) ^min 1 IntKind.u64.bits)<(↑x.length:Int))<|af (decide<|p (x.getD (IntKind.i64.wrap<|(IntKind.u64.wrap<|IntKind.i64.wrap<|v0+v1).fdiv<|(2:Int) ^min 1 IntKind.u64.bits).toNat z7) t<0) (CG<|qH x t p (IntKind.i64.wrap<|IntKind.i64.wrap ((IntKind.u64.wrap<|IntKind.i64.wrap<|v0+v1).fdiv<|(2:Int) ^min 1 IntKind.u64.bits)+1) v1)<|CG<|qH x t p v0<|IntKind.i64.wrap<|(IntKind.u64.wrap<|IntKind.i64.wrap<|v0+v1).fdiv<|(2:Int) ^min 1 IntKind.u64.bits) (some (.exit 0,(qH x t p v0 v1))):=aF
theorem ar3(x t p v0 v1):Z4 (.exit 0) (qH x t p v0 v1)=af (decide<|v0<(↑x.length:Int)) (ae (0≤v0∧v0<(↑x.length:Int))<|some<|QV (v0,p (x.getD v0.toNat z7) t==0)) (some<|QV (v0,false)):=ah
def gJ(p:Val→Val→Int)(x:List Val)(t:Val):Nat:=(x.takeWhile fun y=>decide<|p y t<0).length
def AD(p:Val→Val→Int)(x:List Val)(t:Val):Prop:=x.length≤1000000000∧∀i,gJ p x t≤i→i<x.length→¬p (x.getD i z7) t<0
def m4(x:List Val)(t:Val)(p:Val→Val→Int):Int×Bool:=(gJ p x t,decide (gJ p x t<x.length)&&p (x.getD (gJ p x t) z7) t==0)
def Z6{p}:∀(l:List Val)(i:Nat),i<(l.takeWhile p).length→p (l.getD i z7)=true
 |[],i,h=>by simp at h
 |y::l,i,h=>by
  rw[vw]at h;split at h
  ·cases i with
   |zero=>grind
   |succ i=>simp at h;simpa using Z6 l i (by omega)
  grind
def ar4 p x t:gJ p x t≤x.length:=(P7 _).length_le
theorem ar5{a b}(ha:0≤a)(hb:0≤b)(h:a+b≤4000000000):IntKind.i64.wrap ((IntKind.u64.wrap<|IntKind.i64.wrap<|a+b).fdiv<|(2:Int) ^min 1 IntKind.u64.bits)=(a+b)/2:=by
 have e2:IntKind.u64.wrap (a+b)=a+b:=by
  have hb:IntKind.u64.bits=64:=rfl;unfold IntKind.wrap;grind
 have e3:((2:Int) ^min 1 IntKind.u64.bits)=2:=by rfl
 grind[Int.fdiv_eq_ediv_of_nonneg,zm]
def ar6 x t p(h:AD p x t):∀(k a b:Nat),b- a=k→a≤gJ p x t→gJ p x t≤b→b≤x.length→
 CG (qH x t p a b)=some (.exit 0,qH x t p (gJ p x t:Nat) (gJ p x t:Nat)):=by
 intro k
 induction k using Nat.strongRecOn with
 |_ k ih=>
  intro a b hk h1 h2 h3;have hl:=h.1;rw[ar2];simp only[z8,TC,ar5 (a:=(a:Int)) (b:=(b:Int)) (by omega) (by omega)<|by omega];by_cases hab:(a:Int)<b
  ·obtain⟨c,hc⟩:∃c:Nat,((a:Int)+b)/2=c:=⟨(a+b)/2,by rfl⟩;rw[hc];have hcl:(c:Int)<x.length:=by omega
   rw[if_pos<|by grind,if_pos<|by simp,if_pos ⟨by omega,hcl⟩,y5];by_cases hp:p (x.getD c z7) t<0
   ·have:c<gJ p x t:=by
     rcases yk c (gJ p x t)with g|g
     ·omega
     ·exact(h.2 c g (by omega) hp).elim
    rw[if_pos<|by grind,zm<|by omega];exact ih (b- (c+1)) (by omega) (c+1) b rfl (by omega) h2 h3
   ·have:gJ p x t≤c:=by
     rcases yk c (gJ p x t)with g|g
     ·have:=Z6 (p:=fun y=>decide<|p y t<0) x c g;grind
     omega
    grind
  grind
def ar7(x:List Val)(t:Val) p(_hx:WL .val x)(_ht:WS .val t)(h:AD p x t):Z5 x t p=some (QV<|m4 x t p):=by
 rw[ar1];have hl:=ar6 x t p h x.length 0 x.length rfl (yc _) (ar4 p x t)<|y7 _
 erw[hl]
 simp only[yj,zd,ar3,z8,TC,y5];grind[m4,gJ]
def QW:au Un:=fun args=>match args with
 |[x0,x1,x2]=>(dL .val x0).bind fun x=>(dS .val x1).bind fun t=>(dF x2).bind fun p=>some ([p=(kj<|zt p),AD (zt p) x t],lC<|m4 x t<|zt p,lD<|m4 x t<|zt p)
 |_=>none
def ar8:aj 222 QW:=by
 intro args ob rs os h hob;unfold QW at h;split at h
 ·simp only[y6,y8,yi]at h;obtain⟨x,e0,t,e1,p,e2,rfl,rfl,rfl⟩:=h;obtain rfl:=zi e0;obtain rfl:=zo e1;obtain rfl:=mv e2;have hfv0:=hob _<|y9 (i:=0) rfl;generalize zt p=pp0 at*;subst hfv0;exact⟨dz (M:=av) rfl (cM (l1:=[]) (l2:=[]) (l3:=[]) (l4:=[]) (l5:=[]) trivial trivial trivial trivial trivial) Tryz.func222 (by rfl) I7 0 [.d,.d] fun hwf=>(ar7 x t pp0 (bj hwf (a:=.d<|.v<|.dat (U:=Un) Ty.val x)<|y9 (i:=0) rfl) (bj hwf (a:=.d<|.agg<|enc Ty.val t)<|y9 (i:=1) rfl)<|hob _<|y9 (i:=1) rfl),zl Tryz.func222 (by rfl)<|by rfl⟩
 grind
def Z7:Mc Un:=az [(220,ZQ),(221,NK),(222,QW),(224,Fi)] [(147,gm)] [] [(223,NR)] []
def Z8(x:Acc)(v:Val):Option (RF Un):=aw Z7 aN Tryz.f186 0 [.d] [.d<|.agg<|enc Ty.acc x,.d<|.agg<|enc Ty.val v]
def ar9(x v):Z8 x v=af (!CD x v) (some<|dp x) (af (!x.distinct) (ae (nK x∧(x.name=nmSum→(-1000000000000000:Int)≤v.n∧v.n≤1000000000000000))<|some<|dp<|xr x v)<|ae (gm=kj (zt gm))<|ae (AD (zt gm) x.l v)<|af (!(m4 x.l v<|zt gm).snd) (ae (x.l.length≤(1000000000:Nat))<|ae (((0:Int)≤(m4 x.l v<|zt gm).fst∧(m4 x.l v<|zt gm).fst≤(↑x.l.length:Int))∧x.l.length≤(1000000:Nat)∧[v].length=(1:Nat))<|some<|dp<|{name:=x.name,distinct:=x.distinct,n:=x.n,hi:=x.hi,lo:=x.lo,v:=x.v,l:=List.take (m4 x.l v<|zt gm).fst.toNat x.l++[v]++List.drop (m4 x.l v<|zt gm).fst.toNat x.l})<|some<|dp x):=ah
def accV(k:Nat)(x:Acc):Prop:=((0≤x.n∧x.n≤k)∧(-(k:Int)≤x.hi∧x.hi≤k)∧-bigM<x.lo∧x.lo<bigM)∧x.l.length≤k∧(x.l.Pairwise fun a b=>ordV a b<0)∧(x.name=nmSum→∀v∈x.l,-bigM≤v.n∧v.n≤bigM)
theorem accV.mono{k k' x}(h:accV k x)(hk:k≤k'):accV k' x:=⟨⟨⟨h.1.1.1,by have:=h.1.1.2;omega⟩,⟨by have:=h.1.2.1.1;omega,by have:=h.1.2.1.2;omega⟩,h.1.2.2⟩,by have:=h.2.1;omega,h.2.2⟩
theorem accV.ok{k x}(h:accV k x)(hk:k≤1000000):nK x:=by
 obtain⟨⟨h1,h2,h3⟩,_⟩:=h;grind[bigM,nK]
def accV.start a:accV 0 (cn a):=by
 unfold cn;split
 ·split<;>exact⟨⟨by simp,by simp,by simp[bigM]⟩,by simp,by simp,by simp⟩
 ·split<;>exact⟨⟨by simp,by simp,by simp[bigM]⟩,by simp,by simp,by simp⟩
def accV.taken{k x}(h:accV k x){v}(hv:x.name=nmSum→-bigM≤v.n∧v.n≤bigM):accV (k+1) (fY x v):=by
 obtain⟨t1,t2,t3⟩:=NG x v;obtain⟨⟨h1,h2,h3⟩,h4,h5,h6⟩:=h;refine⟨?_,by grind,by grind,by grind⟩;unfold fY;by_cases hs:x.name=nmSum
 ·have hv':=hv hs;have a1:=arc (n:=x.lo+v.n) (by omega) (by omega);have a2:=ZF (x.lo+v.n);grind
 grind
theorem accV.step{k x}(h:accV k x) v:accV (k+1) (i8 x v):=by
 unfold i8;split
 ·rename_i hc;split
  ·obtain⟨⟨h1,h2,h3⟩,h4,h5,h6⟩:=h;refine⟨⟨by grind,by grind,h3⟩,?_,ZK h5 v,fun hs u hu=>?_⟩
   all_goals grind[arf,ZH,CC]
  ·exact h.taken fun hs=>CC hc hs
 ·exact h.mono<|by omega
def qI(x:Acc):Prop:=accV 500000 x
def AE(x:Acc)(v:Val):Acc:=i8 x v
@[simp] theorem asa x v:AE x v=i8 x v:=by rfl
def Z9 l v:gJ ordV l v=dJ l v:=rfl
def asb{l}(h:l.Pairwise fun a b=>ordV a b<0)(hl:l.length≤1000000000) v:AD ordV l v:=by
 refine⟨hl,fun i hi hil=>?_⟩;rw[Z9]at hi;refine NI h (v:=v) _ ?_;rw[List.mem_iff_getElem?];refine⟨i- dJ l v,?_⟩;grind
def asc{l}(h:l.Pairwise fun a b=>ordV a b<0) v:(decide (dJ l v<l.length)&&ordV (l.getD (dJ l v) z7) v==0)=true↔v∈l:=by
 rw[yp,decide_eq_true_eq,beq_iff_eq];constructor
 ·rintro⟨h1,h2⟩;have:=ordV_zero.1 h2;rw[←this,yf,ya h1];exact mc h1
 ·intro hm;have hd:v∈l.drop (dJ l v):=by
   have:=hm;rw[←iB (dJ l v) l,ye]at this;rcases this with g|g
   ·have:=NH (l:=l) (v:=v) v g;simp_all[CB]
   omega
  have hlt:dJ l v<l.length:=by
   grind[Nat.lt_or_ge,dJ,List.drop_of_length_le]
  have hdl:l.drop (dJ l v)=l[dJ l v]'hlt::l.drop (dJ l v+1):=fR hlt;have hnot:¬ordV (l.getD (dJ l v) z7) v<0:=NI h (v:=v) _ (by grind);rw[hdl]at hd;rcases yh.1 hd with g|g
  ·grind[CB]
  ·have hp:(l.drop (dJ l v)).Pairwise fun a b=>ordV a b<0:=h.drop;grind[List.pairwise_cons]
def asd(x:Acc)(v:Val)(_hx:WS .acc x)(_hv:WS .val v)(h:qI x):Z8 x v=some (dp (AE x v)):=by
 have hok:=h.ok (by omega);obtain⟨_,h4,h5,h6⟩:=h;rw[ar9,XY,zj9];unfold AE i8;simp only[z8,arv,ZV];by_cases hc:gw x.name v=true
 ·rw[if_neg (by grind),if_pos hc];by_cases hd:x.distinct=true
  ·rw[if_neg (by grind),if_pos hd,z6 trivial,z6 (asb h5 (by omega) v)];unfold m4 nJ;rw[Z9];have hf:=asc h5 v;by_cases hm:v∈x.l
   ·rw[if_neg (by grind),if_pos hm]
   ·have hle:=ZG x.l v;rw[if_pos (by grind),if_neg hm,z6 (by omega),z6 ⟨⟨by simp,by omega⟩,by omega,rfl⟩];simp
  ·rw[if_pos (by grind),if_neg hd,z6 ⟨hok,fun hs=>CC hc hs⟩]
 grind
def aaa:au Un:=aD (dS .acc) (dS .val) fun x v=>([qI x],dp<|AE x v)
def ase:aj 186 aaa:=aJ zo zo (M:=Z7) (h2:=⟨XX,trivial⟩) (h4:=⟨ar0,trivial⟩) rfl ⟨arx,ZW,ar8,arM,trivial⟩ Tryz.func186 fun x v=>GiF.r fun w o=>asd x v (am w 0) (am w 1)<|aA o 0
def I8:Mc Un:=az [(221,NK),(32,vJ),(225,ZZ)] [] [] [] []
def NT:Nat→NS:=aO [(2,{ts:=bl 34 454,bs:=bl 34 6,nm:=[],gb:=[1]})] false
def xt(x:Acc)(b1:Acc)(v0:Int):S Un:=(st 34 34 136 0 [(1,ax 1),(2,ax 2),(6,al .val x.l),(7,ai (↑x.l.length:Int)),(8,ai v0)] [(1,bg .acc b1),(2,bg .val z7)] [])
def I9:S Un→Option (EX Un):=aC I8 NT Tryz.f187 [1,0,1,2,2] 2
def aab:Exit→S Un→Option (RF Un):=aE I8 NT Tryz.f187 [1,0,1,2] [.d]
def aac(x:Acc):Option (RF Un):=aw I8 NT Tryz.f187 0 [.d] [.d<|.agg<|enc Ty.acc x]
def asf(x):aac x=(I9<|xt x x (0:Int)).bind (zd aab):=ah
def aad(x b1 v0):I9 (xt x b1 v0)=af (decide<|v0<(↑x.l.length:Int)) (ae (0≤v0∧v0<(↑x.l.length:Int))<|ae (nK b1∧(b1.name=nmSum→(-1000000000000000:Int)≤(x.l.getD v0.toNat z7).n∧(x.l.getD v0.toNat z7).n≤1000000000000000))<|I9<|xt x (xr b1<|x.l.getD v0.toNat z7)<|IntKind.i64.wrap<|v0+1) (some (.exit 0,(xt x b1 v0))):=aF
def NU(b1:Acc):Option (RF Un):=af (b1.name.toList==(ByteArray.mk #[115,117,109]).toList) (ae (nK b1)<|some<|aq<|CF b1)<|af (b1.name.toList==(ByteArray.mk #[109,105,110]).toList) (af (b1.name.toList==(ByteArray.mk #[109,105,110]).toList) (some<|aq b1.v)<|some<|aq z7)<|af (b1.name.toList==(ByteArray.mk #[109,97,120]).toList) (some<|aq b1.v)<|some<|aq z7
theorem asg(x b1 v0):aab (.exit 0) (xt x b1 v0)=af (b1.name.toList==(ByteArray.mk #[99,111,117,110,116]).toList) (af (b1.name.toList==(ByteArray.mk #[99,111,117,110,116]).toList) (some<|aq<|zk b1.n)<|NU b1) (af (b1.name.toList==(ByteArray.mk #[114,111,119,115]).toList) (some<|aq<|zk b1.n)<|NU b1):=ah
def CH(x:Acc):Val:=se x
@[simp] theorem ash x:CH x=se x:=by rfl
def asi(x:Acc)(_hx:WS .acc x)(h:qI x):aac x=some (aq (CH x)):=by
 have hxl:=h.2.1;have hxb:=h.2.2.2
 obtain⟨hl,hI⟩:=zy (e:=.exit 0) (L:=I9) (st:=fun a i=>xt x a i) (l:=x.l) (d:=z7) (g:=fY) (fun i a=>accV (500000+i) a∧a.name=x.name) (by omega)
  (fun a i v hi hv hI=>⟨⟨hI.1.taken (fun hs=>hxb (hI.2.symm.trans hs) v (by
   grind)),(NG a v).2.2.trans hI.2⟩,by
   rw[aad];simp only[z8,hi,decide_true,if_true,and_true,y5,hv,ZV]
   rw[z6 (by omega),z6 ⟨hI.1.ok (by omega),fun hs=>hxb (hI.2.symm.trans hs) v (by
    grind)⟩]⟩)
  (fun a _=>by rw[aad];simp[z8]) x ⟨h,rfl⟩
 rw[asf,zf hl];have hok:=hI.1.ok (by omega);unfold CH se AA;simp only[asg,NU,z8,Fb,uW,Av,Aw,NC,Ay,Fd,z6 hok,CF,decide_eq_true_eq];grind
def aae:au Un:=aQ (dS .acc) fun x=>([qI x],aq<|CH x)
def asj:aj 187 aae:=aU zo (M:=I8) rfl ⟨ZW,Bu,arF,trivial⟩ Tryz.func187 fun x=>GiF.r fun w o=>asi x (am w 0)<|aA o 0
def Fk:Mc Un:=az [(185,ZN),(186,aaa),(187,aae)] [] [] [] []
def NV:Nat→NS:=aO [(3,{ts:=bl 22 7216,bs:=bl 22 48,nm:=[],gb:=[5]})] false
def xu(l:List Val)(b5:Acc)(v0:Int):S Un:=(st 22 22 88 0 [(4,ax 4),(5,ax 5),(10,al .val l),(11,ai (↑l.length:Int)),(12,ai v0)] [(4,bg .val z7),(5,bg .acc b5)] [])
def Fm:S Un→Option (EX Un):=aC Fk NV Tryz.f141 [1,1,0,1,2,2] 3
def aaf:Exit→S Un→Option (RF Un):=aE Fk NV Tryz.f141 [1,1,0,1,2] [.d]
def aag(a:Agg)(l:List Val):Option (RF Un):=aw Fk NV Tryz.f141 0 [.d] [.d<|.agg<|enc Ty.agg a,.d<|.v<|.dat (U:=Un) Ty.val l]
def ask(a l):aag a l=(Fm<|xu l (xq<|Agg.ids a) (0:Int)).bind (zd aaf):=ah
def aah(l b5 v0):Fm (xu l b5 v0)=af (decide<|v0<(↑l.length:Int)) (ae (0≤v0∧v0<(↑l.length:Int))<|ae (qI b5)<|Fm<|xu l (AE b5<|l.getD v0.toNat z7)<|IntKind.i64.wrap<|v0+1) (some (.exit 0,(xu l b5 v0))):=aF
theorem asl(l b5 v0):aaf (.exit 0) (xu l b5 v0)=ae (qI b5) (some<|aq<|CH b5):=ah
def gx(a:Agg)(l:List Val):Val:=pB a l
@[simp] theorem NW a l:gx a l=pB a l:=by rfl
def asm(a:Agg)(l:List Val)(_ha:WS .agg a)(_hl:WL .val l)(h:l.length≤400000):aag a l=some (aq (gx a l)):=by
 obtain⟨hl,hI⟩:=zy (e:=.exit 0) (L:=Fm) (st:=fun b i=>xu l b i) (l:=l) (d:=z7) (g:=i8) (fun i b=>accV i b) (by omega)
  (fun b i v hi hv hI=>⟨hI.step v,by
   rw[aah];simp only[z8,hi,decide_true,if_true,and_true,y5,hv,asa]
   rw[z6 (by omega),z6 (show qI b from hI.mono (by omega))]⟩)
  (fun b _=>by rw[aah];simp[z8]) (cn a) (accV.start a)
 rw[ask,Agg.ids_eq,art,zf hl];unfold gx pB;simp only[asl,ash];rw[z6 (show qI _ from hI.mono (by omega))]
def aai:au Un:=aD (dS .agg) (dL .val) fun a l=>([l.length≤400000],aq<|gx a l)
def asn:aj 141 aai:=aJ zo zi (M:=Fk) rfl ⟨arq,ase,asj,trivial⟩ Tryz.func141 fun a l=>GiF.r fun w o=>asm a l (am w 0) (am w 1)<|aA o 0
def lK(s:List (List Val))(f_o:(List Val)→Prop)(f:(List Val)→Bool)(v0:Int):S Un:=(st 19 19 76 0 [(0,al .row s),(1,AV.one<|A.c<|C.fv<|gQ f_o f),(4,ai (0:Int)),(7,ai (↑s.length:Int)),(8,ai v0)] [] [])
def QX(s:List (List Val))(f_o:(List Val)→Prop)(f:(List Val)→Bool)(v0:Int)(v1:Int):S Un:=(st 19 19 76 0 [(0,al .row s),(1,AV.one<|A.c<|C.fv<|gQ f_o f),(4,ai v1),(7,ai (↑s.length:Int)),(8,ai v0)] [] [])
def qJ:S Un→Option (EX Un):=aC av kE Tryz.f188 [1,0,1,2,2] 2
def Ja:Exit→S Un→Option (RF Un):=aE av kE Tryz.f188 [1,0,1,2] [.d]
def aaj(s:List (List Val))(f_o:(List Val)→Prop)(f:(List Val)→Bool):Option (RF Un):=aw av kE Tryz.f188 0 [.d] [.d<|.v<|.dat (U:=Un) Ty.row s,.fn<|gQ f_o f]
def aso(s f_o f):aaj s f_o f=(qJ<|lK s f_o f (0:Int)).bind (zd Ja):=ah
def NX(s f_o f v0):qJ (lK s f_o f v0)=af (decide<|v0<(↑s.length:Int)) (ae (0≤v0∧v0<(↑s.length:Int))<|ae (f_o<|s.getD v0.toNat [])<|af (f<|s.getD v0.toNat []) (some (.ret,(QX s f_o f v0 v0)))<|qJ<|lK s f_o f<|IntKind.i64.wrap<|v0+1) (some (.exit 0,(lK s f_o f v0))):=aF
def asq(s f_o f v0 v1):Ja .ret (QX s f_o f v0 v1)=some (eD v1):=ah
def asr(s f_o f v0):Ja (.exit 0) (lK s f_o f v0)=some (eD<|(-1:Int)):=ah
def Fn(o:List Val→Prop)(s:List (List Val)):Prop:=∀x∈s,o x
def CI(s:List (List Val))(_o:List Val→Prop)(f:List Val→Bool):Int:=match s.findIdx? f with|some i=>(i:Int)|none=>-1
def ass(s:List (List Val)) o f(hs:WL .row s)(ho:Fn o s):aaj s o f=some (eD<|CI s o f):=by
 have key:∀(r:List (List Val))(i:Nat),s.drop i=r→i≤s.length→(qJ<|lK s o f i).bind (zd Ja)=some (eD (match r.findIdx? f with|some k=>((i+k:Nat):Int)|none=>-1)):=by
  intro r
  induction r with
  |nil=>
   intro i hr hi;have:s.length≤i:=by rw[←y1o];exact hr
   have e:qJ (lK s o f i)=some (.exit 0,lK s o f i):=by rw[NX,z8,if_neg (by simp;omega)]
   rw[zf e,asr];rfl
  |cons x r ih=>
   intro i hr hi;obtain⟨a1,a2,a3,hm⟩:=d9 hr;have hx:s.getD i []=x:=a2 [];by_cases hf:f x=true
   ·have e:qJ (lK s o f i)=some (.ret,QX s o f i i):=by
     rw[NX,z8,if_pos (by simp;omega),z6<|by omega,y5,hx,z6<|ho x hm,z8,if_pos hf]
    rw[zf e,asq];simp[nQ,hf]
   ·have e:qJ (lK s o f i)=qJ (lK s o f ((i+1:Nat):Int)):=by
     rw[NX,z8,if_pos (by simp;omega),z6<|by omega,y5,hx,z6<|ho x hm,z8,if_neg hf,eW a1 hs.len]
    rw[e,ih (i+1) a3<|by omega];congr 2;simp only[nQ,hf];cases r.findIdx? f with
    |none=>rfl
    |some k=>simp;omega
 rw[aso];have:=key s 0 rfl<|yc _;refine Eq.trans this ?_;unfold CI;cases s.findIdx? f<;>simp
def NY:au Un:=fun args=>match args with
 |[x0,x1]=>(dL .row x0).bind fun s=>(dF x1).bind fun f=>some ([f=(gQ (oc f)<|sM f),Fn (oc f) s],bh<|CI s (oc f)<|sM f,bi<|CI s (oc f)<|sM f)
 |_=>none
def ast:aj 188 NY:=by
 intro args ob rs os h hob;unfold NY at h;split at h
 ·simp only[y6,y8,yi]at h;obtain⟨s,e0,f,e1,rfl,rfl,rfl⟩:=h;obtain rfl:=zi e0;obtain rfl:=mv e1;have hfv0:=hob _<|y9 (i:=0) rfl;generalize sM f=pp0 at*;generalize oc f=qq0 at*;subst hfv0;exact⟨dz (M:=av) rfl (cM (l1:=[]) (l2:=[]) (l3:=[]) (l4:=[]) (l5:=[]) trivial trivial trivial trivial trivial) Tryz.func188 (by kernel_rfl) kE 0 [.d] fun hwf=>(ass s qq0 pp0 (bj hwf (a:=.d<|.v<|.dat (U:=Un) Ty.row s)<|y9 (i:=0) rfl)<|hob _<|y9 (i:=1) rfl),zl Tryz.func188 (by kernel_rfl)<|by kernel_rfl⟩
 ·simp at h
def Fo:Mc Un:=az [(149,w7)] [] [] [] []
def aak(x:List Val)(r:List Val):Option (RF Un):=aw Fo aN Tryz.f189 0 [.d] [.d<|.v<|.dat (U:=Un) Ty.val x,.box [.v<|.dat (U:=Un) Ty.val r]]
def asu(x r):aak x r=some (ak<|dA x r==0):=ah
def fP(x r:List Val):Bool:=dA x r==0
def asv(x r:List Val)(_hx:WL .val x)(_hr:WL .val r)(_h:True):aak x r=some (ak<|fP x r):=by
 rw[asu];rfl
def NZ:List (List<|DC Un)→Option (FV Un):=fun dl=>match dl with
 |[b0]=>(bL .val b0).bind fun r=>some<|gQ (fun x=>True) fun x=>fP x r
 |_=>none
def asw:kR 189 NZ:=by
 refine⟨zl Tryz.func189 (by kernel_rfl)<|by kernel_rfl,fun dl φ args ob rs hF hφ hob=>?_⟩;unfold NZ at hF;split at hF
 ·simp only[y6,y8]at hF;obtain⟨r,g0,hE⟩:=hF;subst hE;obtain rfl:=LJ g0;unfold gQ at hφ;split at hφ
  ·simp only[y6,y8,yi]at hφ;obtain⟨x,e0,rfl,rfl⟩:=hφ;simp only[cL,jr,eT,yr];rw[zi e0];exact Contract.data<|dz (M:=Fo) rfl (cM (l1:=[(149,w7)]) (l2:=[]) (l3:=[]) (l4:=[]) (l5:=[]) ⟨QF,trivial⟩ trivial trivial trivial trivial) Tryz.func189 (by kernel_rfl) aN 0 [.d] fun hwf=>(asv x r (bj hwf (a:=.d<|.v<|.dat (U:=Un) Ty.val x)<|y9 (i:=0) rfl) (bj hwf (a:=.box [.v<|.dat (U:=Un) Ty.val r])<|y9 (i:=1) rfl)<|hob _<|y9 (i:=0) rfl)
  ·simp at hφ
 ·simp at hF
def aal:Mc Un:=az [(188,NY)] [] [(189,NZ)] [] []
def aam(l:List (List Val))(r:List Val):Option (RF Un):=aw aal aN Tryz.f142 0 [.d] [.d<|.v<|.dat (U:=Un) Ty.row l,.d<|.v<|.dat (U:=Un) Ty.val r]
def asx(l r):aam l r=ae ((gQ (fun x=>True) fun x=>fP x r)=gQ (oc<|gQ (fun x=>True) fun x=>fP x r) (sM<|gQ (fun x=>True) fun x=>fP x r)) (ae (Fn (oc<|gQ (fun x=>True) fun x=>fP x r) l)<|some<|ay<|CI l (oc<|gQ (fun x=>True) fun x=>fP x r)<|sM<|gQ (fun x=>True) fun x=>fP x r):=ah
def zj(l:List (List Val))(r:List Val):Int:=match l.findIdx? (fun x=>fP x r)with|some i=>(i:Int)|none=>-1
def asy(l:List (List Val))(r:List Val)(_hl:WL .row l)(_hr:WL .val r):aam l r=some (ay<|zj l r):=by
 rw[asx];simp only[air,aiq];rw[z6 trivial,z6<|show Fn (fun _=>True) l from fun _ _=>trivial];rfl
def QY:au Un:=aD (dL .row) (dL .val) fun l r=>([],ay<|zj l r)
def aan:aj 142 QY:=aJ zi zi (M:=aal) (h3:=⟨asw,trivial⟩) rfl ⟨ast,trivial⟩ Tryz.func142 fun l r=>GiF.r fun w _=>asy l r (am w 0)<|am w 1
def aao(r:List Val)(at_:Int):Option (RF Un):=aw av aN Tryz.f148 0 [.d] [.d<|.v<|.dat (U:=Un) Ty.val r,.d<|.v<|.s<|.int .i64 at_]
def asz(r at_):aao r at_=af (decide<|at_<0) (some<|aq z7) (af (decide<|at_≥(↑r.length:Int)) (some<|aq z7)<|ae (0≤at_∧at_<(↑r.length:Int))<|some<|aq<|r.getD at_.toNat z7):=ah
def bR(r:List Val)(k:Int):Val:=if 0≤k then r.getD k.toNat z7 else z7
def asA(r:List Val) k(_hr:WL .val r)(_hk:WI k):aao r k=some (aq<|bR r k):=by
 rw[asz];unfold bR;simp only[z8,decide_eq_true_eq];by_cases h0:k<0
 ·rw[if_pos h0,if_neg<|by omega]
 ·rw[if_neg h0];have h2:0≤k:=by omega
  by_cases h1:k≥(r.length:Int)
  ·rw[if_pos h1,if_pos h2,yf,P8<|by omega];rfl
  ·rw[if_neg h1,if_pos h2,z6<|by omega]
def N0:au Un:=aD (dL .val) (dI .i64) fun r at_=>([],aq<|bR r at_)
def asB:aj 148 N0:=aJ zi zn (M:=av) rfl trivial Tryz.func148 fun r at_=>GiF.r fun w _=>asA r at_ (am w 0)<|am w 1
def Jb:Mc Un:=az [(142,QY)] [] [] [] []
def aW(r:List (List Val)):RF Un:=([.c<|.ob 0 0],[⟨0,Ty.row,r,some 0,true⟩])
def N1:Nat→NS:=aO [(3,{ts:=bl 22 456,bs:=bl 22 0,nm:=[(.sl 3,88)]})] false
def tC(l:List (List Val))(v0:Int)(v1:List (List Val)):S Un:=(st 22 22 89 0 [(3,ao 88),(6,al .row l),(7,ai (↑l.length:Int)),(8,ai v0)] [] [(88,some ⟨(0:Nat),Ty.row,v1,some (0:Nat),true⟩)])
def CJ:S Un→Option (EX Un):=aC Jb N1 Tryz.f90 [1,1,0,1,2,2] 3
def aap:Exit→S Un→Option (RF Un):=aE Jb N1 Tryz.f90 [1,1,0,1,2] [.m]
def aaq(l:List (List Val)):Option (RF Un):=aw Jb N1 Tryz.f90 1 [.m] [.d<|.v<|.dat (U:=Un) Ty.row l]
def asC(l):aaq l=(CJ<|tC l (0:Int)<|[]).bind (zd aap):=ah
def aar(l v0 v1):CJ (tC l v0 v1)=af (decide<|v0<(↑l.length:Int)) (ae (0≤v0∧v0<(↑l.length:Int))<|af (decide<|zj v1 (l.getD v0.toNat [])<0) (ae ((v1.length+[l.getD v0.toNat []].length)*(24:Nat)≤ze)<|CJ<|tC l (IntKind.i64.wrap<|v0+1)<|v1++[l.getD v0.toNat []])<|CJ<|tC l (IntKind.i64.wrap<|v0+1) v1) (some (.exit 0,(tC l v0 v1))):=aF
def asD(l v0 v1):aap (.exit 0) (tC l v0 v1)=some (aW v1):=ah
def bV(l:List (List Val)):List (List Val):=l.foldl (fun o x=>if zj o x<0 then o++[x]else o) []
def asE(l:List (List Val))(hl:WL .row l)(h:l.length≤100000000):aaq l=some (aW<|bV l):=by
 rw[asC]
 obtain⟨lp,_⟩:=zy (e:=.exit 0) (L:=CJ) (st:=fun(o:List (List Val)) i=>tC l i o) (l:=l) (d:=[]) (g:=fun o x=>if zj o x<0 then o++[x]else o) (fun i o=>o.length≤i) hl.len
  (fun o i x hi hx hI=>by
   have hI':o.length≤i:=hI;rw[aar];simp only[z8,hi,decide_true,if_true,and_true,y5,hx,decide_eq_true_eq];rw[z6<|by omega];by_cases hp:zj o x<0
   ·rw[if_pos hp,if_pos hp,z6 (by unfold ze;rw[yd];omega)];exact⟨by show(o++[x]).length≤i+1;rw[yb,yd];omega,rfl⟩
   ·rw[if_neg hp,if_neg hp]
    exact⟨by show o.length≤i+1;omega,rfl⟩)
  (fun o _=>by rw[aar];simp[z8]) [] (y7 _)
 refine(zf lp).trans ?_;rw[asD];rfl
def N2:au Un:=aQ (dL .row) fun l=>([l.length≤100000000],aW<|bV l)
def aas:aj 90 N2:=aU zi (M:=Jb) rfl ⟨aan,trivial⟩ Tryz.func90 fun l=>GiF.r fun w o=>asE l (am w 0)<|aA o 0
def Jc:Mc Un:=az [(152,w4),(154,Nr),(153,w8),(155,w9)] [] [] [] []
def QZ:Nat→NS:=aO [(3,{ts:=bl 38 7220,bs:=bl 38 20,nm:=[]})] false
def qK(v:Val)(l:List (List Val))(v0:Int)(v1:Int):S Un:=(st 38 38 152 0 [(2,ax 2),(4,ax 4),(5,ai v1),(10,al .row l),(11,ai (↑l.length:Int)),(12,ai v0)] [(2,bg .val v),(4,bg .val z7)] [])
def xw:S Un→Option (EX Un):=aC Jc QZ Tryz.f119 [1,1,0,1,2,2] 3
def aat:Exit→S Un→Option (RF Un):=aE Jc QZ Tryz.f119 [1,1,0,1,2] [.d]
def aau(v:Val)(l:List (List Val)):Option (RF Un):=aw Jc QZ Tryz.f119 0 [.d] [.d<|.agg<|enc Ty.val v,.d<|.v<|.dat (U:=Un) Ty.row l]
def asF(v l):aau v l=(xw<|qK v l (0:Int) (0:Int)).bind (zd aat):=ah
def aav(v l v0 v1):xw (qK v l v0 v1)=af (decide<|v0<(↑l.length:Int)) (ae (0≤v0∧v0<(↑l.length:Int))<|af ((↑(List.length<|l.getD v0.toNat []):Int)==(0:Int)) (xw<|qK v l (IntKind.i64.wrap<|v0+1) v1)<|ae ((0:Int)≤(0:Int)∧(0:Int)<(↑(List.length<|l.getD v0.toNat []):Int))<|af ((cj v<|List.getD (l.getD v0.toNat []) 0 z7).snd) (xw<|qK v l (IntKind.i64.wrap<|v0+1)<|eL v1<|lE<|(cj v<|List.getD (l.getD v0.toNat []) 0 z7).fst ==0)<|xw<|qK v l (IntKind.i64.wrap<|v0+1)<|eL v1 (1:Int)) (some (.exit 0,(qK v l v0 v1))):=aF
def asG(v l v0 v1):aat (.exit 0) (qK v l v0 v1)=some (aq<|ib v1):=ah
def xy(v:Val)(l:List (List Val)):Val:=ib<|l.foldl (fun t x=>if x.length=0 then t else if(cj v<|x.getD 0 z7).2 then eL t (lE<|(cj v<|x.getD 0 z7).1 ==0)else eL t 1) 0
def asH(v:Val)(l:List (List Val))(_hv:WS .val v)(hl:WL .row l):aau v l=some (aq<|xy v l):=by
 rw[asF]
 obtain⟨lp,_⟩:=zy (e:=.exit 0) (L:=xw) (st:=fun(t:Int) i=>qK v l i t) (l:=l) (d:=[]) (g:=fun t x=>if x.length=0 then t else if(cj v<|x.getD 0 z7).2 then eL t (lE<|(cj v<|x.getD 0 z7).1 ==0)else eL t 1) (fun _ _=>True) hl.len
  (fun t i x hi hx _=>by
   refine⟨trivial,?_⟩;rw[aav];simp only[z8,hi,decide_true,if_true,and_true,y5,hx,beq_iff_eq];rw[z6<|by omega];by_cases h0:x.length=0
   ·rw[if_pos<|by omega,if_pos h0]
   ·rw[if_neg<|by omega,if_neg h0,z6<|by omega]
    split<;>rfl)
  (fun t _=>by rw[aav];simp[z8]) 0 trivial
 refine(zf lp).trans ?_;rw[asG];rfl
def aaw:au Un:=aD (dS .val) (dL .row) fun v l=>([],aq<|xy v l)
def asI:aj 119 aaw:=aJ zo zi (M:=Jc) rfl ⟨QE,Yl,Ns,IK,trivial⟩ Tryz.func119 fun v l=>GiF.r fun w _=>asH v l (am w 0)<|am w 1
def N3(r:Wld):List (A Un):=[.agg<|jk Ty.wld r]
def aax(_r:Wld):List (Ob Un):=[]
def aay(r:Wld):RF Un:=(N3 r,aax r)
def aaz(w:Wld)(r:List Val):Option (RF Un):=aw av aN Tryz.f137 0 [.d] [.d<|.agg<|enc Ty.wld w,.d<|.v<|.dat (U:=Un) Ty.val r]
def asJ(w r):aaz w r=ae (([r].length+w.env.length)*(24:Nat)≤ze) (some<|aay<|{env:=r::w.env,db:=w.db}):=ah
def zp(w:Wld)(r:List Val):Wld:={w with env:=r::w.env}
def asK(w:Wld)(r:List Val)(_hw:WS .wld w)(_hr:WL .val r)(h:w.env.length≤100000000):aaz w r=some (aay<|zp w r):=by
 rw[asJ,z6 (by unfold ze;rw[yd];omega)];rfl
def tD:au Un:=fun args=>match args with
 |[x0,x1]=>(dS .wld x0).bind fun w=>(dL .val x1).bind fun r=>some ([w.env.length≤100000000],N3<|zp w r,aax<|zp w r)
 |_=>none
def Jd:aj 137 tD:=by
 intro args ob rs os h hob;unfold tD at h;split at h
 ·simp only[y6,y8,yi]at h;obtain⟨w,e0,r,e1,rfl,rfl,rfl⟩:=h;obtain rfl:=zo e0;obtain rfl:=zi e1;exact⟨dz (M:=av) rfl (cM (l1:=[]) (l2:=[]) (l3:=[]) (l4:=[]) (l5:=[]) trivial trivial trivial trivial trivial) Tryz.func137 (by kernel_rfl) aN 0 [.d] fun hwf=>(asK w r (bj hwf (a:=.d<|.agg<|enc Ty.wld w)<|y9 (i:=0) rfl) (bj hwf (a:=.d<|.v<|.dat (U:=Un) Ty.val r)<|y9 (i:=1) rfl)<|hob _<|y9 (i:=0) rfl),zl Tryz.func137 (by kernel_rfl)<|by kernel_rfl⟩
 ·simp at h
def Je:Mc Un:=az [(85,I4)] [] [] [] []
def Q0:Nat→NS:=aO [(2,{ts:=bl 22 1810,bs:=bl 22 0,nm:=[(.sl 4,88)]})] false
def lL(w:Wld)(name:ByteArray)(v0:Int):S Un:=(st 22 22 89 0 [(1,at_ name),(4,ao 88),(8,al .data w.db),(9,ai (↑w.db.length:Int)),(10,ai v0)] [] [(88,some ⟨(0:Nat),Ty.row,[],some (0:Nat),true⟩)])
def Q1(w:Wld)(name:ByteArray)(v0:Int)(v1:List (List Val)):S Un:=(st 22 22 89 0 [(1,at_ name),(4,ao 88),(8,al .data w.db),(9,ai (↑w.db.length:Int)),(10,ai v0)] [] [(88,some ⟨(0:Nat),Ty.row,v1,some (0:Nat),true⟩)])
def qL:S Un→Option (EX Un):=aC Je Q0 Tryz.f84 [1,0,1,2,2] 2
def Jf:Exit→S Un→Option (RF Un):=aE Je Q0 Tryz.f84 [1,0,1,2] [.m]
def aaA(w:Wld)(name:ByteArray):Option (RF Un):=aw Je Q0 Tryz.f84 1 [.m] [.d<|.agg<|enc Ty.wld w,.d<|.v<|cs name]
def asL(w name):aaA w name=(qL<|lL w name (0:Int)).bind (zd Jf):=ah
def Q2(w name v0):qL (lL w name v0)=af (decide<|v0<(↑w.db.length:Int)) (ae (0≤v0∧v0<(↑w.db.length:Int))<|af ((w.db.getD v0.toNat dx).table.toList ==name.toList) (ae ((w.db.getD v0.toNat dx).rows.length≤(1000000000:Nat))<|some (.ret,(Q1 w name v0<|(w.db.getD v0.toNat dx).rows)))<|qL<|lL w name<|IntKind.i64.wrap<|v0+1) (some (.exit 0,(lL w name v0))):=aF
def asM(w name v0 v1):Jf .ret (Q1 w name v0 v1)=some (aW v1):=ah
def asN(w name v0):Jf (.exit 0) (lL w name v0)=some (aW<|[]):=ah
def sh(db:List Data):Prop:=db.length≤1000000000∧∀d∈db,d.rows.length≤1000000000
def lM(w:Wld)(name:ByteArray):List (List Val):=match w.db.find? (fun d=>d.table.toList==name.toList)with|some d=>d.rows|none=>[]
def asO(w:Wld) name(_hw:WS .wld w)(_hn:cm name)(h:sh w.db):aaA w name=some (aW<|lM w name):=by
 obtain⟨h1,h2⟩:=h;have key:∀(r:List Data)(i:Nat),w.db.drop i=r→i≤w.db.length→(qL<|lL w name i).bind (zd Jf)=some (aW (match r.find? (fun d=>d.table.toList==name.toList)with|some d=>d.rows|none=>[])):=by
  intro r
  induction r with
  |nil=>
   intro i hr hi;have:w.db.length≤i:=by rw[←y1o];exact hr
   have e:qL (lL w name i)=some (.exit 0,lL w name i):=by rw[Q2,z8,if_neg (by simp;omega)]
   rw[zf e,asN];rfl
  |cons x r ih=>
   intro i hr hi;obtain⟨a1,a2,a3,hm⟩:=d9 hr;have hx:w.db.getD i dx=x:=a2 dx;by_cases hf:(x.table.toList==name.toList)=true
   ·have e:qL (lL w name i)=some (.ret,Q1 w name i x.rows):=by
     rw[Q2,z8,if_pos (by simp;omega),z6<|by omega,y5,hx,z8,if_pos hf,z6<|h2 x hm]
    rw[zf e,asM];simp[hf]
   ·have e:qL (lL w name i)=qL (lL w name ((i+1:Nat):Int)):=by
     rw[Q2,z8,if_pos (by simp;omega),z6<|by omega,y5,hx,z8,if_neg hf,eW a1<|by omega]
    rw[e,ih (i+1) a3<|by omega];simp[hf]
 rw[asL];exact key w.db 0 rfl<|yc _
def aaB:au Un:=aD (dS .wld) cB fun w name=>([sh w.db],aW<|lM w name)
def asP:aj 84 aaB:=aJ zo cN (M:=Je) rfl ⟨QU,trivial⟩ Tryz.func84 fun w name=>GiF.r fun w1 o=>asO w name (am w1 0) (am w1 1)<|aA o 0
def Fq:Mc Un:=az [(148,N0),(147,wZ),(149,w7)] [] [] [] []
def Fs:Nat→NS:=aO [(2,{ts:=bl 35 3619,bs:=bl 36 1,nm:=[]})] false
def kG(a:List Val)(b:List Val)(c0:List By)(v0:Int):S Un:=(st 35 36 144 1 [(0,al .val a),(1,al .val b),(5,ai (0:Int)),(9,al .by_ c0),(10,ai (↑c0.length:Int)),(11,ai v0)] [(0,some (true,[C.sl Ty.by_ c0 false]))] [])
def Jg(a:List Val)(b:List Val)(c0:List By)(v0:Int)(v1:Int):S Un:=(st 35 36 144 1 [(0,al .val a),(1,al .val b),(5,ai v1),(9,al .by_ c0),(10,ai (↑c0.length:Int)),(11,ai v0)] [(0,some (true,[C.sl Ty.by_ c0 false]))] [])
def oW:S Un→Option (EX Un):=aC Fq Fs Tryz.f146 [1,0,1,2,2] 2
def Ft:Exit→S Un→Option (RF Un):=aE Fq Fs Tryz.f146 [1,0,1,2] [.d]
def aaC(a:List Val)(b:List Val)(c0:List By):Option (RF Un):=aw Fq Fs Tryz.f146 0 [.d] [.d<|.v<|.dat (U:=Un) Ty.val a,.d<|.v<|.dat (U:=Un) Ty.val b,.box [.v<|.dat (U:=Un) Ty.by_ c0]]
def asQ(a b c0):aaC a b c0=(oW<|kG a b c0 (0:Int)).bind (zd Ft):=ah
def aaD(a b c0 v0):oW (kG a b c0 v0)=af (decide<|v0<(↑c0.length:Int)) (ae (0≤v0∧v0<(↑c0.length:Int))<|af ((c0.getD v0.toNat cD).down) (af (IntKind.i64.wrap ((0:Int)- cO (bR a (c0.getD v0.toNat cD).at_) (bR b (c0.getD v0.toNat cD).at_)) !=0) (some (.ret,(Jg a b c0 v0<|IntKind.i64.wrap<|(0:Int)- cO (bR a (c0.getD v0.toNat cD).at_) (bR b (c0.getD v0.toNat cD).at_))))<|oW<|kG a b c0<|IntKind.i64.wrap<|v0+1)<|af (cO (bR a (c0.getD v0.toNat cD).at_) (bR b (c0.getD v0.toNat cD).at_) !=0) (some (.ret,(Jg a b c0 v0<|cO (bR a (c0.getD v0.toNat cD).at_)<|bR b (c0.getD v0.toNat cD).at_)))<|oW<|kG a b c0<|IntKind.i64.wrap<|v0+1) (some (.exit 0,(kG a b c0 v0))):=aF
def asR(a b c0 v0 v1):Ft .ret (Jg a b c0 v0 v1)=some (ay v1):=ah
def asS(a b c0 v0):Ft (.exit 0) (kG a b c0 v0)=some (ay<|dA a b):=ah
def kc(a b:List Val)(k:By):Int:=if k.down=true then IntKind.i64.wrap ((0:Int)- cO (bR a k.at_) (bR b k.at_))else cO (bR a k.at_) (bR b k.at_)
def bT(a b:List Val):List By→Int
 |[]=>dA a b
 |k::r=>if(kc a b k !=0)=true then kc a b k else bT a b r
def asT(a b:List Val)(keys:List By)(_ha:WL .val a)(_hb:WL .val b)(hk:WL .by_ keys)(_h:True):aaC a b keys=some (ay<|bT a b keys):=by
 have key:∀(r:List By)(i:Nat),keys.drop i=r→i≤keys.length→(oW<|kG a b keys i).bind (zd Ft)=some (ay<|bT a b r):=by
  intro r
  induction r with
  |nil=>
   intro i hr hi;have:keys.length≤i:=by rw[←y1o];exact hr
   have e:oW (kG a b keys i)=some (.exit 0,kG a b keys i):=by rw[aaD,z8,if_neg (by simp;omega)]
   rw[zf e,asS];rfl
  |cons x r ih=>
   intro i hr hi;obtain⟨a1,a2,a3,hm⟩:=d9 hr;have hx:keys.getD i cD=x:=a2 cD;have hl:=aaD a b keys i;rw[z8,if_pos (by simp;omega),z6<|by omega,y5,hx,eW a1 hk.len]at hl;by_cases hf:(kc a b x !=0)=true
   ·have e:oW (kG a b keys i)=some (.ret,Jg a b keys i<|kc a b x):=by
     rw[hl];unfold kc at hf ⊢;cases hd:x.down<;>rw[hd]at hf<;>simp only[z8,mf,if_false,if_true]at hf ⊢<;>rw[if_pos hf]
    rw[zf e,asR];unfold bT;rw[if_pos hf]
   ·have e:oW (kG a b keys i)=oW (kG a b keys ((i+1:Nat):Int)):=by
     rw[hl];unfold kc at hf;cases hd:x.down<;>rw[hd]at hf<;>simp only[z8,mf,if_false,if_true]at hf ⊢<;>rw[if_neg hf]
    rw[e,ih (i+1) a3<|by omega]
    conv=>rhs;unfold bT
    rw[if_neg hf]
 rw[asQ];exact key keys 0 rfl<|yc _
def Fu:List (List<|DC Un)→Option (FV Un):=fun dl=>match dl with
 |[b0]=>(bL .by_ b0).bind fun c0=>some<|iM (fun a b=>True) fun a b=>bT a b c0
 |_=>none
def asU:kR 146 Fu:=by
 refine⟨zl Tryz.func146 (by kernel_rfl)<|by kernel_rfl,fun dl φ args ob rs hF hφ hob=>?_⟩;unfold Fu at hF;split at hF
 ·simp only[y6,y8]at hF;obtain⟨c0,g0,hE⟩:=hF;subst hE;obtain rfl:=LJ g0;unfold iM at hφ;split at hφ
  ·simp only[y6,y8,yi]at hφ;obtain⟨a,e0,b,e1,rfl,rfl⟩:=hφ;simp only[cL,jr,eT,yr];rw[zi e0];rw[zi e1];exact Contract.data<|dz (M:=Fq) rfl (cM (l1:=[(148,N0),(147,wZ),(149,w7)]) (l2:=[]) (l3:=[]) (l4:=[]) (l5:=[]) ⟨asB,QC,QF,trivial⟩ trivial trivial trivial trivial) Tryz.func146 (by kernel_rfl) Fs 0 [.d] fun hwf=>(asT a b c0 (bj hwf (a:=.d<|.v<|.dat (U:=Un) Ty.val a)<|y9 (i:=0) rfl) (bj hwf (a:=.d<|.v<|.dat (U:=Un) Ty.val b)<|y9 (i:=1) rfl) (bj hwf (a:=.box [.v<|.dat (U:=Un) Ty.by_ c0])<|y9 (i:=2) rfl)<|hob _<|y9 (i:=0) rfl)
  ·simp at hφ
 ·simp at hF
end
end B
end Go.Proofs.YtjfpbchdcbhfgaaGreat
