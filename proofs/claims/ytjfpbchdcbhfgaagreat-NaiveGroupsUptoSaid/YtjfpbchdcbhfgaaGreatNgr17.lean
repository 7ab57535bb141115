/- Part 17 of the proof: Lbunch. -/
import Derived.WalkKit
import Derived.Lib.Walk
import Derived.Lib.Hide
import Derived.Deep.LoopGhost
import Derived.Deep.RegionHeld3
import Derived.Deep.AppendLies
import Derived.Deep.QuietTactic
import Derived.BigQuiet
import Derived.Deep.Cut
import Derived.Test.YtjfpbchdcbhfgaaGreatNgr16
set_option linter.unusedVariables false
set_option linter.unusedSimpArgs false
namespace Go.Proofs.YtjfpbchdcbhfgaaGreat.B
open Go Go.RowKit
set_option maxRecDepth 1000000
set_option linter.unusedVariables false
noncomputable section
theorem vsl{St:Nat→Nat→Prop}{w:World}{v:Value}{τ:Ty}{xs:List (Den τ)}(h:VRel En St w v (.dat (U:=Un) τ xs)):∃a c,v=.slice a xs.length c:=by
 rcases h.inv with⟨rfl,a,c,rfl⟩|⟨b,o,c,cv,rfl,_⟩
 ·exact⟨_,_,rfl⟩
 ·exact⟨_,_,rfl⟩
theorem BN.fresh{St St4:Nat→Nat→Prop}{w W W2:World}{v:Value}{cs:List Value}{bs:List Bunch}{zs:List (List Value)}(h:BN St w W v cs bs zs)(hx:Ext W W2)(hbd:∀b o,St b o→b<w.heap.size)
  (h4:∀b o,b<W.heap.size→St4 b o→St b o)(h5:∀b o,St4 b o→b<W2.heap.size){u:Value}{d:V Un}(hv:VRel En St4 W2 u d):VRel En (StB St w W2 v cs) W2 u d:=by
 refine hv.mono fun b o hs=>⟨?_,rfl⟩;rcases yj b W.heap.size with h1|h1
 ·have:=h4 b o h1 hs;exact .inl ⟨hbd b o this,this⟩
 ·refine .inr ⟨y1g h.ext.le h1,h5 b o hs,fun e=>?_,fun j y hy e=>?_⟩
  ·have:=(h.low b e).2;omega
  ·have:=((h.inner hy).1 b e).2;omega
theorem z2gs{wd:Wld}{x:List Val}{St:Nat→Nat→Prop}{W:World}{v0 v1:Value}(hE:wd.env.length≤100000000)(hbd:∀b o,St b o→b<W.heap.size)(h0:D0Rel En St W v0 (.agg (enc Ty.wld wd)))(h1:VRel En St W v1 (.dat (U:=Un) Ty.val x))(hld:Laid W):
  Calls Tryz.prog 137 #[v0,v1] W fun e W'=>∃v,e=.returned v∧Ret0 En St W W' v [.agg (enc Ty.wld (zf wd x))]:=by
 have hF:zdh [.d (.agg (enc Ty.wld wd)),.d (.v (.dat (U:=Un) Ty.val x))]=some ([wd.env.length≤100000000],z12f (zf wd x),[]):=by
  unfold zdh;simp only[z1iw,zyn,yh];rfl
 have hC:=(zoz _ _ _ _ hF (fun p hp=>by rw[yi.1 hp];exact hE)).1;have hC0:zer Tryz.prog En 137 [.d (.agg (enc Ty.wld wd)),.d (.v (.dat (U:=Un) Ty.val x))] [] [.agg (enc Ty.wld (zf wd x))]:=Contract.data hC;refine(hC0 W St [v0,v1] hbd ⟨h0,h1,trivial⟩ hld).mono ?_;rintro e W' ⟨v,rfl,hr,_⟩;exact⟨v,rfl,hr⟩
theorem z2gt{bs:List Bunch}{key:List Val}{St:Nat→Nat→Prop}{W:World}{v kv:Value}{kb:Nat}(hbd:∀b o,St b o→b<W.heap.size)(hv:VRel En St W v (.dat (U:=Un) Ty.bunch bs))(hk:W.cell? ⟨kb,0,none⟩=some kv)(hkv:VRel En St W kv (.dat (U:=Un) Ty.val key))(hkb:St kb 0)(hld:Laid W):
  Calls Tryz.prog 183 #[v,.func (.func 184) #[] #[.pointer (some ⟨kb,0,none⟩)]] W fun e W'=>e=.returned (.int .i64 (match bs.findIdx? (fun b=>bun1 b key)with|some i=>(i:Int)|none=>-1))∧Ext W W':=by
 obtain⟨hB,hL⟩:=z2gr;have hφ:z1o0 [[.v (.dat (U:=Un) Ty.val key)]]=some (z1b (fun _=>True) (fun b=>bun1 b key)):=by
  unfold z1o0;rfl
 have hF:zsf [.d (.v (.dat (U:=Un) Ty.bunch bs)),.fn (z1b (fun _=>True) (fun b=>bun1 b key))]=some ([z1b (fun _=>True) (fun b=>bun1 b key)=z1b (z3q (z1b (fun _=>True) (fun b=>bun1 b key))) (z57 (z1b (fun _=>True) (fun b=>bun1 b key))),z1ho (z3q (z1b (fun _=>True) (fun b=>bun1 b key))) bs],[.c (.s (.int .i64 (zup bs (z3q (z1b (fun _=>True) (fun b=>bun1 b key))) (z57 (z1b (fun _=>True) (fun b=>bun1 b key))))))],[]):=by
  unfold zsf;simp only[z1iw,yh];rfl
 have hc:=z2ft z25i hF (fun p hp=>by
  simp only[yf,y2j,or_false]at hp;rcases hp with rfl|rfl
  ·rw[zfu,zq7]
  ·rw[zfu];exact fun _ _=>trivial) (w:=W) (St:=St) (vs:=[v,.func (.func 184) #[] #[.pointer (some ⟨kb,0,none⟩)]]) hbd ⟨hv,⟨_,_,rfl,hB,fun St' w' hkp hbd' hld' args ob rs hφ2 hob vs hvs=>by
   have:=hL _ _ args ob rs hφ hφ2 hob w' St' (vs++[.pointer (some ⟨kb,0,none⟩)]) hbd' (All2.append (by
    clear hφ2
    induction vs generalizing args with
    |nil=>cases args with|nil=>trivial|cons _ _=>exact hvs.elim
    |cons a vs ih=>cases args with|nil=>exact hvs.elim|cons d args=>exact⟨hvs.1,ih args hvs.2⟩) ⟨⟨kb,rfl,fun i c hc=>by
     cases i with
     |zero=>
      simp at hc;subst hc;exact⟨(hkp _ _ hkb).1,kv,by rw[(hkp _ _ hkb).2];exact hk,hkv.mono hkp⟩
     |succ i=>simp at hc⟩,trivial⟩) hld'
   simpa using this⟩,trivial⟩ hld
 rw[zfu,zq7]at hc;exact hc
structure RB(St:Nat→Nat→Prop)(w1:World)(rows:List (List Val))(f:List Val→Option (List Val))(fin:List Bunch)(i:Nat)(v:Value)(cs:List Value)(bs:List Bunch)(zs:List (List Value))(wr:World):Prop where
 bn:BN St w1 wr v cs bs zs
 fin:bunQ f (rows.drop i) bs=some fin
 len:bs.length≤i+1
 rows:∀j,j<bs.length→(bs.getD j zh).rows.length≤i
set_option maxHeartbeats 8000000 in
theorem z22b(wd:Wld)(rows:List (List Val))(terms:List Term)(fin:List Bunch)(St:Nat→Nat→Prop)(ev dv tv:Value)(a:Option Addr)(b off cap tc:Nat)(ta':Option Addr)(kv:Nat→Value)(w:World)(hlen:rows.length≤100000000)(htl:terms.length≤100000000)(hE:wd.env.length≤100000000)
  (hbd:∀b o,St b o→b<w.heap.size)(hld:Laid w)(hw:D0Rel En St w (.agg #[ev,dv]) (.agg (enc Ty.wld wd)))
  (ha:rows≠[]→a=some ⟨b,off,none⟩∧rows.length≤cap)
  (hc:∀i,i<rows.length→St b (off+i)∧w.cell? ⟨b,off+i,none⟩=some (kv i)∧VRel En St w (kv i) (.dat (U:=Un) Ty.val (rows.getD i [])))
  (ht:∀(i:Nat)(key:List Val),i<rows.length→nTs terms (zf wd (rows.getD i []))=some key→∀(W:World)(v2:Value)(St2:Nat→Nat→Prop),Ext w W→(∀b o,b<w.heap.size→St2 b o→St b o)→(∀b o,St2 b o→b<W.heap.size)→D0Rel En St2 W v2 (.agg (enc Ty.wld (zf wd (rows.getD i []))))→Laid W→
   Calls Tryz.prog 121 #[v2,tv] W fun e W'=>∃kv,e=.returned kv∧Ext W W'∧∃St4:Nat→Nat→Prop,(∀b o,b<W.heap.size→St4 b o→St b o∨St2 b o)∧(∀b o,St4 b o→b<W'.heap.size)∧VRel En St4 W' kv (.dat (U:=Un) Ty.val key))
  (htv:tv=.slice ta' terms.length tc)
  (hfin:bunQ (fun x=>nTs terms (zf wd x)) rows (if terms.length=0 then[⟨[],[]⟩]else[])=some fin):
  Calls Tryz.prog 139 #[.agg #[ev,dv],.slice a rows.length cap,tv] w fun e w'=>∃v cs zs w1,e=.returned v∧Ext w w1∧BN St w1 w' v cs fin zs:=by
 have mixed:Tryz.prog.follows .mixedOrders=true:=by kernel_rfl
 subst htv;have HT:=Lib.hid ht;have HC:=Lib.hid hc;have HW:=Lib.hid hw;have HF:=Lib.hid hfin;have HB:=Lib.hid hbd;have HL:=Lib.hid hld;clear ht hc hw hfin hbd hld
 go_enter Tryz.func139,Tryz.ntmps139
 have b0:(w.alloc (Obj.cells #[ev,dv] 85)).cell? ⟨w.heap.size,0,none⟩=some ev:=by
  have h:=heap_alloc_new w (Obj.cells #[ev,dv] 85);unfold World.cell?;simp only[h];rfl
 have b1:(w.alloc (Obj.cells #[ev,dv] 85)).cell? ⟨w.heap.size,1,none⟩=some dv:=by
  have h:=heap_alloc_new w (Obj.cells #[ev,dv] 85);unfold World.cell?;simp only[h];rfl
 have BX0:=Lib.hid b0;have BX1:=Lib.hid b1;clear b0 b1;by_cases h0:terms.length=0
 all_goals go_wp2_with fail
 have hh:(w.alloc (Obj.cells #[ev,dv] 85)).heap.size=w.heap.size+1:=by simp
 have S0:RB St (w.alloc (Obj.cells #[ev,dv] 85)) rows (fun x=>nTs terms (zf wd x)) fin 0 (.slice (some ⟨w.heap.size+1,0,none⟩) ([⟨[],[]⟩]:List Bunch).length 1) ([]++[.slice none 0 0,.slice none 0 0]) ([]++[⟨[],[]⟩]) ([]++[[]]) ((w.alloc (Obj.cells #[ev,dv] 85)).alloc (Obj.cells #[Value.slice none 0 0,Value.slice none 0 0] 160)):=by
  refine⟨BN.push (BN.start (fun b o hs=>by rw[hh];have:=HB.out b o hs;omega) (Ext.refl _)) (.nil _ _ _) ?_ (World.grownBy_alloc _ _ _) (.inr (by rw[hh];exact y6 _)),by have:=HF.out;rw[if_pos h0]at this;exact this,by simp,fun j hj=>?_⟩
  ·have h2:(w.alloc (Obj.cells #[ev,dv] 85)).heap.size=w.heap.size+1:=hh;have h3:=heap_alloc_new (w.alloc (Obj.cells #[ev,dv] 85)) (Obj.cells #[Value.slice none 0 0,Value.slice none 0 0] 160);rw[h2]at h3;exact⟨rfl,.inr ⟨w.heap.size+1,1,#[Value.slice none 0 0,Value.slice none 0 0],rfl,by rw[h2];exact y6 _,h3,y6 _,by decide,rfl,rfl⟩⟩
  ·have:j=0:=by simpa using hj
   subst this;exact ya _
 clear h0
 rotate_left
 have hte:((terms.length:Int)==0)=false:=by simpa using h0
 simp only[hte];clear hte;have hh:(w.alloc (Obj.cells #[ev,dv] 85)).heap.size=w.heap.size+1:=by simp
 have S0:RB St (w.alloc (Obj.cells #[ev,dv] 85)) rows (fun x=>nTs terms (zf wd x)) fin 0 (.slice none ([]:List Bunch).length 0) [] [] [] (w.alloc (Obj.cells #[ev,dv] 85)):=
  ⟨BN.start (fun b o hs=>by rw[hh];have:=HB.out b o hs;omega) (Ext.refl _),by have:=HF.out;rw[if_neg h0]at this;exact this,ya _,fun j hj=>absurd hj (y18 _)⟩
 clear h0
 all_goals
  go_loopw [7,19] (fun s7 s19 wr=>∃(i cp:Nat)(g:Option Addr)(cs:List Value)(bs:List Bunch)(zs:List (List Value)),i≤rows.length∧s7=.slice g bs.length cp∧s19=.int .i64 i∧RB St (w.alloc (Obj.cells #[ev,dv] 85)) rows (fun x=>nTs terms (zf wd x)) fin i (.slice g bs.length cp) cs bs zs wr) (fun _ s19 _=>rows.length- (intOf s19).toNat)
  case atStart=>exact⟨0,_,_,_,_,_,ya _,rfl,rfl,S0⟩
  case round=>
   clear S0;obtain⟨i,cp,g,cs,bs,zs,hi,rfl,rfl,hr⟩:=hrel;by_cases hlt:i<rows.length
   ·obtain⟨rfl,hcap⟩:=ha (fun e=>by rw[e]at hlt;simp at hlt);obtain⟨x,hxd⟩:∃x,x=rows.getD i []:=⟨_,rfl⟩;obtain⟨c1,c2,c3⟩:=HC.out i hlt;have HT2:=HT.out i;rw[←hxd]at c3 HT2;obtain⟨xa,xc,hxv⟩:=vsl c3;rw[hxv]at c2 c3;clear hxv;obtain⟨key,hkey,hfin2⟩:∃key,nTs terms (zf wd x)=some key∧bunQ (fun x=>nTs terms (zf wd x)) (rows.drop (i+1)) (z31 bs key x)=some fin:=by
     have h1:=hr.fin;rw[y1u hlt]at h1;simp only[bunQ,y7]at h1;obtain⟨key,h2,h3⟩:=h1;have e:rows[i]=x:=by rw[hxd,yd,y9 hlt];rfl
     rw[e]at h2 h3;exact⟨key,h2,h3⟩
    have X0:Ext w wr:=((Ext.refl w).alloc _).trans hr.bn.ext;have hbd1:∀b o,St b o→b<wr.heap.size:=fun b o hs=>yn (HB.out b o hs) X0.le;have hA:=z2gs (wd:=wd) (x:=x) (v0:=.agg #[ev,dv]) (v1:=.slice xa x.length xc) hE hbd1 (HW.out.mono (z21i X0 HB.out)) (c3.mono (z21i X0 HB.out)) (HL.out.ext X0);have d1:=X0.keeps c2;have d2:wr.cell? ⟨w.heap.size,0,none⟩=some ev:=hr.bn.ext.keeps BX0.out;have d3:wr.cell? ⟨w.heap.size,1,none⟩=some dv:=hr.bn.ext.keeps BX1.out;have HA:=Lib.hid hA;have HR:=Lib.hid hr;have HK:=Lib.hid hkey;have HX:=Lib.hid X0;have HC3:=Lib.hid c3;have HF2:=Lib.hid hfin2;have HXD:=Lib.hid hxd;have HB1:=Lib.hid hbd1;have HT3:=Lib.hid HT2;clear hA hr hkey X0 c1 c2 c3 hfin2 hbd1 HT2 hxd;have k0:(i:Int)<(rows.length:Int):=by omega
    go_upto_region 8 with(first
     |(go_at_call 137;refine HA.out.mono ?_;rintro e W1 ⟨v2,rfl,hx1,St2,s21,s22,hr2⟩;have HX1:=Lib.hid hx1;have HS1:=Lib.hid s21;have HS2:=Lib.hid s22;have HR2:=Lib.hid hr2;clear hx1 s21 s22 hr2)
     |(go_at_call 121;refine(HT3.out key hlt HK.out W1 v2 St2 (HX.out.trans HX1.out) (fun b o hb hs=>HS1.out b o (yn hb HX.out.le) hs) HS2.out HR2.out (HL.out.ext (HX.out.trans HX1.out))).mono ?_;rintro e W2 ⟨kk,rfl,hx2,St4,s41,s42,hk4⟩;obtain⟨ka,kc,rfl⟩:=vsl hk4;have HX2:=Lib.hid hx2;have HS41:=Lib.hid s41;have HS42:=Lib.hid s42;have HK4:=Lib.hid hk4;clear hx2 s41 s42 hk4))
    have hw1:∀b o,St b o→b<(w.alloc (Obj.cells #[ev,dv] 85)).heap.size:=fun b o hs=>by have:=HB.out b o hs;simp;omega
    have x12:Ext wr W2:=HX1.out.trans HX2.out;have kf:=BN.fresh HR.out.bn x12 hw1 (fun b o hb hs=>(HS41.out b o (yn hb HX1.out.le) hs).elim id fun h=>HS1.out b o hb h) HS42.out HK4.out;have b2:=HR.out.bn.step x12;have x3:Ext W2 (W2.alloc (Obj.cells #[Value.slice ka key.length kc] 57)):=(Ext.refl _).alloc _;have b3:=b2.step x3;have k3:VRel En (StN St (w.alloc (Obj.cells #[ev,dv] 85)) (W2.alloc (Obj.cells #[Value.slice ka key.length kc] 57)) .nilFunc) (W2.alloc (Obj.cells #[Value.slice ka key.length kc] 57)) (.slice ka key.length kc) (.dat (U:=Un) Ty.val key):=kf.mono fun b o hs=>by
     refine⟨?_,x3.cell (p:=⟨b,o,none⟩) (StB.lt b2.ext hs)⟩;rcases hs with hs|⟨h1,h2,_⟩
     ·exact .inl hs
     ·exact .inr ⟨h1,yn h2 x3.le,by simp[Value.ownBlock]⟩
    have c0:(W2.alloc (Obj.cells #[Value.slice ka key.length kc] 57)).cell? ⟨W2.heap.size,0,none⟩=some (.slice ka key.length kc):=by
     have h:=heap_alloc_new W2 (Obj.cells #[Value.slice ka key.length kc] 57);unfold World.cell?;simp only[h];rfl
    have hi2:=z2gt (bs:=bs) (key:=key) (kb:=W2.heap.size) (St:=StN St (w.alloc (Obj.cells #[ev,dv] 85)) (W2.alloc (Obj.cells #[Value.slice ka key.length kc] 57)) .nilFunc) (fun b o hs=>by
     rcases hs with⟨h1,_⟩|⟨_,h1,_⟩
     ·exact yn h1 b3.ext.le
     ·exact h1) (b3.vrel (by have:=HR.out.len;omega) (fun j hj=>by have:=HR.out.rows j hj;omega)) c0 k3 (.inr ⟨by have:=b2.ext.le;exact this,by simp,by simp[Value.ownBlock]⟩) (HL.out.ext (HX.out.trans (x12.trans x3)))
    have HI:=Lib.hid hi2;have HX12:=Lib.hid x12;have HX3:=Lib.hid x3;have HB3:=Lib.hid b3;have HKF:=Lib.hid kf;have HC0:=Lib.hid c0;clear hi2 x12 x3 b3 b2 k3 kf c0 hw1
    go_upto_region 9 with(first
     |(go_at_call 183;refine HI.out.mono ?_;rintro e W4 ⟨rfl,hx4⟩;have HX4:=Lib.hid hx4;clear hx4))
    have b4:=HB3.out.step HX4.out;have c4:=HX4.out.keeps HC0.out;cases hq:List.findIdx? (fun b=>bun1 b key) bs with
    |some k=>
     have hkl:k<bs.length:=(y2f.1 hq).1;have hrows:=HR.out.rows k hkl;have hbl:=HR.out.len;obtain⟨gb0,rfl⟩:∃gb0,g=some ⟨gb0,0,none⟩:=by
      obtain⟨gb,cp2,u,n1,_⟩:=b4.at hkl;simp only[Value.slice.injEq]at n1;exact⟨gb,n1.1⟩
     have HKB:=Lib.hid hkl;have HLEN:=Lib.hid HR.out.len;have HROW:=Lib.hid HR.out.rows;have hadd:z31 bs key x=bs.set k ⟨(bs.getD k zh).key,(bs.getD k zh).rows++[x]⟩:=by
      have e:bs.findIdx? (fun b=>z2n b.key key==0)=some k:=hq;unfold z31;rw[e]
     have HADD:=Lib.hid hadd;clear hadd;obtain⟨gb,cp2,u,n1,n2,n3,n4,n5,n6,n7,n8,n9⟩:=b4.at (show k<bs.length by first|exact hkl|simp);have hz:(zs.getD k []).length≤i:=by
      have h1:=(b4.row k (show k<bs.length by first|exact hkl|simp)).length;rw[h1];exact hrows
     have x5:Ext W4 (W4.alloc (Obj.cells #[Value.slice xa x.length xc] 57)):=(Ext.refl _).alloc _;have b5:=b4.step x5;have c5:=x5.keeps n6;have f5:(W4.alloc (Obj.cells #[Value.slice xa x.length xc] 57)).frozen? ⟨gb,k*2+1,none⟩=false:=(x5.frozen (p:=⟨gb,k*2+1,none⟩) n4).trans n7;have o5:=n8.kept (zuj x5) (by cases u.ownBlock<;>simp);obtain⟨bytes,iI,zI,hby,hbp,_,und,hi0,hi1,hi2,hi3,hi4⟩:=slOf (t:=27) (e:=57) (τ:=.row) (by kernel_rfl);have ne5:some gb≠u.ownBlock:=by
      rcases n9 with e|e
      ·rw[e];simp
      ·exact fun e2=>e e2.symm
     have vx:VRel En (StB St (w.alloc (Obj.cells #[ev,dv] 85)) (W4.alloc (Obj.cells #[Value.slice xa x.length xc] 57)) (.slice (some ⟨gb0,0,none⟩) bs.length cp) cs) (W4.alloc (Obj.cells #[Value.slice xa x.length xc] 57)) (.slice xa x.length xc) (.dat (U:=Un) Ty.val x):=by
      have xx:Ext w (W4.alloc (Obj.cells #[Value.slice xa x.length xc] 57)):=((Ext.refl w).alloc _).trans b5.ext;refine HC3.out.mono fun b o hs=>⟨.inl ⟨by have:=HB.out b o hs;simp;omega,hs⟩,xx.cell (p:=⟨b,o,none⟩) (HB.out b o hs)⟩
     have B5:=Lib.hid b5;have C5:=Lib.hid c5;have F5:=Lib.hid f5;have O5:=Lib.hid o5;have N5:=Lib.hid n5;have VX:=Lib.hid vx;have HZ:=Lib.hid hz;have hsz5:(w.alloc (Obj.cells #[ev,dv] 85)).heap.size≤(W4.alloc (Obj.cells #[Value.slice xa x.length xc] 57)).heap.size:=b5.ext.le;have HSZ:=Lib.hid hsz5;have hgl:gb<(W4.alloc (Obj.cells #[Value.slice xa x.length xc] 57)).heap.size:=yn n4 x5.le;have HGL:=Lib.hid hgl;clear b5 c5 f5 o5 n5 n7 n8 n9 vx hz x5 hsz5 hgl;simp only[Value.slice.injEq,y8,Addr.mk.injEq,and_true,true_and]at n1;obtain⟨rfl,rfl⟩:=n1;have HQ:=Lib.hid hq;have kk0:(k:Int)<(bs.length:Int):=by omega
     clear hq b4 c4
     go_wp2_with (first
      |(at_builtin;refine wpList_append_lies _ rfl _ _ _ rfl (w.alloc (Obj.cells #[ev,dv] 85)).heap.size 57 iI zI 1 bytes und hi0 hi3 hi1 hi2 hi4 (by omega) _ _ _ rfl O5.out ⟨W4.heap.size,0,none⟩ 1 1 [.slice xa x.length xc] rfl rfl (cell_one_new _ _ _) (by simp[Value.oneCell']) (by omega) (by have:=HZ.out;unfold maxLen;omega) (y1g (y26 (show(zs.getD k []).length+1≤100000001 by have:=HZ.out;omega) hby) (by decide)) HSZ.out _ rfl ?_;intro g5 cap5 w5 hown5 hgrow hat hlt5;have s1:=(hgrow.cell_far ⟨gb0,k*2+1,none⟩ HGL.out ne5).trans C5.out;have s2:=(hgrow.frozen_far ⟨gb0,k*2+1,none⟩ HGL.out ne5).trans F5.out;have HO5:=Lib.hid hown5;have HG5:=Lib.hid hgrow;have HA5:=Lib.hid hat;clear hown5 hgrow hat))
     go_roundw
     case rel=>
      have hkb:=HKB.out;have ha5:u.ownBlock=some g5∨g5=_:=HA5.out;have b7:=B5.out.app hkb rfl N5.out HO5.out HG5.out (ha5.imp (fun e=>e.symm) (fun e=>congrArg some e)) VX.out;have hfin:=HF2.out;rw[HADD.out]at hfin;refine⟨i+1,cp,some ⟨gb0,0,none⟩,cs.set (k*2+1) (.slice (some ⟨g5,0,none⟩) ((zs.getD k []).length+1) cap5),_,zs.set k (zs.getD k []++[.slice xa x.length xc]),by omega,?_,by go_num,⟨?_,hfin,?_,?_⟩⟩
      ·first|rfl|(rw[y1p];done)|(rw[y1p];rfl)|(rw[y1p,yb];rfl)
      ·rw[y1p];first|exact b7|(rw[yb];exact b7)
      ·rw[y1p];have:=HLEN.out;omega
      ·intro j hj;rw[y1p]at hj;rw[yd,y23];by_cases e:k=j
       ·subst e;rw[if_pos rfl,if_pos hkb];show(_++[x]).length≤i+1;rw[yb,yg];have:=HROW.out k hkb;omega
       ·rw[if_neg e,←yd];have:=HROW.out j hj;omega
     case measure=>simp[intOf];omega
    |none=>
     have hbl:=HR.out.len;have o4:=b4.nest.outer;rw[yq,b4.len]at o4;obtain⟨bO,iO,zO,hbO,_,_,undO,ho0,ho1,ho2,ho3,ho4⟩:=slOf (t:=157) (e:=160) (τ:=.bunch) (by kernel_rfl);have hadd:z31 bs key x=(bs++[(⟨key,[]⟩:Bunch)]).set bs.length ⟨((bs++[(⟨key,[]⟩:Bunch)]).getD bs.length zh).key,((bs++[(⟨key,[]⟩:Bunch)]).getD bs.length zh).rows++[x]⟩:=by
      have e:bs.findIdx? (fun b=>z2n b.key key==0)=none:=hq;unfold z31;rw[e];simp
     have HADD:=Lib.hid hadd;have x4:Ext W4 (W4.alloc (Obj.cells #[Value.slice ka key.length kc,Value.slice none 0 0] 160)):=(Ext.refl _).alloc _;have hsz4:(w.alloc (Obj.cells #[ev,dv] 85)).heap.size≤(W4.alloc (Obj.cells #[Value.slice ka key.length kc,Value.slice none 0 0] 160)).heap.size:=(b4.step x4).ext.le;have O4:=Lib.hid o4;have HSZ4:=Lib.hid hsz4;have B4:=Lib.hid b4;have HX44:=Lib.hid x4;have HBL:=Lib.hid hbl;clear hadd o4 hsz4 b4 x4 hq hbl
     go_upto_region 12 with(first
      |(at_builtin;refine wpList_append_lies _ rfl _ _ _ rfl (w.alloc (Obj.cells #[ev,dv] 85)).heap.size 160 iO zO 2 bO undO ho0 ho3 ho1 ho2 ho4 (by omega) _ _ _ rfl (O4.out.alloc _) ⟨W4.heap.size,0,none⟩ 1 1 [.slice ka key.length kc,.slice none 0 0] rfl rfl (World.news_of_block (heap_alloc_new _ _)) (by simp[Value.oneCell']) (by omega) (by have:=HBL.out;unfold maxLen;omega) (y1g (y26 (show bs.length+1≤100000002 by have:=HBL.out;omega) hbO) (by decide)) HSZ4.out _ rfl ?_;intro g6 cap6 w6 hown6 hgrow6 hat6 hlt6;have HO6:=Lib.hid hown6;have HG6:=Lib.hid hgrow6;have HA6:=Lib.hid hat6;clear hown6 hgrow6 hat6))
     have kf4:=HKF.out.mono (StB.keep (HR.out.bn.step HX12.out).ext (HX3.out.trans (HX4.out.trans HX44.out)));have b6:=(B4.out.step HX44.out).push kf4 HO6.out HG6.out (HA6.out.imp id fun e=>by rw[e];exact y6 _);obtain⟨gb0,hgb0⟩:∃gb0,gb0=g6:=⟨_,rfl⟩;rw[←hgb0]at b6 ⊢;obtain⟨nb,hnb⟩:∃nb,nb=bs.length+1:=⟨_,rfl⟩;rw[←hnb]at b6 ⊢;have HNB:=Lib.hid hnb;have kk0:(bs.length:Int)<(nb:Int):=by omega
     have hkl:bs.length<(bs++[(⟨key,[]⟩:Bunch)]).length:=by simp
     have HKB:=Lib.hid hkl;have hrows:((bs++[(⟨key,[]⟩:Bunch)]).getD bs.length zh).rows.length≤i:=by simp
     have hlen2:(bs++[(⟨key,[]⟩:Bunch)]).length≤i+2:=by have:=HBL.out;simp;omega
     have HLEN:=Lib.hid hlen2;have hrow2:∀j,j<(bs++[(⟨key,[]⟩:Bunch)]).length→((bs++[(⟨key,[]⟩:Bunch)]).getD j zh).rows.length≤i:=fun j hj=>by
      rcases yj j bs.length with hl|hl
      ·rw[yd,y1b hl,←yd];exact HR.out.rows j hl
      ·have:j=bs.length:=by rw[yb,yg]at hj;omega
       subst this;exact hrows
     have HROW:=Lib.hid hrow2;clear kf4 hkl hlen2 hrow2 hgb0 hnb;obtain⟨gb,cp2,u,n1,n2,n3,n4,n5,n6,n7,n8,n9⟩:=b6.at (show bs.length<(bs++[(⟨key,[]⟩:Bunch)]).length by simp);have hz:((zs++[[]]).getD bs.length []).length≤i:=by
      have h1:=(b6.row bs.length (show bs.length<(bs++[(⟨key,[]⟩:Bunch)]).length by simp)).length;rw[h1];exact hrows
     have x5:Ext w6 (w6.alloc (Obj.cells #[Value.slice xa x.length xc] 57)):=(Ext.refl _).alloc _;have b5:=b6.step x5;have c5:=x5.keeps n6;have f5:(w6.alloc (Obj.cells #[Value.slice xa x.length xc] 57)).frozen? ⟨gb,bs.length*2+1,none⟩=false:=(x5.frozen (p:=⟨gb,bs.length*2+1,none⟩) n4).trans n7;have o5:=n8.kept (zuj x5) (by cases u.ownBlock<;>simp);obtain⟨bytes,iI,zI,hby,hbp,_,und,hi0,hi1,hi2,hi3,hi4⟩:=slOf (t:=27) (e:=57) (τ:=.row) (by kernel_rfl);have ne5:some gb≠u.ownBlock:=by
      rcases n9 with e|e
      ·rw[e];simp
      ·exact fun e2=>e e2.symm
     have vx:VRel En (StB St (w.alloc (Obj.cells #[ev,dv] 85)) (w6.alloc (Obj.cells #[Value.slice xa x.length xc] 57)) (.slice (some ⟨gb0,0,none⟩) nb cap6) (cs++[.slice ka key.length kc,.slice none 0 0])) (w6.alloc (Obj.cells #[Value.slice xa x.length xc] 57)) (.slice xa x.length xc) (.dat (U:=Un) Ty.val x):=by
      have xx:Ext w (w6.alloc (Obj.cells #[Value.slice xa x.length xc] 57)):=((Ext.refl w).alloc _).trans b5.ext;refine HC3.out.mono fun b o hs=>⟨.inl ⟨by have:=HB.out b o hs;simp;omega,hs⟩,xx.cell (p:=⟨b,o,none⟩) (HB.out b o hs)⟩
     have B5:=Lib.hid b5;have C5:=Lib.hid c5;have F5:=Lib.hid f5;have O5:=Lib.hid o5;have N5:=Lib.hid n5;have VX:=Lib.hid vx;have HZ:=Lib.hid hz;have hsz5:(w.alloc (Obj.cells #[ev,dv] 85)).heap.size≤(w6.alloc (Obj.cells #[Value.slice xa x.length xc] 57)).heap.size:=b5.ext.le;have HSZ:=Lib.hid hsz5;have hgl:gb<(w6.alloc (Obj.cells #[Value.slice xa x.length xc] 57)).heap.size:=yn n4 x5.le;have HGL:=Lib.hid hgl;clear b5 c5 f5 o5 n5 n7 n8 n9 vx hz x5 hsz5 hgl;simp only[Value.slice.injEq,y8,Addr.mk.injEq,and_true,true_and]at n1;obtain⟨rfl,hn1,rfl⟩:=n1;clear hn1;clear b6
     go_wp2_with (first
      |(at_builtin;refine wpList_append_lies _ rfl _ _ _ rfl (w.alloc (Obj.cells #[ev,dv] 85)).heap.size 57 iI zI 1 bytes und hi0 hi3 hi1 hi2 hi4 (by omega) _ _ _ rfl O5.out ⟨w6.heap.size,0,none⟩ 1 1 [.slice xa x.length xc] rfl rfl (cell_one_new _ _ _) (by simp[Value.oneCell']) (by omega) (by have:=HZ.out;unfold maxLen;omega) (y1g (y26 (show((zs++[[]]).getD bs.length []).length+1≤100000001 by have:=HZ.out;omega) hby) (by decide)) HSZ.out _ rfl ?_;intro g5 cap5 w5 hown5 hgrow hat hlt5;have s1:=(hgrow.cell_far ⟨gb0,bs.length*2+1,none⟩ HGL.out ne5).trans C5.out;have s2:=(hgrow.frozen_far ⟨gb0,bs.length*2+1,none⟩ HGL.out ne5).trans F5.out;have HO5:=Lib.hid hown5;have HG5:=Lib.hid hgrow;have HA5:=Lib.hid hat;clear hown5 hgrow hat))
     go_roundw
     case rel=>
      have hkb:=HKB.out;have ha5:u.ownBlock=some g5∨g5=_:=HA5.out;have b7:=B5.out.app hkb (by rw[HNB.out,yb];rfl) N5.out HO5.out HG5.out (ha5.imp (fun e=>e.symm) (fun e=>congrArg some e)) VX.out;have hfin:=HF2.out;rw[HADD.out]at hfin;refine⟨i+1,cap6,some ⟨gb0,0,none⟩,(cs++[Value.slice ka key.length kc,Value.slice none 0 0]).set (bs.length*2+1) (Value.slice (some ⟨g5,0,none⟩) (((zs++[[]]).getD bs.length []).length+1) cap5),_,(zs++[[]]).set bs.length ((zs++[[]]).getD bs.length []++[Value.slice xa x.length xc]),by omega,?_,by go_num,⟨?_,hfin,?_,?_⟩⟩
      ·rw[HNB.out,y1p,yb];rfl
      ·rw[y1p,show(bs++[(⟨key,[]⟩:Bunch)]).length=nb by rw[HNB.out];simp];exact b7
      ·rw[y1p];have:=HLEN.out;omega
      ·intro j hj;rw[y1p]at hj;rw[yd,y23];by_cases e:bs.length=j
       ·subst e;rw[if_pos rfl,if_pos hkb];show(_++[x]).length≤i+1;rw[yb,yg];have:=HROW.out bs.length hkb;omega
       ·rw[if_neg e,←yd];have:=HROW.out j hj;omega
     case measure=>simp[intOf];omega
   ·have hie:i=rows.length:=by omega
    subst hie;have h1:=hr.fin;rw[y49]at h1;simp only[bunQ,y8]at h1;have HR:=Lib.hid hr;have HF1:=Lib.hid h1;clear hr h1
    go_wp2_with fail
    go_ret;have h2:=HR.out.bn;have h3:=HF1.out;subst h3;exact⟨_,_,_,_,rfl,(Ext.refl w).alloc _,h2⟩
theorem z1hp(wd:Wld)(rows:List (List Val))(terms:List Term)(fin:List Bunch)(hfin:bunO (fun w=>nTs terms w) terms.length wd rows=some fin)
  (hT:∀(x:List Val)(key:List Val),nTs terms (zf wd x)=some key→zer Tryz.prog En 121 [.d (.agg (enc Ty.wld (zf wd x))),.d (.v (.dat (U:=Un) Ty.term terms))] [] [.v (.dat (U:=Un) Ty.val key)]):
  Contract Tryz.prog En 139 [.d (.agg (enc Ty.wld wd)),.d (.v (.dat (U:=Un) Ty.row rows)),.d (.v (.dat (U:=Un) Ty.term terms))] [.c (.sl (U:=Un) Ty.bunch fin false)] []:=by
 have hfin0:=hfin;unfold bunO at hfin;split at hfin
 ·rename_i hc;obtain⟨hE,htl,hlen⟩:=hc;intro w St vs hbd hvs hld
  match vs,hvs with
  |[v0,v1,v2],⟨h0,h1,h2,_⟩=>
   have h0':D0Rel En St w v0 (.agg (enc Ty.wld wd)):=h0;obtain⟨arr,rfl,ha2⟩:=h0;obtain⟨a,b,off,cap,kv,rfl,ha,hc⟩:=z29q h1;obtain⟨ta',tc,rfl⟩:=vsl h2;obtain⟨ev,dv,rfl⟩:∃ev dv,arr=#[ev,dv]:=by
    have hl:=ha2.length;obtain⟨l⟩:=arr
    match l,hl with
    |[x,y],_=>exact⟨x,y,rfl⟩
   refine(z22b wd rows terms fin St ev dv (.slice ta' terms.length tc) a b off cap tc ta' kv w hlen htl hE hbd hld h0' ha (fun i hi=>hc i hi) (fun i key hi hk W v2 St2 hx hs1 hs2 hd hld2=>?_) rfl hfin).mono ?_
   ·have hS:∀b o,(St b o∨St2 b o)→b<W.heap.size:=fun b o hs=>hs.elim (fun h=>yn (hbd b o h) hx.le) (hs2 b o);refine(hT _ _ hk W (fun b o=>St b o∨St2 b o) [v2,.slice ta' terms.length tc] hS ⟨D0Rel.mono (St':=fun b o=>St b o∨St2 b o) (fun b o h=>⟨Or.inr h,rfl⟩) hd,VRel.mono (St':=fun b o=>St b o∨St2 b o) h2 (fun b o h=>⟨Or.inl h,hx.cell (p:=⟨b,o,none⟩) (hbd b o h)⟩),trivial⟩ hld2).mono ?_;rintro e W' ⟨kv2,rfl,⟨hx2,St4,h41,h42,hr⟩,_⟩;exact⟨kv2,rfl,hx2,St4,h41,h42,hr⟩
   ·rintro e w' ⟨v,cs,zs,w1,rfl,hx1,hB⟩;have hx:Ext w w':=hx1.trans hB.ext;have hkk:=z195 hfin0;refine⟨v,rfl,z2i5 hx hbd ?_⟩;have hv:=hB.vrel (by have:=hkk.2.2;omega) (fun j hj=>by have:=(hB.row j hj).length;exact y1g (z2dj hfin0 j hj) (by omega))
    exact hv.mono fun b o hs=>⟨by
     rcases hs with⟨_,h⟩|⟨h1,h2,h3⟩
     ·exact .inl ⟨hbd b o h,h⟩
     ·exact .inr ⟨y1g hx1.le h1,h2,h3⟩,rfl⟩
 ·simp at hfin
end
end Go.Proofs.YtjfpbchdcbhfgaaGreat.B
