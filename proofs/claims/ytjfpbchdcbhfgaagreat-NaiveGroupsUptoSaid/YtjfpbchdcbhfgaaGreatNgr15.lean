/- Part 15 of the proof: Lstabs Lstx4 Lput Lstx5 Lordr Lnord Snaive4 Snvspec Lnlb Lnlc. -/
import Derived.Sort.WalkA
import Derived.Sort.Grow
import Derived.Sort.Statements
import Derived.Test.YtjfpbchdcbhfgaaGreatNgr14
set_option linter.unusedVariables false
set_option linter.unusedSimpArgs false
namespace Go.Proofs.YtjfpbchdcbhfgaaGreat
namespace B
open Go Go.Sort
set_option linter.unusedVariables false
section
variable {α:Type} [Inhabited α]
theorem z14h{lt le:α→α→Bool}(hle:∀x y,le x y=!lt y x)(h:Pre le):∀(n:Nat)(S:List α)(d:Array α)(P Q:List α)(x:α)(a j:Nat),S.length=n→SrtS le S→a=P.length→j=P.length+S.length→d.toList=P++(S++x::Q)→(insInner lt a j d).toList=P++(insS le S x++Q)
 |0,S,d,P,Q,x,a,j,hn,hS,ha,hj,hd=>by
  rw[y10 hn]at hd ⊢;have:j=a:=by omega
  subst this;have e:insInner lt j j d=d:=by
   cases j with
   |zero=>rfl
   |succ j=>rw[insInner];simp
  rw[e,hd];rfl
 |n+1,S,d,P,Q,x,a,j,hn,hS,ha,hj,hd=>by
  rcases y4e S with rfl|⟨S',y,rfl⟩
  ·simp at hn
  rw[y4f]at*;simp at hn;have hj':j=(P.length+S'.length)+1:=by simp at hj;omega
  subst hj';have hy:d[P.length+S'.length]! =y:=zed (P:=P++S') (Q:=x::Q) (by rw[hd];simp) (by simp);have hx:d[P.length+S'.length+1]! =x:=zed (P:=P++(S'++[y])) (Q:=Q) (by rw[hd];simp) (by simp;omega);have hS':SrtS le S':=(y25.1 hS).1;rw[insInner,hx,hy];have ga:decide (P.length+S'.length+1>a)=true:=decide_eq_true (by omega);rw[ga,y1c];by_cases c:lt x y=true
  ·have hyx:le y x=false:=by rw[hle,c];rfl
   rw[if_pos c];have s:=z1ui (d:=d) (P:=P++S') (M:=[]) (Q:=Q) (x:=y) (y:=x) (by rw[hd];simp) (i:=P.length+S'.length) (j:=P.length+S'.length+1) (by simp) (by simp);rw[z14h hle h n S' _ P (y::Q) x a (P.length+S'.length) hn hS' ha rfl (by rw[s];simp)];unfold insS;have e1:(S'++[y]).takeWhile (fun z=>le z x)=S'.takeWhile fun z=>le z x:=by
    rw[List.takeWhile_append];split
    ·rename_i hl;rw[y3q,if_neg (by rw[hyx];simp),y14];exact((List.takeWhile_prefix _).eq_of_length hl).symm
    ·rfl
   have e2:(S'++[y]).dropWhile (fun z=>le z x)=S'.dropWhile (fun z=>le z x)++[y]:=by
    rw[List.dropWhile_append];split
    ·rename_i hl;rw[List.isEmpty_iff]at hl;rw[hl,y3e,if_neg (by rw[hyx];simp)];rfl
    ·rfl
   rw[e1,e2];simp
  ·have hyx:le y x=true:=by rw[hle];simpa using c
   rw[if_neg c,hd];have hall:∀z∈S'++[y],le z x=true:=fun z hz=>by
    rcases yc.1 hz with hz|hz
    ·exact h.trans z y x ((y25.1 hS).2.2 z hz y (by simp)) hyx
    ·rw[yi]at hz;subst hz;exact hyx
   unfold insS;have w1:(S'++[y]).takeWhile (fun z=>le z x)=S'++[y]:=by
    have:=y4u (p:=fun z=>le z x) (l₁:=S'++[y]) (l₂:=[]) hall;rw[y14,List.takeWhile_nil,y14]at this;exact this
   have w2:(S'++[y]).dropWhile (fun z=>le z x)=[]:=by
    have:=y4v (p:=fun z=>le z x) (l₁:=S'++[y]) (l₂:=[]) hall;rw[y14,List.dropWhile_nil]at this;exact this
   rw[w1,w2];simp
theorem z14i{lt le:α→α→Bool}(hle:∀x y,le x y=!lt y x)(h:Pre le):∀(R S:List α)(d:Array α)(P Q:List α)(a b i:Nat),SrtS le S→a=P.length→i=P.length+S.length→b=P.length+S.length+R.length→d.toList=P++(S++(R++Q))→(insOuter lt a b i d).toList=P++(R.foldl (insS le) S++Q)
 |[],S,d,P,Q,a,b,i,hS,ha,hi,hb,hd=>by
  rw[insOuter,if_neg (by simp at hb;omega),hd];simp
 |x::R,S,d,P,Q,a,b,i,hS,ha,hi,hb,hd=>by
  rw[insOuter,if_pos (by simp at hb;omega)];have e:=z14h hle h _ S d P (R++Q) x a i rfl hS ha hi (by rw[hd];simp);have hl:(insS le S x).length=S.length+1:=(z1uh S x).length_eq;rw[z14i hle h R (insS le S x) _ P Q a b (i+1) (z21j h hS x) ha (by omega) (by simp at hb;omega) e,yu]
theorem z10b{lt le:α→α→Bool}(hle:∀x y,le x y=!lt y x)(h:Pre le){d:Array α}{P L Q:List α}{a b:Nat}(ha:a=P.length)(hb:b=P.length+L.length)(hd:d.toList=P++(L++Q)):(Sort.insertionSort lt d a b).toList=P++(z2a le L++Q):=by
 unfold Sort.insertionSort;cases L with
 |nil=>
  rw[insOuter,if_neg (by simp at hb;omega),hd];rfl
 |cons x R=>
  rw[z14i hle h R [x] d P Q a b (a+1) (List.pairwise_singleton _ _) ha (by simp;omega) (by simp at hb ⊢;omega) (by rw[hd];simp)];rfl
def chS(le:α→α→Bool)(bs:Nat)(L:List α):List α:=if h:0<bs∧bs≤L.length then z2a le (L.take bs)++chS le bs (L.drop bs)else z2a le L
termination_by L.length
decreasing_by rw[yx];omega
theorem z2fx{lt le:α→α→Bool}(hle:∀x y,le x y=!lt y x)(h:Pre le)(bs n:Nat)(hb:0<bs):∀(k:Nat)(L:List α)(d:Array α)(P:List α)(a:Nat),L.length=k→a=P.length→n=P.length+L.length→d.toList=P++L→(stB lt d a n bs).toList=P++chS le bs L:=by
 intro k
 induction k using Nat.strongRecOn with
 |_ k ih=>
  intro L d P a hk ha hn hd;rw[stB,chS];by_cases c:a+bs≤n
  ·rw[dif_pos ⟨hb,c⟩,dif_pos ⟨hb,by omega⟩];have e:=z10b hle h (d:=d) (P:=P) (L:=L.take bs) (Q:=L.drop bs) (a:=a) (b:=a+bs) ha (by rw[yw];omega) (by rw[y1o];exact hd);rw[ih (L.length- bs) (by omega) (L.drop bs) _ (P++z2a le (L.take bs)) (a+bs) (by rw[yx]) (by rw[yb,z6z h,yw];omega) (by rw[yb,z6z h,yw,yx];omega) (by rw[e];simp)];simp
  ·rw[dif_neg (by omega),dif_neg (by omega)];have e:=z10b hle h (d:=d) (P:=P) (L:=L) (Q:=[]) (a:=a) (b:=n) ha hn (by rw[hd];simp);rw[e];simp
omit [Inhabited α] in
theorem z2df{le:α→α→Bool}:z2a le ([]:List α)=[]:=rfl
omit [Inhabited α] in
theorem zq3{le:α→α→Bool}{bs:Nat}{L:List α}(h:L.length≤bs)(hb:0<bs):chS le bs L=z2a le L:=by
 rw[chS];by_cases c:bs≤L.length
 ·rw[dif_pos ⟨hb,c⟩,y32 h,y22 h,chS,dif_neg (by simp;omega),z2df,y14]
 ·rw[dif_neg (by omega)]
theorem z2fy{lt le:α→α→Bool}(hle:∀x y,le x y=!lt y x)(h:Pre le)(bs n:Nat)(hb:0<bs):∀(k:Nat)(L:List α)(d:Array α)(P:List α)(a:Nat),L.length=k→a=P.length→n=P.length+L.length→d.toList=P++chS le bs L→(stM lt d a n bs).toList=P++chS le (2*bs) L:=by
 intro k
 induction k using Nat.strongRecOn with
 |_ k ih=>
  intro L d P a hk ha hn hd;rw[stM];by_cases c:a+2*bs≤n
  ·rw[dif_pos ⟨hb,c⟩];have e1:chS le bs L=z2a le (L.take bs)++(z2a le ((L.drop bs).take bs)++chS le bs (L.drop (2*bs))):=by
    rw[chS,dif_pos ⟨hb,by omega⟩,chS,dif_pos ⟨hb,by rw[yx];omega⟩,y3l,show bs+bs=2*bs by omega]
   have l1:(z2a le (L.take bs)).length=bs:=by rw[z6z h,yw];omega
   have l2:(z2a le ((L.drop bs).take bs)).length=bs:=by rw[z6z h,yw,yx];omega
   have e:=z1uj hle h (2*bs) d P (z2a le (L.take bs)) (z2a le ((L.drop bs).take bs)) (chS le bs (L.drop (2*bs))) a (a+bs) (a+2*bs) ha (by omega) (by omega) (by omega) (by omega) (by omega) (zk3 h _) (zk3 h _) (by rw[hd,e1]);rw[z1ef h,show L.take bs++(L.drop bs).take bs=L.take (2*bs) by rw[show 2*bs=bs+bs by omega,List.take_add]]at e;rw[ih (L.length- 2*bs) (by omega) (L.drop (2*bs)) _ (P++z2a le (L.take (2*bs))) (a+2*bs) (by rw[yx]) (by rw[yb,z6z h,yw];omega) (by rw[yb,z6z h,yw,yx];omega) (by rw[e];simp)]
   conv=>rhs;rw[chS,dif_pos ⟨by omega,by omega⟩]
   simp
  ·rw[dif_neg (by omega),zq3 (bs:=2*bs) (by omega) (by omega)];by_cases c2:a+bs<n
   ·rw[if_pos c2];have e1:chS le bs L=z2a le (L.take bs)++z2a le (L.drop bs):=by
     rw[chS,dif_pos ⟨hb,by omega⟩,zq3 (by rw[yx];omega) hb]
    have l1:(z2a le (L.take bs)).length=bs:=by rw[z6z h,yw];omega
    have l2:(z2a le (L.drop bs)).length=L.length- bs:=by rw[z6z h,yx]
    have e:=z1uj hle h (n- a) d P (z2a le (L.take bs)) (z2a le (L.drop bs)) [] a (a+bs) n ha (by omega) (by omega) (by omega) (by omega) (by omega) (zk3 h _) (zk3 h _) (by rw[hd,e1];simp);rw[e,z1ef h,y1o,y14]
   ·rw[if_neg c2,hd,zq3 (by omega) hb]
theorem z2fz{lt le:α→α→Bool}(hle:∀x y,le x y=!lt y x)(h:Pre le)(n:Nat)(L:List α)(hn:n=L.length):∀(k bs:Nat)(d:Array α),0<bs→n- bs≤k→d.toList=chS le bs L→(stR lt d n bs).toList=z2a le L:=by
 intro k
 induction k with
 |zero=>
  intro bs d hb hk hd;rw[stR,dif_neg (by omega),hd,zq3 (by omega) hb]
 |succ k ih=>
  intro bs d hb hk hd;rw[stR];by_cases c:bs<n
  ·rw[dif_pos ⟨hb,c⟩];have e:=z2fy hle h bs n hb _ L d [] 0 rfl rfl (by simp;omega) (by rw[hd];simp);rw[yz]at e;exact ih (2*bs) _ (by omega) (by omega) e
  ·rw[dif_neg (by omega),hd,zq3 (by omega) hb]
theorem z2g0{lt le:α→α→Bool}(hle:∀x y,le x y=!lt y x)(h:Pre le)(d:Array α):(stF lt d d.size).toList=z2a le d.toList:=by
 unfold stF;have e:=z2fx hle h 20 d.size (by omega) _ d.toList d [] 0 rfl rfl (by simp) (by simp);rw[yz]at e;exact z2fz hle h d.size d.toList (by simp) _ 20 _ (by omega) (y6 _) e
end
end B
namespace B
open Go Go.RowKit Go.Shelf Go.Lib Go.Sort
set_option maxRecDepth 1000000
set_option linter.unusedVariables false
noncomputable section
variable {α:Type} [Inhabited α]
set_option maxHeartbeats 8000000 in
theorem z2kk(enc:α→Value)(cf:α→α→Int)(g:Nat)(cb:Array Value)(blk off cap a b:Nat)(d0 d:Array α)(w0 w:World)
  (eg:∀args w,(callFunc g args).run Tryz.prog w=.ok (.enter g args) w)(hcmp:CmpX Tryz.prog g cb enc cf blk off d0.size w0)
  (R:Row1 enc w0 blk off d0)(hs:d0.size=d.size)(S:SX enc w0 blk off d w)(hab:a≤b)(hb:b≤d.size)(hsz:d.size<4611686018427387904):
  Calls Tryz.prog 226 #[.slice (some ⟨blk,off,none⟩) d.size cap,.int .i64 a,.int .i64 b,.func (.func g) #[] cb] w fun e w'=>e=.returned (.tuple #[])∧SX enc w0 blk off (Sort.insertionSort (ltOf cf) d a b) w':=by
 have mixed:Tryz.prog.follows .mixedOrders=true:=by kernel_rfl
 have hcl0:=R.hO.cells;simp only[Value.cells]at hcl0;have hst:=R.hO.store Tryz.prog;have S0:Aside (SX enc w0 blk off d w):=S;have HC:Aside _:=hcmp;clear S hcmp
 go_enter Tryz.func226,Tryz.ntmps226
 go_wp2_with fail
 go_loopg [8] (b- a) (fun kx s8 wr=>∃(i:Nat)(dk:Array α),s8=.int .i64 i∧a<i∧i≤b+1∧b- i≤kx∧dk.size=d.size∧Aside (SX enc w0 blk off dk wr)∧Hid (insOuter (ltOf cf) a b i dk=Sort.insertionSort (ltOf cf) d a b))
 case atStart=>exact⟨a+1,d,by go_num,by omega,by omega,by omega,rfl,S0,rfl⟩
 case round=>
  clear S0;obtain⟨i,dk,rfl,hai,hib,hkx,hds,S1,HQ⟩:=hrel;by_cases hlt:i<b
  ·have hltz:(i:Int)<(b:Int):=by omega
   have HQ2:Hid (insOuter (ltOf cf) a b (i+1) (insInner (ltOf cf) a i dk)=Sort.insertionSort (ltOf cf) d a b):=by
    show _=_;rw[←HQ.out];conv=>rhs;rw[insOuter,if_pos hlt]
   clear HQ
   go_wp2_with fail
   go_loopg [9] i (fun ky s9 wr=>∃(j:Nat)(dj:Array α),s9=.int .i64 j∧a≤j∧j≤i∧j≤ky∧dj.size=d.size∧Aside (SX enc w0 blk off dj wr)∧Hid (insInner (ltOf cf) a j dj=insInner (ltOf cf) a i dk))
   case atStart=>exact⟨i,dk,rfl,by omega,y6 _,y6 _,hds,S1,rfl⟩
   case round=>
    clear S1;obtain⟨j,dj,rfl,haj,hji,hky,hdj,S1,HI⟩:=hrel;by_cases hja:a<j
    ·obtain⟨jN1,hjN1⟩:∃q,q=j- 1:=⟨_,rfl⟩;have hjad:decide ((j:Int)>(a:Int))=true:=decide_eq_true (by omega);have hjaz:(a:Int)<(j:Int):=by omega
     have ez1:((j:Int)- 1)=(jN1:Int):=by omega
     have rz1:IntKind.i64.wrap ((j:Int)- 1)=(jN1:Int):=by rw[IntKind.wrap_i64];omega
     have rb1:IntKind.i64.wrap (jN1:Int)=(jN1:Int):=by rw[IntKind.wrap_i64];omega
     have ea1:((j:Int)).toNat=j:=by omega
     have pa1:(0:Int)≤(j:Int):=by omega
     have ba1:(j:Int)<(d.size:Int):=by omega
     have ec1:((jN1:Int)).toNat=jN1:=by omega
     have pc1:(0:Int)≤(jN1:Int):=by omega
     have bc1:(jN1:Int)<(d.size:Int):=by omega
     obtain⟨x1,hx1⟩:∃x,x=dj[j]!:=⟨_,rfl⟩;obtain⟨y1,hy1⟩:∃x,x=dj[jN1]!:=⟨_,rfl⟩;have l1a:=S1.out.cl R (by omega) j (by omega);have l1b:=S1.out.cl R (by omega) jN1 (by omega);rw[←hx1]at l1a;rw[←hy1]at l1b;have hc1:=S1.out.cmp HC.out (by omega) x1 y1;have hlt1:ltOf cf dj[j]! dj[j- 1]! =decide (cf x1 y1<0):=by rw[←hjN1,hx1,hy1];rfl
     have HL:=Lib.hid hlt1;have HJ:=Lib.hid hjN1;have HX:=Lib.hid hx1;have HY:=Lib.hid hy1;clear hlt1 hx1 hy1 hjN1;by_cases hv:cf x1 y1<0
     ·have hd1:decide (cf x1 y1<0)=true:=decide_eq_true hv
      go_wp2_with fail
      refine wp_region_quiet_below (by assumption) (by kernel_rfl) ?_
      repeat(quiet_step (first|(go_at_fn g;refine Calls.regrown_of (hc1 _ _))))
      refine wpQuiet_nil ?_;intro _ hw';obtain⟨⟨nq,osq⟩,hw''⟩:=hw';subst hw'';have S2:Aside (SX enc w0 blk off dj (grow (redrawn wr nq) osq)):=S1.out.regrown nq osq;clear l1a l1b hc1 S1;generalize grow (redrawn wr nq) osq=w2 at S2 ⊢;clear nq osq;have S3:Aside (SX enc w0 blk off (swp dj j jN1) ((w2.setCell ⟨blk,off+j,none⟩ (enc y1)).setCell ⟨blk,off+jN1,none⟩ (enc x1)).drew):=by rw[HX.out,HY.out];exact S2.out.swapped R j jN1 (by omega) (by omega)
      have c1a:=S2.out.c1 R (by omega) j (by omega);have c1b:=S2.out.c1 R (by omega) jN1 (by omega);have f1a:=S2.out.f1 R (by omega) j (by omega);have f1b:=S2.out.f1 R (by omega) jN1 (by omega);obtain⟨u1,c1c⟩:=S2.out.c2 R (by omega) j jN1 (by omega) (by omega) (enc y1);rw[←HX.out]at c1a;rw[←HY.out]at c1b;clear S2
      go_wp2_with fail
      go_big_region_o
      clear c1a c1b c1c f1a f1b;generalize((w2.setCell ⟨blk,off+j,none⟩ (enc y1)).setCell ⟨blk,off+jN1,none⟩ (enc x1)).drew=w3 at S3 ⊢
      go_wp2_with fail
      have hjn:=HJ.out
      go_roundg jN1
      case measure=>omega
      case rel=>
       refine⟨jN1,swp dj j jN1,by first|rfl|go_num,by omega,by omega,y6 _,by rw[size_swp];exact hdj,S3,?_⟩;show _=_;rw[←HI.out,insInner_go (ltOf cf) a j dj hja (by rw[HL.out,hd1]),hjn]
     ·have hd1:decide (cf x1 y1<0)=false:=decide_eq_false hv
      go_wp2_with fail
      refine wp_region_quiet_below (by assumption) (by kernel_rfl) ?_
      repeat(quiet_step (first|(go_at_fn g;refine Calls.regrown_of (hc1 _ _))))
      refine wpQuiet_nil ?_;intro _ hw';obtain⟨⟨nq,osq⟩,hw''⟩:=hw';subst hw'';have S2:Aside (SX enc w0 blk off dj (grow (redrawn wr nq) osq)):=S1.out.regrown nq osq;clear l1a l1b hc1 S1;generalize grow (redrawn wr nq) osq=w2 at S2 ⊢;clear nq osq
      go_wp2_with fail
      go_roundg (b- (i+1))
      case measure=>omega
      case rel=>
       refine⟨i+1,dj,by go_num,by omega,by omega,y6 _,hdj,S2,?_⟩;show _=_;rw[←HQ2.out,←HI.out,insInner_stop (ltOf cf) a j dj (.inr (by rw[HL.out,hd1]))]
    ·have hjad:decide ((j:Int)>(a:Int))=false:=decide_eq_false (by omega);have hjaz:¬(a:Int)<(j:Int):=by omega
     go_wp2_with fail
     go_big_region_o
     have S2:Aside (SX enc w0 blk off dj wr.drew):=S1.out.drew;clear S1;generalize wr.drew=w2 at S2 ⊢
     go_wp2_with fail
     go_roundg (b- (i+1))
     case measure=>omega
     case rel=>
      refine⟨i+1,dj,by go_num,by omega,by omega,y6 _,hdj,S2,?_⟩;show _=_;rw[←HQ2.out,←HI.out,insInner_stop (ltOf cf) a j dj (.inl (by omega))]
  ·have hltz:¬(i:Int)<(b:Int):=by omega
   go_wp2_with fail
   go_end0
   exact⟨rfl,by rw[←HQ.out,insOuter,if_neg hlt];exact S1.out⟩
theorem z21o(lt:α→α→Bool)(d:Array α)(a b:Nat):(Sort.insertionSort lt d a b).size=d.size:=by
 have inner:∀(j:Nat)(d:Array α),(insInner lt a j d).size=d.size:=by
  intro j
  induction j with
  |zero=>intro d;rfl
  |succ j ih=>
   intro d;rw[insInner];split
   ·rw[ih,size_swp]
   ·rfl
 have outer:∀(k i:Nat)(d:Array α),b- i≤k→(insOuter lt a b i d).size=d.size:=by
  intro k
  induction k with
  |zero=>intro i d h;rw[insOuter,if_neg (by omega)]
  |succ k ih=>
   intro i d h;rw[insOuter];split
   ·rw[ih _ _ (by omega),inner]
   ·rfl
 exact outer _ _ _ (y6 _)
theorem z2g1(lt:α→α→Bool)(n bs:Nat):∀(k a:Nat)(d:Array α),n- a≤k→(stM lt d a n bs).size=d.size:=by
 intro k
 induction k with
 |zero=>intro a d h;rw[stM,dif_neg (by omega)];split<;>first|rfl|rw[zk2]
 |succ k ih=>
  intro a d h;rw[stM];split
  ·rw[ih _ _ (by omega),zk2]
  ·split<;>first|rfl|rw[zk2]
attribute [local irreducible] symF Sort.insertionSort in
set_option maxHeartbeats 4000000 in
theorem z2g2(enc:α→Value)(cf:α→α→Int)(g:Nat)(cb:Array Value)(blk off cap:Nat)(d0 d:Array α)(w0 w:World)
  (eg:∀args w,(callFunc g args).run Tryz.prog w=.ok (.enter g args) w)(hcmp:CmpX Tryz.prog g cb enc cf blk off d0.size w0)
  (R:Row1 enc w0 blk off d0)(hs:d0.size=d.size)(S:SX enc w0 blk off d w)(hsz:d.size<1152921504606846976):
  Calls Tryz.prog 191 #[.slice (some ⟨blk,off,none⟩) d.size cap,.int .i64 d.size,.func (.func g) #[] cb] w fun e w'=>e=.returned (.tuple #[])∧SX enc w0 blk off (stF (ltOf cf) d d.size) w':=by
 have mixed:Tryz.prog.follows .mixedOrders=true:=by kernel_rfl
 have HC:Aside _:=hcmp;have S0:Aside (SX enc w0 blk off d w):=S;clear S hcmp
 have hins:∀(dk:Array α)(W:World)(x y:Nat),dk.size=d.size→SX enc w0 blk off dk W→x≤y→y≤d.size→
   Calls Tryz.prog 226 #[.slice (some ⟨blk,off,none⟩) d.size cap,.int .i64 x,.int .i64 y,.func (.func g) #[] cb] W fun e w'=>e=.returned (.tuple #[])∧SX enc w0 blk off (Sort.insertionSort (ltOf cf) dk x y) w':=fun dk W x y h1 h2 h3 h4=>by
  have:=z2kk enc cf g cb blk off cap x y d0 dk w0 W eg HC.out R (by omega) h2 h3 (by omega) (by omega);rwa[h1]at this
 have hsym:∀(f:Nat)(dk:Array α)(W:World)(x y z:Nat),dk.size=d.size→SX enc w0 blk off dk W→x<y→y<z→z≤d.size→z- x≤f→
   Calls Tryz.prog 227 #[.slice (some ⟨blk,off,none⟩) d.size cap,.int .i64 x,.int .i64 y,.int .i64 z,.func (.func g) #[] cb] W fun e w'=>e=.returned (.tuple #[])∧SX enc w0 blk off (symF (ltOf cf) f dk x y z) w':=fun f dk W x y z h1 h2 h3 h4 h5 h6=>by
  have:=z2kj enc cf g cb blk off cap d0 w0 eg HC.out R (by omega) f dk W x y z (by omega) h2 h3 h4 (by omega) h6;rwa[h1]at this
 have HI:=Lib.hid hins;have HS:=Lib.hid hsym;clear hins hsym;obtain⟨n,hn⟩:∃n,n=d.size:=⟨_,rfl⟩;rw[←hn]at HI HS hsz ⊢;have HN:=Lib.hid hn;clear hn
 go_enter Tryz.func191,Tryz.ntmps191
 go_wp2_with fail
 go_loopg [7,8] n (fun kx s7 s8 wr=>∃(a b:Nat)(dk:Array α),s7=.int .i64 a∧s8=.int .i64 b∧Hid (b=a+20)∧a≤n∧n- a≤kx∧dk.size=d.size∧Aside (SX enc w0 blk off dk wr)∧Hid (stB (ltOf cf) dk a n 20=stB (ltOf cf) d 0 n 20))
 case atStart=>exact⟨0,20,d,by go_num,by go_num,rfl,ya _,by omega,rfl,S0,rfl⟩
 case round=>
  clear S0;obtain⟨a,b,dk,rfl,rfl,HB,han,hkx,hds,S1,HQ⟩:=hrel;by_cases hle:b≤n
  ·have hlez:(b:Int)≤(n:Int):=by omega
   go_wp2_with (first
    |(go_at_call 226;refine(HI.out _ _ _ _ (hds.trans HN.out.symm) S1.out (by have:=HB.out;omega) hle).mono ?_;rintro e1 w1 ⟨rfl,T⟩;have S1:=Lib.hid T;clear T)
    |fail)
   have hb:=HB.out
   go_roundg (n- b)
   case measure=>omega
   case rel=>
    refine⟨b,b+20,_,rfl,by go_num,rfl,hle,y6 _,by rw[z21o];exact hds,S1.out,?_⟩;show _=_;rw[←HQ.out];conv=>rhs;rw[stB,dif_pos ⟨by omega,by omega⟩]
    rw[hb]
  ·have hlez:¬(b:Int)≤(n:Int):=by omega
   have hb:=HB.out;have hq:stB (ltOf cf) d 0 n 20=Sort.insertionSort (ltOf cf) dk a n:=by rw[←HQ.out,stB,dif_neg (by omega)]
   have HQ2:=Lib.hid hq;clear hb hq
   go_wp2_with (first
    |(go_at_call 226;refine(HI.out _ _ _ _ (hds.trans HN.out.symm) S1.out han (y6 _)).mono ?_;rintro e1 w1 ⟨rfl,T⟩;have S1:=Lib.hid T;clear T)
    |fail)
   have hd1:(Sort.insertionSort (ltOf cf) dk a n).size=d.size:=by rw[z21o];exact hds
   rw[←HQ2.out]at hd1;have S2:Aside (SX enc w0 blk off (stB (ltOf cf) d 0 n 20) w1):=by rw[HQ2.out];exact S1.out
   clear HQ2 HQ S1 hds;have hR:Hid (stR (ltOf cf) (stB (ltOf cf) d 0 n 20) n 20=stF (ltOf cf) d n):=rfl;generalize stB (ltOf cf) d 0 n 20=d1 at hd1 S2 hR
   go_loopg [6,7,8,9] n (fun kx s6 s7 s8 s9 wr=>∃(bs:Nat)(dk:Array α),s6=.int .i64 bs∧0<bs∧bs≤2*n+20∧n- bs≤kx∧dk.size=d.size∧Aside (SX enc w0 blk off dk wr)∧Hid (stR (ltOf cf) dk n bs=stF (ltOf cf) d n))
   case atStart=>exact⟨20,d1,by go_num,by omega,by omega,by omega,hd1,S2,hR⟩
   case round=>
    clear S2 hR hd1;obtain⟨bs,dk,rfl,hb0,hb2,hkx,hds,S1,HQ⟩:=hrel;by_cases c:bs<n
    ·have cz:(bs:Int)<(n:Int):=by omega
     go_wp2_with fail
     go_loopg [7,8] n (fun ky s7 s8 wr=>∃(a b:Nat)(dj:Array α),s7=.int .i64 a∧s8=.int .i64 b∧Hid (b=a+2*bs)∧a≤n∧n- a≤ky∧dj.size=d.size∧Aside (SX enc w0 blk off dj wr)∧Hid (stM (ltOf cf) dj a n bs=stM (ltOf cf) dk 0 n bs))
     case atStart=>exact⟨0,2*bs,dk,by go_num,by go_num,(show Hid _ from(by omega:2*bs=0+2*bs)),ya _,by omega,hds,S1,rfl⟩
     case round=>
      clear S1;obtain⟨a,b,dj,rfl,rfl,HB,han,hky,hdj,S1,HM⟩:=hrel;obtain⟨mm,hmm⟩:∃q,q=a+bs:=⟨_,rfl⟩;have hmz:(a:Int)+(bs:Int)=(mm:Int):=by omega
      have HMM:=Lib.hid hmm;clear hmm;by_cases hle:b≤n
      ·have hlez:(b:Int)≤(n:Int):=by omega
       go_wp2_with (first
        |(go_at_call 227;refine(HS.out (2*bs) _ _ _ _ _ (hdj.trans HN.out.symm) S1.out (by have:=HMM.out;omega) (by have:=HMM.out;have:=HB.out;omega) hle (by have:=HB.out;omega)).mono ?_;rintro e1 w1 ⟨rfl,T⟩;have S1:=Lib.hid T;clear T)
        |fail)
       have hb:=HB.out;have hm:=HMM.out
       go_roundg (n- b)
       case measure=>omega
       case rel=>
        refine⟨b,b+2*bs,_,rfl,by go_num,rfl,hle,y6 _,by rw[zk2];exact hdj,S1.out,?_⟩;show _=_;rw[←HM.out];conv=>rhs;rw[stM,dif_pos ⟨by omega,by omega⟩]
        rw[hb,hm]
      ·have hlez:¬(b:Int)≤(n:Int):=by omega
       have hb:=HB.out;have hm:=HMM.out;have hq:stM (ltOf cf) dk 0 n bs=if mm<n then symF (ltOf cf) (n- a) dj a mm n else dj:=by rw[←HM.out,stM,dif_neg (by omega),hm]
       have hq2:stR (ltOf cf) (stM (ltOf cf) dk 0 n bs) n (2*bs)=stF (ltOf cf) d n:=by rw[←HQ.out];conv=>rhs;rw[stR,dif_pos ⟨by omega,by omega⟩]
       have hma:a<mm:=by omega
       have HQ1:=Lib.hid hq;have HQ2:=Lib.hid hq2;have hsz1:(stM (ltOf cf) dk 0 n bs).size=d.size:=by rw[z2g1 _ _ _ _ _ _ (y6 _)];exact hds
       clear hb hm hq hq2;by_cases c3:mm<n
       ·have c3z:(mm:Int)<(n:Int):=by omega
        go_wp2_with (first
         |(go_at_call 227;refine(HS.out (n- a) _ _ _ _ _ (hdj.trans HN.out.symm) S1.out hma c3 (y6 _) (y6 _)).mono ?_;rintro e1 w1 ⟨rfl,T⟩;have S1:=Lib.hid T;clear T)
         |fail)
        have hS:Aside (SX enc w0 blk off (stM (ltOf cf) dk 0 n bs) w1):=by rw[HQ1.out,if_pos c3];exact S1.out
        go_roundg (n- 2*bs)
        case measure=>omega
        case rel=>exact⟨2*bs,_,by go_num,by omega,by omega,y6 _,hsz1,hS,HQ2.out⟩
       ·have c3z:¬(mm:Int)<(n:Int):=by omega
        go_wp2_with fail
        have hS:Aside (SX enc w0 blk off (stM (ltOf cf) dk 0 n bs) wr):=by rw[HQ1.out,if_neg c3];exact S1.out
        go_roundg (n- 2*bs)
        case measure=>omega
        case rel=>exact⟨2*bs,_,by go_num,by omega,by omega,y6 _,hsz1,hS,HQ2.out⟩
    ·have cz:¬(bs:Int)<(n:Int):=by omega
     have hq:dk=stF (ltOf cf) d n:=by rw[←HQ.out,stR,dif_neg (by omega)]
     have HQ1:=Lib.hid hq;clear hq
     go_wp2_with fail
     go_end0
     exact⟨rfl,by rw[←HQ1.out];exact S1.out⟩
end
end B
namespace B
open Go Go.RowKit Go.Shelf Go.Sort
set_option maxRecDepth 1000000
set_option linter.unusedVariables false
structure PutR(w w':World)(b off:Nat)(us:List Value):Prop where
 os:w'.os=w.os
 tape:w'.tape=w.tape
 output:w'.output=w.output
 size:w.heap.size≤w'.heap.size
 block:∀k,k<w.heap.size→k≠b→w'.heap[k]?=w.heap[k]?
 cell:∀(i:Nat) v,us[i]?=some v→w'.cell? ⟨b,off+i,none⟩=some v
 other:∀p:Addr,p.block<w.heap.size→(p.off<off∨off+us.length≤p.off∨p.block≠b)→w'.cell? p=w.cell? p
 frozen:∀p:Addr,p.block<w.heap.size→stuck w' p=stuck w p
theorem z12h(w:World)(os:Array Obj){k:Nat}(h:k<w.heap.size):(grow w os).heap[k]?=w.heap[k]?:=by
 unfold grow;exact y3p h
theorem z1uk(w:World)(os:Array Obj){p:Addr}(h:p.block<w.heap.size):(grow w os).cell? p=w.cell? p:=by
 unfold World.cell?;rw[z12h w os h]
theorem z1rd(w:World)(blk:Nat)(f:Array Value→Array Value)(hf:∀c,(f c).size=c.size)(p:Addr):stuck (mapBlock w blk f) p=stuck w p:=by
 have h1:∀a,(mapBlock w blk f).frozen? a=w.frozen? a:=fun a=>frozen?_mapBlock w blk f a;have h2:(mapBlock w blk f).shape? p.block=w.shape? p.block:=by
  simp only[mapBlock,World.shape?,y3s];by_cases hk:blk=p.block
  ·simp only[hk,if_true];cases w.heap[p.block]? with
   |none=>rfl
   |some o=>cases o<;>simp[onCells,hf]
  ·simp[hk]
 unfold stuck;rw[h1,h2];simp only[h1]
theorem z26m{α:Type}[Inhabited α]{enc:α→Value}{w:World}{b off n:Nat}{os:Array Obj}{d0 d:Array α}(hb:b<w.heap.size)(hH:Holds enc w b off d0)(hs:d.size=d0.size):
  PutR w (grow (putRow enc (Sort.ahead w n) b off d) os) b off (d.toList.map enc):=by
 have hsz:(putRow enc (Sort.ahead w n) b off d).heap.size=w.heap.size:=by rw[size_putRow];rfl
 refine⟨rfl,rfl,rfl,?_,fun k hk hne=>?_,fun i v hv=>?_,fun p hp ho=>?_,fun p hp=>?_⟩
 ·rw[size_grow,hsz];omega
 ·rw[z12h _ _ (by rw[hsz];exact hk)];unfold putRow mapBlock Sort.ahead;simp only[y3s,if_neg (Ne.symm hne)]
 ·rw[z1uk _ _ (by rw[hsz];exact hb)];rw[y13]at hv;have hi:i<d.size:=by
   rcases yj i d.size with g|g
   ·exact g
   ·rw[y4t (by simpa using g)]at hv;simp at hv
  have hH':Holds enc (Sort.ahead w n) b off d0:=hH;rw[cell?_putRow enc (Sort.ahead w n) b off d0 d hH' hs i hi];rw[y9 (by simpa using hi)]at hv;rw[getElem!_pos d i hi];simpa using hv
 ·rw[z1uk _ _ (by rw[hsz];exact hp)];rw[cell?_putRow_other enc (Sort.ahead w n) b off d p (by simp only[yq,y1l]at ho;omega)];rfl
 ·rw[z10r (z12h _ _ (by rw[hsz];exact hp))];exact z1rd (Sort.ahead w n) b _ (fun c=>by unfold putCells;simp) p
theorem FExt.put{fr:Fr}{w':World}{b off:Nat}{us:List Value}(hst:PutR fr.w0 w' b off us)(ho:∀(i:Nat),i<us.length→fr.own b (off+i))(hne:0<us.length)(hld:Laid fr.w0)(hnl:∀b o,LB b=true→¬fr.own b o):FExt fr w':=by
 refine⟨hst.os,hst.tape,hst.output,hst.size,fun k hk hn=>?_,fun b' o hk hn=>?_,fun b' o hk hn=>hst.frozen _ hk,hld.on hst.size (fun k hl=>hst.block k (hld.lt k hl) fun e=>hnl k (off+0) hl (e▸ho 0 hne)),fun b hl=>hld.lt b hl,hnl⟩
 ·by_cases e:k=b
  ·subst e;exact(hn _ (ho 0 hne)).elim
  ·exact hst.block k hk e
 ·refine hst.other _ hk ?_;by_cases e:b'=b
  ·subst e;by_cases h1:o<off
   ·exact .inl h1
   ·by_cases h2:off+us.length≤o
    ·exact .inr (.inl h2)
    ·have h3:=ho (o- off) (by omega);rw[show off+(o- off)=o from by omega]at h3;exact(hn h3).elim
  ·exact .inr (.inr e)
theorem ObRel.put{g:G}{w w':World}{k ver:Nat}{live:Bool}{τ:Ty}(h1:sz τ=1){xs ys:List (Den τ)}{b off cap:Nat}{us:List Value}(htk:g.tk k=(some ⟨b,off,none⟩,cap))(hb:b<w.heap.size)(hown:∀b o x,g.ω b o=some x→b<w.heap.size)
  (hO:ObAt En g w k ⟨ver,τ,xs,some 0,live⟩ b off cap (fun i j=>(w.cell? ⟨b,off+i*sz τ+j,none⟩).getD undef))
  (hst:PutR w w' b off us)(hul:us.length=xs.length)(hyl:ys.length≤us.length)(hcap:xs.length≤cap)(hbig:xs.length≤9223372036854775807)
  (hrel:∀i(hi:i<ys.length) d,(enc τ ys[i])[0]?=some d→∃u,us[i]?=some u∧VRel En g.St w u d):
  ObRel En g w' k ⟨ver,τ,ys,some 0,live⟩∧Keeps g.St w g.St w':=by
 have hmine:∀i,i<us.length→g.ω b (off+i)=some (.obj k)∧stuck w ⟨b,off+i,none⟩=false:=by
  intro i hi;have:=(hO.cell i 0 (by show i<xs.length;omega) (by show 0<sz τ;omega)).2;have e:off+i*Un.sz τ+0=off+i:=by show off+i*sz τ+0=_;rw[h1];omega
  rw[e]at this;exact this.2 (ya _)
 have hk:Keeps g.St w g.St w':=fun b' o hs=>⟨hs,hst.other ⟨b',o,none⟩ (hown _ _ _ hs) (by
  by_cases e:b'=b
  ·subst e;by_cases h2:o<off
   ·exact .inl h2
   ·by_cases h3:off+us.length≤o
    ·exact .inr (.inl h3)
    ·have:=(hmine (o- off) (by omega)).1;rw[show off+(o- off)=o by omega]at this;have hs':g.ω b' o=some .st:=hs;rw[this]at hs';simp at hs'
  ·exact .inr (.inr e))⟩
 refine⟨⟨⟨⟨by rw[htk];show ys.length≤cap;omega,by show ys.length≤_;omega⟩,fun f hf=>by simp at hf;subst hf;exact ya _⟩,fun _=>⟨b,off,fun i j=>us.getD i undef,by rw[htk],⟨?_,?_,?_⟩⟩⟩,hk⟩
 ·intro i j hi hj;have hi':i<ys.length:=hi;have hj':j<sz τ:=hj;obtain rfl:j=0:=by omega
  have e0:off+i*Un.sz τ+0=off+i:=by show off+i*sz τ+0=_;rw[h1];omega
  show w'.cell? ⟨b,off+i*Un.sz τ+0,none⟩=_∧Mode g w' k (some 0) i b (off+i*Un.sz τ+0);rw[e0];refine⟨?_,fun h=>absurd h (y18 _),fun _=>⟨(hmine i (by omega)).1,by rw[hst.frozen _ hb];exact(hmine i (by omega)).2⟩⟩;rw[yd,y9 (by omega)];exact hst.cell _ _ (y9 (by omega))
 ·intro i hi j d hd;have hj:j<sz τ:=by have h0:=(yl.1 hd).1;have:=zfz τ (ys[i]'hi);exact this▸h0
  obtain rfl:j=0:=by omega
  obtain⟨u,h2,h3⟩:=hrel i hi d hd;show VRel En g.St w' (us.getD i undef) d;rw[yd,h2];exact h3.mono hk
 ·intro hl x hx hx';rw[htk]at hx';have hx1:ys.length*sz τ≤x:=hx;have hx2:x<cap*sz τ:=hx';rw[h1]at hx1 hx2;rcases yj x us.length with g1|g1
  ·exact⟨(hmine x g1).1,⟨us[x],hst.cell _ _ (y9 g1)⟩,by rw[hst.frozen _ hb];exact(hmine x g1).2⟩
  ·obtain⟨m1,⟨v,m2⟩,m3⟩:=hO.spare hl x (by show xs.length*sz τ≤x;rw[h1];omega) (by show x<cap*sz τ;rw[h1];omega);exact⟨m1,⟨v,by rw[hst.other ⟨b,off+x,none⟩ hb (.inr (.inl (by show off+us.length≤off+x;omega)))];exact m2⟩,by rw[hst.frozen _ hb];exact m3⟩
theorem ObRel.open1{g:G}{w:World}{k ver:Nat}{live:Bool}{τ:Ty}{xs:List (Den τ)}(h:ObRel En g w k ⟨ver,τ,xs,some 0,live⟩)(hne:xs≠[]):
  ∃b off,g.tk k=(some ⟨b,off,none⟩,(g.tk k).2)∧xs.length≤(g.tk k).2∧ObAt En g w k ⟨ver,τ,xs,some 0,live⟩ b off (g.tk k).2 (fun i j=>(w.cell? ⟨b,off+i*sz τ+j,none⟩).getD undef):=by
 obtain⟨⟨⟨hcap,hmax⟩,_⟩,hrow⟩:=h;have hpos:0<xs.length:=y2n.2 hne;have hc:xs.length≤(g.tk k).2:=hcap;obtain⟨b,off,cv,hbase,hA⟩:=hrow (by omega);have hcv:∀i j,i<xs.length→j<sz τ→(w.cell? ⟨b,off+i*sz τ+j,none⟩).getD undef=cv i j:=fun i j hi hj=>by
  have:=(hA.cell i j hi hj).1;have e:w.cell? ⟨b,off+i*sz τ+j,none⟩=some (cv i j):=this;rw[e];rfl
 refine⟨b,off,by rw[←hbase],hc,⟨fun i j hi hj=>?_,fun i hi j d hd=>?_,hA.spare⟩⟩
 ·have:=hA.cell i j hi hj;rw[hcv i j hi hj];exact this
 ·have hj:j<sz τ:=by have h0:=(yl.1 hd).1;have:=zfz τ (xs[i]'hi);exact this▸h0
  rw[hcv i j hi hj];exact hA.rel i hi j d hd
theorem z2dg{St:Nat→Nat→Prop}{w:World}{v x:Value}(h:VRel En St w v (.s x)):v=x∧oneC x=true:=by cases h with|s _ h=>exact⟨rfl,h⟩
theorem ObAt.holds{g:G}{w:World}{k ver:Nat}{live:Bool}{xs:List Int}{b off cap:Nat}{cv:Nat→Nat→Value}(hA:ObAt En g w k ⟨ver,.int,xs,some 0,live⟩ b off cap cv):
  Holds (Value.int .i64) w b off xs.toArray∧∀x∈xs,oneC (.int .i64 x)=true:=by
 have key:∀i(hi:i<xs.length),cv i 0=.int .i64 xs[i]∧oneC (.int .i64 xs[i])=true:=fun i hi=>by
  have:=hA.rel i hi 0 (.s (.int .i64 xs[i])) rfl;exact z2dg this
 refine⟨fun j hj=>?_,fun x hx=>?_⟩
 ·have hj':j<xs.length:=by simpa using hj
  have hc:=hA.cell j 0 hj' (show(0:Nat)<1 from Nat.one_pos);have e:off+j*Un.sz .int+0=off+j:=by show off+j*1+0=_;omega
  rw[e]at hc;refine⟨?_,zmm (hc.2.2 (ya _)).2⟩;rw[hc.1,(key j hj').1,getElem!_pos _ j hj];simp
 ·obtain⟨i,hi,rfl⟩:=y46 hx;exact(key i hi).2
end B
namespace B
open Go Go.RowKit Go.Shelf Go.Lib Go.Sort
set_option maxRecDepth 1000000
set_option linter.unusedVariables false
noncomputable section
section
variable {α:Type} [Inhabited α]
set_option maxHeartbeats 4000000 in
theorem z2kl(enc:α→Value)(cf:α→α→Int)(g:Nat)(cb:Array Value)(blk off cap:Nat)(d0 d:Array α)(w0 w:World)
  (eg:∀args w,(callFunc g args).run Tryz.prog w=.ok (.enter g args) w)(hcmp:CmpX Tryz.prog g cb enc cf blk off d0.size w0)
  (R:Row1 enc w0 blk off d0)(hs:d0.size=d.size)(S:SX enc w0 blk off d w)(hsz:d.size<1152921504606846976):
  Calls Tryz.prog 145 #[.slice (some ⟨blk,off,none⟩) d.size cap,.func (.func g) #[] cb] w fun e w'=>e=.returned (.tuple #[])∧SX enc w0 blk off (stF (ltOf cf) d d.size) w':=by
 have H:=Lib.hid (z2g2 enc cf g cb blk off cap d0 d w0 w eg hcmp R hs S hsz);clear S hcmp;obtain⟨n,hn⟩:∃n,n=d.size:=⟨_,rfl⟩;rw[←hn]at H hsz ⊢;clear hn
 go_enter Tryz.func145,Tryz.ntmps145
 go_wp2_with (first
  |(go_at_call 191;refine H.out.mono ?_;rintro e1 w1 ⟨rfl,T⟩;have S1:=Lib.hid T;clear T)
  |fail)
 go_end0
 exact⟨rfl,S1.out⟩
end
theorem z2i6(p:Option Addr)(cap g:Nat)(cb:Array Value)(w:World):Calls Tryz.prog 226 #[.slice p 0 cap,.int .i64 0,.int .i64 0,.func (.func g) #[] cb] w fun e w'=>e=.returned (.tuple #[])∧w'=w:=by
 go_enter Tryz.func226,Tryz.ntmps226
 go_wp2_with fail
 go_loopg [8] 0 (fun kx s8 wr=>s8=.int .i64 1∧wr=w)
 case atStart=>exact⟨by go_num,rfl⟩
 case round=>
  obtain⟨rfl,rfl⟩:=hrel
  go_wp2_with fail
  go_end0
  exact⟨rfl,rfl⟩
theorem z29s(p:Option Addr)(cap g:Nat)(cb:Array Value)(w:World):Calls Tryz.prog 191 #[.slice p 0 cap,.int .i64 0,.func (.func g) #[] cb] w fun e w'=>e=.returned (.tuple #[])∧w'=w:=by
 go_enter Tryz.func191,Tryz.ntmps191
 go_wp2_with fail
 go_loopg [7,8] 0 (fun kx s7 s8 wr=>s7=.int .i64 0∧s8=.int .i64 20∧wr=w)
 case atStart=>exact⟨by go_num,by go_num,rfl⟩
 case round=>
  obtain⟨rfl,rfl,rfl⟩:=hrel
  go_wp2_with (first
   |(go_at_call 226;refine(z2i6 _ _ _ _ _).mono ?_;rintro e1 w1 ⟨rfl,rfl⟩)
   |fail)
  go_loopg [6,7,8,9] 0 (fun kx s6 s7 s8 s9 wr=>s6=.int .i64 20∧wr=w1)
  case atStart=>exact⟨by go_num,rfl⟩
  case round=>
   obtain⟨rfl,rfl⟩:=hrel
   go_wp2_with fail
   go_end0
   exact⟨rfl,rfl⟩
theorem z2i7(p:Option Addr)(cap g:Nat)(cb:Array Value)(w:World):Calls Tryz.prog 145 #[.slice p 0 cap,.func (.func g) #[] cb] w fun e w'=>e=.returned (.tuple #[])∧w'=w:=by
 go_enter Tryz.func145,Tryz.ntmps145
 go_wp2_with (first
  |(go_at_call 191;refine(z29s _ _ _ _ _).mono ?_;rintro e1 w1 ⟨rfl,rfl⟩)
  |fail)
 go_end0
 exact⟨rfl,rfl⟩
theorem z26n{α:Type}[Inhabited α]{enc:α→Value}{w W:World}{b off:Nat}{d0 d:Array α}(hb:b<w.heap.size)(hH:Holds enc w b off d0)(hs:d.size=d0.size)(h:SX enc w b off d W):PutR w W b off (d.toList.map enc):=by
 have q:=z26m (n:=0) (os:=#[]) hb hH hs;rw[grow_empty]at q;have q:PutR w (putRow enc w b off d) b off (d.toList.map enc):=q;refine⟨h.os.trans q.os,h.tape.trans q.tape,h.output.trans q.output,h.le,fun k hk hne=>(h.block k hk).trans (q.block k hk hne),fun i v hv=>?_,fun p hp ho=>?_,fun p hp=>?_⟩
 ·exact(Below.cell h hb).trans (q.cell i v hv)
 ·exact(Below.cell h hp).trans (q.other p hp ho)
 ·exact(z10r (h.block p.block hp)).trans (q.frozen p hp)
theorem z2dh{w w':World}(h:Ext w w'):Below w.heap.size w w':=⟨h.os,h.tape,h.output,h.size,fun k hk=>h.block hk⟩
theorem z2g3{α β:Type}(f:α→β)(le:β→β→Bool)(l:List α)(x:α):(insS (fun a b=>le (f a) (f b)) l x).map f=insS le (l.map f) (f x):=by
 unfold insS;rw[y3d,yr,List.takeWhile_map,List.dropWhile_map];rfl
theorem z2di{α β:Type}(f:α→β)(le:β→β→Bool)(l:List α):(z2a (fun a b=>le (f a) (f b)) l).map f=z2a le (l.map f):=by
 have key:∀(l s:List α),(l.foldl (insS fun a b=>le (f a) (f b)) s).map f=(l.map f).foldl (insS le) (s.map f):=by
  intro l
  induction l with
  |nil=>intro s;rfl
  |cons x l ih=>intro s;rw[yu,yr,yu,ih,z2g3]
 exact key l []
theorem z2i8{St:Nat→Nat→Prop}{w:World}{v:Value}{τ:Ty}{xs:List (Den τ)}(h:VRel En St w v (.dat (U:=Un) τ xs)):∃a n c,v=.slice a n c:=by
 rcases h.inv with⟨_,a,c,rfl⟩|⟨b,o,c,cv,rfl,_⟩
 ·exact⟨_,_,_,rfl⟩
 ·exact⟨_,_,_,rfl⟩
theorem z2jm{β:Type}(xs:List β):((List.finRange xs.length).map fun i=>xs[i.1]'i.2)=xs:=by
 apply List.ext_getElem
 ·simp
 ·intro i h1 h2;simp
def leP{β:Type}(p:β→β→Int)(a b:β):Bool:=!decide (p b a<0)
def zm7:FnU Un:=fun τ xs args=>match τ,xs,args with
 | .row,xs,[x1]=>(dF x1).bind fun φ=>some ([xs.length≤1000000000,φ=z13 (z2k φ) (z1w φ),(∀x∈xs,∀y∈xs,z2k φ x y),Pre (leP (z1w φ))],z2a (leP (z1w φ)) xs)
 |_,_,_=>none
theorem z1re:UpOK 145 zm7:=by
  intro τ xs ds ob ys h hob;unfold zm7 at h;split at h
  · rename_i xs x1;simp only[y7,y8,ym]at h;obtain⟨φ,e1,rfl,rfl⟩:=h;obtain rfl:=znm e1;have hlen:xs.length≤1000000000:=hob _ (by simp);have hφ:φ=z13 (z2k φ) (z1w φ):=hob _ (by simp);have ho:∀x∈xs,∀y∈xs,z2k φ x y:=hob _ (by simp);have hP:Pre (leP (z1w φ)):=hob _ (by simp);generalize z2k φ=o at hφ ho;generalize z1w φ=p at hφ hP ⊢;refine⟨fun w g k ver live vs hO hown hvs hld hnl=>?_,zj Tryz.func145 (by kernel_rfl) (by kernel_rfl)⟩
    match vs,hvs with
    |[v1],⟨hv,_⟩=>
      obtain⟨f,caps,rfl,hbody,hg⟩:=hv;have hsl:(z2a (leP p) xs).length=xs.length:=z6z hP xs;by_cases hne:xs=[]
      · subst hne;refine(z2i7 (g.tk k).1 (g.tk k).2 f caps w).mono ?_;rintro e w' ⟨rfl,rfl⟩;exact⟨rfl,hsl,⟨rfl,rfl,rfl,y6 _,fun _ _ _=>rfl,fun _ _ _ _=>rfl,fun _ _ _ _=>rfl,hld,fun b hl=>hld.lt b hl,hnl⟩,hO⟩
      · obtain⟨b,off,htk,hcap,hA⟩:=hO.open1 hne;have hpos:0<xs.length:=y2n.2 hne;have hb:b<w.heap.size:=z6e (hA.cell 0 0 hpos (show(0:Nat)<1 from Nat.one_pos)).1;have h0:(g.tk k).1=some ⟨b,off,none⟩:=by rw[htk]
        rw[h0];have hcl:∀i,i<xs.length→w.cell? ⟨b,off+i,none⟩=some ((w.cell? ⟨b,off+i,none⟩).getD undef)∧w.frozen? ⟨b,off+i,none⟩=false∧VRel En g.St w ((w.cell? ⟨b,off+i,none⟩).getD undef) (.dat (U:=Un) Ty.val (xs.getD i [])):=fun i hi=>by
          have hc:=hA.cell i 0 hi (show(0:Nat)<1 from Nat.one_pos);have hr:=hA.rel i hi 0 (.dat (U:=Un) Ty.val xs[i]) rfl;have e:off+i*Un.sz Ty.row+0=off+i:=by show off+i*1+0=off+i;omega
          rw[e]at hc hr;have hm:=hc.2.2 (ya _);refine⟨hc.1,?_,?_⟩
          · exact zmm hm.2
          · rw[yd,y9 hi];exact hr
        haveI:Inhabited (Fin xs.length):=⟨⟨0,hpos⟩⟩
        let enc:Fin xs.length→Value:=fun i=>(w.cell? ⟨b,off+i.1,none⟩).getD undef;let cf:Fin xs.length→Fin xs.length→Int:=fun i j=>p (xs.getD i.1 []) (xs.getD j.1 []);let d:Array (Fin xs.length):=(List.finRange xs.length).toArray;have hds:d.size=xs.length:=by simp[d]
        have hdj:∀j(hj:j<xs.length),d[j]! =⟨j,hj⟩:=fun j hj=>by
          rw[getElem!_pos d j (by omega)];simp[d]
        have hH:Holds enc w b off d:=fun j hj=>by
          rw[hds]at hj;rw[hdj j hj];exact⟨(hcl j hj).1,(hcl j hj).2.1⟩
        have h1c:OneCell enc:=fun x=>by obtain⟨a,n,c,e⟩:=z2i8 (hcl x.1 x.2).2.2;show(enc x).oneCell'=true;rw[show enc x=.slice a n c from e];rfl
        have R:Row1 enc w b off d:=⟨h1c,hH,hb⟩;have S0:SX enc w b off d w:=by unfold SX;rw[putRow_self enc w b off d hH];exact Below.refl _ _
        have hbnd:∀b o,g.St b o→b<w.heap.size:=fun b o h=>hown b o _ h;have hcmp:CmpX Tryz.prog f caps enc cf b off d.size w:=fun W dk hsz hW x y=>by
          have hpr:=z26n hb hH hsz hW;have hdl:(dk.toList.map enc).length=xs.length:=by rw[yq,y1l,hsz,hds]
          have hk:Keeps g.St w g.St W:=fun b' o hs=>⟨hs,hpr.other _ (hbnd b' o hs) (by
            by_cases e1:b'=b
            · subst e1;by_cases e2:o<off
              · exact .inl e2
              · by_cases e3:off+xs.length≤o
                · right;left;rw[hdl];exact e3
                · exfalso;have hc:=(hA.cell (o- off) 0 (show o- off<xs.length by omega) (show(0:Nat)<1 from Nat.one_pos)).2.2 (ya _);have e:off+(o- off)*Un.sz Ty.row+0=o:=by show off+(o- off)*1+0=o;omega
                  rw[e]at hc;have h9:g.ω b' o=some .st:=hs;rw[h9]at hc;simp at hc
            · exact .inr (.inr e1))⟩
          have hldW:Laid W:=hld.on hW.le fun k hl=>hpr.block k (hld.lt k hl) fun e=>hnl k (off+0) hl (by
            have hc:=(hA.cell 0 0 hpos (show(0:Nat)<1 from Nat.one_pos)).2.2 (ya _)
            rw[e];simpa using hc.1)
          have hvx:=(hcl x.1 x.2).2.2.mono hk;have hvy:=(hcl y.1 y.2).2.2.mono hk;have hm:∀i:Fin xs.length,xs.getD i.1 []∈xs:=fun i=>by rw[yd,y9 i.2];exact y21 _
          refine(hg g.St W hk (fun b' o hs=>yn (hbnd b' o hs) hW.le) hldW [.v (.dat (U:=Un) Ty.val (xs.getD x.1 [])),.v (.dat (U:=Un) Ty.val (xs.getD y.1 []))] [o (xs.getD x.1 []) (xs.getD y.1 [])] [.v (.s (.int .i64 (cf x y)))]
            (by rw[hφ];unfold z13;simp only[z1iw,yh];rfl) (fun q hq=>by rw[yi.1 hq];exact ho _ (hm x) _ (hm y)) [enc x,enc y] ⟨hvx,hvy,trivial⟩).mono ?_
          rintro e w' ⟨v,rfl,⟨hx,St',-,-,hr⟩,-⟩;exact⟨by rw[show v=.int .i64 (cf x y)from(z2dg hr).1],z2dh hx⟩
        have eg:∀args W,(callFunc f args).run Tryz.prog W=.ok (.enter f args) W:=fun args W=>by
          obtain⟨fn,c,q1,q2,q3⟩:=hbody;have hn:fn.name≠ "runtime.NumGoroutine" :=by simpa using q3
          simp[callFunc,q1,q2,hn]
        have hle:∀x y:Fin xs.length,leP p (xs.getD x.1 []) (xs.getD y.1 [])=!ltOf cf y x:=fun x y=>rfl;have hPF:Pre fun x y:Fin xs.length=>leP p (xs.getD x.1 []) (xs.getD y.1 []):=⟨fun a b c=>hP.trans _ _ _,fun a b=>hP.total _ _⟩;have hst:=z2g0 hle hPF d;have hmap:=z2di (fun i:Fin xs.length=>xs.getD i.1 []) (leP p) (List.finRange xs.length);have hfm:((List.finRange xs.length).map fun i=>xs.getD i.1 [])=xs:=by
          have:=z2jm xs
          conv=>rhs;rw[←this]
          apply y3w;intro i _;rw[yd,y9 i.2];rfl
        rw[hfm]at hmap;have hss:(stF (ltOf cf) d d.size).size=d.size:=by rw[←y1l,hst,z6z hPF,y1l]
        have hw:=(z2kl enc cf f caps b off (g.tk k).2 d d w w eg hcmp R rfl S0 (by omega)).mono (fun e w' hq=>show e=.returned (.tuple #[])∧PutR w w' b off ((z2a (fun x y:Fin xs.length=>leP p (xs.getD x.1 []) (xs.getD y.1 [])) d.toList).map enc) by
          have hp:=z26n hb hH hss hq.2;rw[hst]at hp
          exact⟨hq.1,hp⟩)
        rw[hds]at hw;refine hw.mono ?_;rintro e w' ⟨rfl,hp⟩;have hul:((z2a (fun x y:Fin xs.length=>leP p (xs.getD x.1 []) (xs.getD y.1 [])) d.toList).map enc).length=xs.length:=by rw[yq,z6z hPF,y1l,hds]
        obtain⟨r1,_⟩:=ObRel.put (w':=w') (ys:=z2a (leP p) xs) (τ:=.row) rfl htk hb hown hA hp hul (by rw[hul,hsl];exact y6 _) hcap (by omega) (fun i hi dd hd=>by
          have hd':some (V.dat (U:=Un) Ty.val (z2a (leP p) xs)[i])=some dd:=hd;cases hd';have hi2:i<(z2a (fun x y:Fin xs.length=>leP p (xs.getD x.1 []) (xs.getD y.1 [])) d.toList).length:=by rw[yq]at hul;omega
          refine⟨enc (z2a (fun x y:Fin xs.length=>leP p (xs.getD x.1 []) (xs.getD y.1 [])) d.toList)[i],by rw[y13,y9 hi2];rfl,?_⟩;have h3:(z2a (leP p) xs)[i]?=some (xs.getD ((z2a (fun x y:Fin xs.length=>leP p (xs.getD x.1 []) (xs.getD y.1 [])) d.toList)[i]).1 []):=by
            rw[←hmap,y13];have:(List.finRange xs.length)=d.toList:=rfl;rw[this,y9 hi2];rfl
          rw[y9 hi]at h3;rw[yk h3]
          exact(hcl _ (Fin.isLt _)).2.2)
        refine⟨rfl,hsl,?_,r1⟩;refine FExt.put (fr:=⟨w,fun b i=>g.ω b i=some (.obj k),g.St,0,g.β⟩) hp (fun i hi=>?_) (by rw[hul];exact hpos) hld hnl;rw[hul]at hi;have hc:=(hA.cell i 0 hi (show(0:Nat)<1 from Nat.one_pos)).2.2 (ya _);have e:off+i*Un.sz Ty.row+0=off+i:=by show off+i*1+0=off+i;omega
        rw[e]at hc;exact hc.1
  · simp at h
end
end B
namespace B
open Go Go.RowKit
set_option linter.unusedVariables false
theorem z1ul:∀a b:List Val,ordR b a=- ordR a b
 |[],[]=>rfl
 |[],_::_=>rfl
 |_::_,[]=>rfl
 |a::l,b::r=>by
  simp only[ordR];have h:=zjy a b;by_cases e:ordV a b=0
  ·rw[if_pos e,if_pos (by omega)];exact z1ul l r
  ·rw[if_neg e,if_neg (by omega)];exact h
theorem z1ni:∀{a b c:List Val},ordR a b<0→ordR b c<0→ordR a c<0
 |[],[],_,h,_=>by simp[ordR]at h
 |[],_::_,[],_,h=>by simp[ordR]at h
 |[],_::_,_::_,_,_=>by simp[ordR]
 |_::_,[],_,h,_=>by simp[ordR]at h
 |_::_,_::_,[],_,h=>by simp[ordR]at h
 |a::l,b::r,c::t,h1,h2=>by
  simp only[ordR]at h1 h2 ⊢;by_cases e1:ordV a b=0
  ·rw[if_pos e1]at h1;rw[ordV_zero]at e1;subst e1;by_cases e2:ordV a c=0
   ·rw[if_pos e2]at h2 ⊢;exact z1ni h1 h2
   ·rw[if_neg e2]at h2 ⊢;exact h2
  ·rw[if_neg e1]at h1;by_cases e2:ordV b c=0
   ·rw[ordV_zero]at e2;subst e2;rw[if_neg e1];exact h1
   ·rw[if_neg e2]at h2;have:=zm1 h1 h2;rw[if_neg (by omega)];exact this
end B
namespace B
open Go Go.RowKit
set_option linter.unusedVariables false
theorem z1he(x y:Int): -1≤cmpI x y∧cmpI x y≤1:=by unfold cmpI;split<;>(try split)<;>omega
theorem z21p:∀(a b:List UInt8),-1≤cmpL a b∧cmpL a b≤1
 |[],[]=>by simp[cmpL]
 |[],_::_=>by simp[cmpL]
 |_::_,[]=>by simp[cmpL]
 |a::l,b::r=>by
  rw[cmpL];split
  ·exact z21p l r
  ·exact z1he _ _
theorem z2g4(a b:Val): -1≤ordV a b∧ordV a b≤1:=by
 unfold ordV;split
 ·split
  ·exact z21p _ _
  ·exact z1he _ _
 ·exact z1he _ _
theorem zwe(a b:List Val)(k:By):kc a b k=if k.down=true then- ordV (z16 a k.at_) (z16 b k.at_)else ordV (z16 a k.at_) (z16 b k.at_):=by
 have hb:=z2g4 (z16 a k.at_) (z16 b k.at_);unfold kc z3b;rw[IntWalk.i64_in _ (by omega),Int.zero_sub]
theorem z2i9(a b:List Val)(k:By):kc b a k=- kc a b k:=by
 rw[zwe,zwe,zjy (z16 a k.at_)];split<;>omega
theorem kc_zero{a b:List Val}{k:By}:kc a b k=0↔z16 a k.at_=z16 b k.at_:=by
 rw[zwe,←ordV_zero];split<;>omega
theorem z2g5{a b c:List Val}{k:By}(h1:kc a b k<0)(h2:kc b c k<0):kc a c k<0:=by
 rw[zwe]at h1 h2 ⊢;split at h1
 ·rename_i hd;rw[if_pos hd]at h2 ⊢;have e1:=zjy (z16 a k.at_) (z16 b k.at_);have e2:=zjy (z16 b k.at_) (z16 c k.at_);have e3:=zjy (z16 a k.at_) (z16 c k.at_);have:=zm1 (show ordV (z16 c k.at_) (z16 b k.at_)<0 by omega) (show ordV (z16 b k.at_) (z16 a k.at_)<0 by omega);omega
 ·rename_i hd;rw[if_neg hd]at h2 ⊢;exact zm1 h1 h2
theorem z2ia{a b c:List Val}{k:By}(h:kc a b k=0):kc a c k=kc b c k:=by
 rw[zwe,zwe,kc_zero.1 h]
theorem z2g6{a b c:List Val}{k:By}(h:kc b c k=0):kc a c k=kc a b k:=by
 rw[zwe,zwe,kc_zero.1 h]
theorem z21q(a b:List Val):ord1 a b []=ordR a b:=rfl
theorem zwf(a b:List Val)(k:By)(r:List By):ord1 a b (k::r)=if kc a b k=0 then ord1 a b r else kc a b k:=by
 show(if(kc a b k !=0)=true then kc a b k else ord1 a b r)=_;by_cases h:kc a b k=0
 ·rw[if_neg (by simp[h]),if_pos h]
 ·rw[if_pos (by simpa using h),if_neg h]
theorem z191(a b:List Val):∀keys:List By,ord1 b a keys=- ord1 a b keys
 |[]=>by rw[z21q,z21q];exact z1ul a b
 |k::r=>by
  rw[zwf,zwf,z2i9 a b,z191 a b r];by_cases h:kc a b k=0
  ·rw[if_pos h,if_pos (by omega)]
  ·rw[if_neg h,if_neg (by omega)]
theorem z1um{a b:List Val}:∀{keys:List By},ord1 a b keys=0→a=b
 |[],h=>ordR_zero.1 h
 |k::r,h=>by
  rw[zwf]at h;by_cases e:kc a b k=0
  ·rw[if_pos e]at h;exact z1um h
  ·rw[if_neg e]at h;exact absurd h e
theorem z1nj{a b c:List Val}:∀{keys:List By},ord1 a b keys<0→ord1 b c keys<0→ord1 a c keys<0
 |[],h1,h2=>z1ni h1 h2
 |k::r,h1,h2=>by
  rw[zwf]at h1 h2 ⊢;by_cases e1:kc a b k=0
  ·rw[if_pos e1]at h1;rw[z2ia e1];by_cases e2:kc b c k=0
   ·rw[if_pos e2]at h2 ⊢;exact z1nj h1 h2
   ·rw[if_neg e2]at h2 ⊢;exact h2
  ·rw[if_neg e1]at h1;by_cases e2:kc b c k=0
   ·rw[z2g6 e2,if_neg e1];exact h1
   ·rw[if_neg e2]at h2;have:=z2g5 h1 h2;rw[if_neg (by omega)];exact this
theorem z1hf(keys:List By):Pre (leP fun a b=>ord1 a b keys) where
 trans:=fun a b c h1 h2=>by
  have g1:¬ord1 b a keys<0:=by simpa[leP]using h1
  have g2:¬ord1 c b keys<0:=by simpa[leP]using h2
  have g3:¬ord1 c a keys<0:=by
   intro h;have e1:=z191 b a keys;by_cases e:ord1 b a keys=0
   ·have:=z1um e;subst this;exact g2 h
   ·exact g2 (z1nj h (show ord1 a b keys<0 by omega))
  simpa[leP]using g3
 total:=fun a b=>by
  have:=z191 a b keys;by_cases h:ord1 b a keys<0
  ·right;have g:¬ord1 a b keys<0:=by omega
   simpa[leP]using g
  ·left;simpa[leP]using h
end B
namespace B
open Go Go.RowKit
set_option maxRecDepth 100000
noncomputable section
attribute [local irreducible] awp ctxK zx z1f retQ z1l awf ctxF z1k
def zm8:Mc Un:=mcF_ [] [] [(146,z1nd)] [] [(145,zm7)]
def zwg(r:List (List Val)):List (A Un):=[.c (.ob 0 0)]
def zwh(r:List (List Val)):List (Bool×List (C Un)):=[]
def zwi(r:List (List Val)):List (Ob Un):=[⟨0,Ty.row,r,some 0,true⟩]
def zwj(r:List (List Val)):RGF Un:=(zwg r,zwh r,zwi r)
def zuk(l:List (List Val))(keys:List By):Option (RGF Un):=awf zm8 z23b (zk Tryz.f93) (z1hy Tryz.f93.ntmps 0 [.c (.ob 0 0),.c (.sl (U:=Un) Ty.by_ keys false)] [] [⟨0,Ty.row,l,(some 0),true⟩]) (z1x8 zm8 0 Tryz.f93.results.toList [.m])
theorem z1hg(l:List (List Val))(keys:List By):zuk l keys=obO (l.length≤(1000000000:Nat)) (obO ((z13 (fun a b=>True) fun a b=>ord1 a b keys)=z13 (z2k (z13 (fun a b=>True) fun a b=>ord1 a b keys)) (z1w (z13 (fun a b=>True) fun a b=>ord1 a b keys))) (obO (∀(x:Un.Den Ty.row),x∈l→∀(y:Un.Den Ty.row),y∈l→z2k (z13 (fun a b=>True) fun a b=>ord1 a b keys) x y) (obO (Pre (leP (z1w (z13 (fun a b=>True) fun a b=>ord1 a b keys)))) (some (zwj (z2a (leP (z1w (z13 (fun a b=>True) fun a b=>ord1 a b keys))) l)))))):=by kernel_rfl
def z4z(l:List (List Val))(keys:List By):List (List Val):=z2a (leP fun a b=>ord1 a b keys) l
theorem z192(l:List (List Val))(keys:List By)(_hl:WL .row l)(_hk:WL .by_ keys)(h:l.length≤100000000):zuk l keys=some (zwj (z4z l keys)):=by
 rw[z1hg];simp only[zqf,zqe];rw[z6 (by omega),z6 trivial,z6 (fun _ _ _ _=>trivial),z6 (z1hf keys)];rfl
def zm9:List Bool×FnG Un:=([true,false],fun args bxs os=>match args,bxs,os with
 |[.c (.ob 0 0),x1],[],[o0]=>(oM .row o0).bind fun l=>(aL .by_ x1).bind fun keys=>some ([l.length≤100000000],zwg (z4z l keys),zwh (z4z l keys),zwi (z4z l keys))
 |_,_,_=>none)
theorem z1bf:GnOK 93 zm9:=by
 intro args bxs os ob rs bxs' os' h hob;unfold zm9 at h;dsimp only at h;split at h
 ·rename_i x1 o0;simp only[y7,y8,ym]at h;obtain⟨l,e0,keys,e1,rfl,rfl,rfl,rfl⟩:=h;have q0:=z1x5 e0;obtain rfl:=z2h0 e1;refine⟨GContract.weak ?_,zj Tryz.func93 (by kernel_rfl) (by kernel_rfl)⟩;rw[q0];refine z237 (M:=zm8) rfl (nb:=0) rfl (z4o (l1:=[]) (l2:=[]) (l3:=[(146,z1nd)]) (l4:=[]) (l5:=[(145,zm7)]) trivial trivial ⟨z2fs,trivial⟩ trivial ⟨z1re,trivial⟩) Tryz.func93 (by kernel_rfl) z23b 0 [.m] (fun ha hb ho=>?_);have hsp:=z192 l keys (z2k8 (τ:=.row) (l:=l) (fr:=some 0) ho (by simp)) (z2j9 ha (a:=.c (.sl (U:=Un) Ty.by_ keys false)) (by simp)) (hob _ (ye (i:=0) rfl));exact z239 (r:=(_,_,_)) hsp
 ·simp at h
end
end B
namespace B
open Go Go.RowKit
set_option maxRecDepth 100000
noncomputable section
attribute [local irreducible] awp ctxK zx z1f retQ z1l awf ctxF z1k
def capQ{α:Type}(l:List α):Option (List α):=if l.length≤100000000 then some l else none
open Classical in
def chkQ{α:Type}(p:Prop)(o:Option α):Option α:=if p then o else none
theorem chkQ_some{α:Type}{p:Prop}{o:Option α}{x:α}:chkQ p o=some x↔p∧o=some x:=by
 simp[chkQ]
theorem zfr{α:Type}{p:Prop}{o:Option α}(h:p):chkQ p o=o:=by unfold chkQ;grind
def mapQ{α β:Type}(f:α→Option β):List α→Option (List β)
 |[]=>some []
 |x::l=>(f x).bind fun y=>(mapQ f l).bind fun s=>some (y::s)
def zdi{α:Type}(f:α→Option Bool):List α→Option (List α)
 |[]=>some []
 |x::l=>(f x).bind fun b=>(zdi f l).bind fun s=>some (if b=true then x::s else s)
def zwl(left:Bool)(none_:List Val)(f:List Val→Option Bool)(right:List (List Val)):List (List Val)→Option (List (List Val))
 |[]=>some []
 |a::l=>(zdi f (right.map (a++·))).bind fun u=>(if u.length=0∧left=true then(if(a++none_).length≤100000000 then some [a++none_]else none)else some u).bind fun u=>(zwl left none_ f right l).bind fun s=>some (u++s)
def z31(out:List Bunch)(key x:List Val):List Bunch:=match out.findIdx? (fun b=>z2n b.key key==0)with
 |some i=>out.set i ⟨(out.getD i zh).key,(out.getD i zh).rows++[x]⟩
 |none=>out++[⟨key,[x]⟩]
def bunQ(f:List Val→Option (List Val)):List (List Val)→List Bunch→Option (List Bunch)
 |[],out=>some out
 |x::l,out=>(f x).bind fun key=>bunQ f l (z31 out key x)
def setL(inter:Bool):List (List Val)→List (List Val)→List (List Val)
 |[],_=>[]
 |x::l,left=>(if decide (0≤zp left x)=inter then[x]else[])++setL inter l (if 0≤zp left x then left.eraseIdx (zp left x).toNat else left)
def setE(op:Int)(all:Bool)(a b:List (List Val)):List (List Val):=
 if op=9 then(if all=true then a else z1d a)else setL (decide (op=10)) (if all=true then a else z1d a) b
def z3h(l:List (List Val))(limit skip:Int):List (List Val):=
 if 0≤limit∧limit<((l.drop (min skip l.length).toNat).length:Int)then(l.drop (min skip l.length).toNat).take limit.toNat else l.drop (min skip l.length).toNat
abbrev Rows:Type:=List (List Val)
def filO(kid:Wld→Option Rows)(so:Wld→Option Bool)(w:Wld):Option Rows:=
 if w.env.length≤100000000 then(kid w).bind fun l=>zdi (fun x=>so (zf w x)) l else none
def zwm(kid:Wld→Option Rows)(ts:Wld→Option (List Val))(n:Nat)(w:Wld):Option Rows:=
 if w.env.length≤100000000∧n≤100000000 then(kid w).bind fun l=>mapQ (fun x=>ts (zf w x)) l else none
def z1ak(kid0 kid1:Wld→Option Rows)(so:Wld→Option Bool)(n cols:Nat)(left:Bool)(w:Wld):Option Rows:=
 if n<2 then some []else if w.env.length≤100000000∧cols≤100000000 then(kid1 w).bind fun right=>(kid0 w).bind fun l=>(zwl left (List.replicate cols z7) (fun x=>if x.length≤100000000 then so (zf w x)else none) right l).bind capQ else none
def bunO(ts:Wld→Option (List Val))(n:Nat)(w:Wld)(l:Rows):Option (List Bunch):=
 if w.env.length≤100000000∧n≤100000000∧l.length≤100000000 then bunQ (fun x=>ts (zf w x)) l (if n=0 then[⟨[],[]⟩]else[])else none
def grpO(kid:Wld→Option Rows)(ts:Wld→Option (List Val))(as_:Wld→Rows→Option (List Val))(n k:Nat)(w:Wld):Option Rows:=
 if k≤100000000 then(kid w).bind fun l=>(bunO ts n w l).bind fun bs=>(mapQ (fun b=>(as_ w b.rows).bind fun vs=>some (b.key++vs)) bs)else none
def setO(kid0 kid1:Wld→Option Rows)(op:Int)(all:Bool)(w:Wld):Option Rows:=
 (kid0 w).bind fun a=>(kid1 w).bind fun b=>(if op=9 then capQ (a++b)else some a).bind fun a=>some (setE op all a b)
mutual
def nT:Term→Wld→Option Val
 | .mk op v depth at_ name kids sub type,w=>
  if op=1∨op=2 then chkQ ((Term.mk op v depth at_ name kids sub type).sz≤2000000∧strT (.mk op v depth at_ name kids sub type)∧z5p w.env) (some (z4a (.mk op v depth at_ name kids sub type) w.env))
  else if op=26 then(nSub sub w).bind fun l=>some (if l.length=1∧0<(l.getD 0 []).length then(l.getD 0 []).getD 0 z7 else z7)
  else if op=27 then(nSub sub w).bind fun l=>some (z2y (decide (0<l.length)))
  else if op=28 then(if kids.length=0 then some z7 else(nHd kids w).bind fun v=>(nSub sub w).bind fun l=>some (zhy v l))
  else if kids.length≤2000000 then(nTs kids w).bind fun l=>chkQ (txts l) (some (z1y op name l))
  else none
def nHd:List Term→Wld→Option Val
 |[],_=>some z7
 |t::_,w=>nT t w
def nTs:List Term→Wld→Option (List Val)
 |[],_=>some []
 |t::l,w=>(nT t w).bind fun v=>(nTs l w).bind fun s=>some (v::s)
def nSo:List Term→Wld→Option Bool
 |[],_=>some true
 |t::l,w=>(nT t w).bind fun v=>if z3v v=2 then nSo l w else some false
def nSub:List Rel→Wld→Option Rows
 |[],_=>some []
 |r::_,w=>nR r w
def nKid:List Rel→Nat→Wld→Option Rows
 |[],_,_=>some []
 |r::_,0,w=>nR r w
 |_::l,n+1,w=>nKid l n w
def nA:Agg→Wld→Rows→Option Val
 | .mk name distinct t,w,rows=>if w.env.length≤100000000 then(mapQ (fun x=>nHd t (zf w x)) rows).bind fun l=>(if l.length≤400000 then some (zct (.mk name distinct t) l)else none)else none
def nAs:List Agg→Wld→Rows→Option (List Val)
 |[],_,_=>some []
 |a::l,w,rows=>(nA a w rows).bind fun v=>(nAs l w rows).bind fun s=>some (v::s)
def nR:Rel→Wld→Option Rows
  | .mk op table cols kids terms aggs keys limit skip all rows,w=>
    (if op=1 then chkQ (dbOK w.db) (some (z6d w table))
     else if op=2 then some rows
     else if op=3 then filO (fun w=>nKid kids 0 w) (fun w=>nSo terms w) w
     else if op=4 then zwm (fun w=>nKid kids 0 w) (fun w=>nTs terms w) terms.length w
     else if op=5∨op=6 then z1ak (fun w=>nKid kids 0 w) (fun w=>nKid kids 1 w) (fun w=>nSo terms w) kids.length (kids.getD 1 za).cols.length (decide (op=6)) w
     else if op=7 then grpO (fun w=>nKid kids 0 w) (fun w=>nTs terms w) (fun w l=>nAs aggs w l) terms.length aggs.length w
     else if op=8 then(nKid kids 0 w).bind fun l=>some (z1d l)
     else if op=9∨op=10∨op=11 then setO (fun w=>nKid kids 0 w) (fun w=>nKid kids 1 w) op all w
     else if op=12 then(nKid kids 0 w).bind fun l=>some (z4z l keys)
     else if op=13 then(nKid kids 0 w).bind fun l=>some (z3h l limit skip)
     else some []).bind capQ
end
theorem z1al(t:Term)(w:Wld):nT t w=if t.op=1∨t.op=2 then chkQ (t.sz≤2000000∧strT t∧z5p w.env) (some (z4a t w.env))
  else if t.op=26 then(nSub t.sub w).bind fun l=>some (if l.length=1∧0<(l.getD 0 []).length then(l.getD 0 []).getD 0 z7 else z7)
  else if t.op=27 then(nSub t.sub w).bind fun l=>some (z2y (decide (0<l.length)))
  else if t.op=28 then(if t.kids.length=0 then some z7 else(nHd t.kids w).bind fun v=>(nSub t.sub w).bind fun l=>some (zhy v l))
  else if t.kids.length≤2000000 then(nTs t.kids w).bind fun l=>chkQ (txts l) (some (z1y t.op t.name l))
  else none:=by cases t;rfl
theorem z12i(r:Rel)(w:Wld):nR r w=(if r.op=1 then chkQ (dbOK w.db) (some (z6d w r.table))
     else if r.op=2 then some r.rows
     else if r.op=3 then filO (fun w=>nKid r.kids 0 w) (fun w=>nSo r.terms w) w
     else if r.op=4 then zwm (fun w=>nKid r.kids 0 w) (fun w=>nTs r.terms w) r.terms.length w
     else if r.op=5∨r.op=6 then z1ak (fun w=>nKid r.kids 0 w) (fun w=>nKid r.kids 1 w) (fun w=>nSo r.terms w) r.kids.length (r.kids.getD 1 za).cols.length (decide (r.op=6)) w
     else if r.op=7 then grpO (fun w=>nKid r.kids 0 w) (fun w=>nTs r.terms w) (fun w l=>nAs r.aggs w l) r.terms.length r.aggs.length w
     else if r.op=8 then(nKid r.kids 0 w).bind fun l=>some (z1d l)
     else if r.op=9∨r.op=10∨r.op=11 then setO (fun w=>nKid r.kids 0 w) (fun w=>nKid r.kids 1 w) r.op r.all w
     else if r.op=12 then(nKid r.kids 0 w).bind fun l=>some (z4z l r.keys)
     else if r.op=13 then(nKid r.kids 0 w).bind fun l=>some (z3h l r.limit r.skip)
     else some []).bind capQ:=by cases r;rfl
theorem z26o(l:List Rel)(w:Wld):nSub l w=if l.length=0 then some []else nR (l.getD 0 za) w:=by
 cases l with
 |nil=>rfl
 |cons r l=>rfl
theorem z10c(l:List Term)(w:Wld):nHd l w=if l.length=0 then some z7 else nT (l.getD 0 zb) w:=by
 cases l with
 |nil=>rfl
 |cons r l=>rfl
theorem z1am(w:Wld):∀(l:List Rel)(n:Nat),nKid l n w=if n<l.length then nR (l.getD n za) w else some []
 |[],n=>by rfl
 |r::l,0=>by rfl
 |_::l,n+1=>by rw[nKid,z1am w l n];simp
theorem z193(w:Wld):∀l:List Term,nTs l w=mapQ (fun t=>nT t w) l
 |[]=>by rfl
 |t::l=>by simp only[nTs,mapQ,z193 w l]
theorem z21r(w:Wld)(rows:Rows):∀l:List Agg,nAs l w rows=mapQ (fun a=>nA a w rows) l
 |[]=>by rfl
 |t::l=>by simp only[nAs,mapQ,z21r w rows l]
theorem z29t(a:Agg)(w:Wld)(rows:Rows):nA a w rows=if w.env.length≤100000000 then(mapQ (fun x=>nHd a.t (zf w x)) rows).bind fun l=>(if l.length≤400000 then some (zct a l)else none)else none:=by cases a;rfl
def okT(w:Wld)(t:Term):Prop:=∃v,nT t w=some v
def okTs(w:Wld)(l:List Term):Prop:=l.length≤100000000∧∃v,nTs l w=some v
def z1nk(w:Wld)(t:Term):Prop:=∃v,nSub t.sub w=some v
def okSo(w:Wld)(l:List Term)(x:List Val):Prop:=w.env.length≤100000000∧∃v,nSo l (zf w x)=some v
def zeo(w:Wld)(r:Rel)(n:Int):Prop:=0≤n∧∃v,nKid r.kids n.toNat w=some v
def okRl(w:Wld)(r:Rel):Prop:=∃v,nR r w=some v
def z1an(w:Wld)(r:Rel):Option Rows:=filO (fun w=>nKid r.kids 0 w) (fun w=>nSo r.terms w) w
def z12j(w:Wld)(r:Rel):Option Rows:=zwm (fun w=>nKid r.kids 0 w) (fun w=>nTs r.terms w) r.terms.length w
def z1xe(w:Wld)(r:Rel):Option Rows:=z1ak (fun w=>nKid r.kids 0 w) (fun w=>nKid r.kids 1 w) (fun w=>nSo r.terms w) r.kids.length (r.kids.getD 1 za).cols.length (decide (r.op=6)) w
def z1nl(w:Wld)(r:Rel):Option Rows:=grpO (fun w=>nKid r.kids 0 w) (fun w=>nTs r.terms w) (fun w l=>nAs r.aggs w l) r.terms.length r.aggs.length w
def nSet(w:Wld)(r:Rel):Option Rows:=setO (fun w=>nKid r.kids 0 w) (fun w=>nKid r.kids 1 w) r.op r.all w
def nBun(w:Wld)(rows:Rows)(terms:List Term):Option (List Bunch):=bunO (fun w=>nTs terms w) terms.length w rows
def z1hh(w:Wld)(r:Rel):Prop:=∃v,z1an w r=some v
def z194(w:Wld)(r:Rel):Prop:=∃v,z12j w r=some v
def z1nm(w:Wld)(r:Rel):Prop:=∃v,z1xe w r=some v
def z1rf(w:Wld)(r:Rel):Prop:=∃v,z1nl w r=some v
def z1nn(w:Wld)(r:Rel):Prop:=∃v,nSet w r=some v
def z29u(w:Wld)(rows:Rows)(terms:List Term):Prop:=∃v,nBun w rows terms=some v
def z6q(w:Wld)(t:Term):Val:=(nT t w).getD z7
def z50(w:Wld)(l:List Term):List Val:=(nTs l w).getD []
def z5q(w:Wld)(t:Term):Rows:=(nSub t.sub w).getD []
def zdj(w:Wld)(l:List Term)(x:List Val):Bool:=(nSo l (zf w x)).getD false
def zn(w:Wld)(r:Rel)(n:Int):Rows:=(nKid r.kids n.toNat w).getD []
def z9c(w:Wld)(r:Rel):Rows:=(nR r w).getD []
def za6(w:Wld)(r:Rel):Rows:=(z1an w r).getD []
def z8j(w:Wld)(r:Rel):Rows:=(z12j w r).getD []
def zbc(w:Wld)(r:Rel):Rows:=(z1xe w r).getD []
def zbv(w:Wld)(r:Rel):Rows:=(z1nl w r).getD []
def zbd(w:Wld)(r:Rel):Rows:=(nSet w r).getD []
def z19(w:Wld)(rows:Rows)(terms:List Term):List Bunch:=(nBun w rows terms).getD []
theorem zwn{α:Type}{l s:List α}(h:capQ l=some s):l=s∧s.length≤100000000:=by
 unfold capQ at h;grind
theorem z21s{r:Rel}{w:Wld}{l:Rows}(h:nR r w=some l):l.length≤100000000:=by
 grind[z12i,Option.bind_eq_some_iff,zwn]
theorem zbw{l:List Rel}{n:Nat}{w:Wld}{s:Rows}(h:nKid l n w=some s):s.length≤100000000:=by
 rw[z1am]at h;split at h
 ·exact z21s h
 grind
theorem zq4{α β:Type}{f:α→Option β}{x:α}{l:List α}{s:List β}(h:mapQ f (x::l)=some s):∃y r,f x=some y∧mapQ f l=some r∧s=y::r:=by
 grind[mapQ,Option.bind_eq_some_iff,Option.some.injEq]
theorem znb{α β:Type}{f:α→Option β}:∀{l:List α}{s:List β},mapQ f l=some s→s.length=l.length
 |[],s,h=>by simp_all[mapQ,y8]
 |x::l,s,h=>by
  obtain⟨y,r,_,h2,rfl⟩:=zq4 h;rw[yt,yt,znb h2]
theorem zul{α β:Type}{f:α→Option β}:∀{l:List α}{s:List β},mapQ f l=some s→∀x∈l,∃y,f x=some y
 |x::l,s,h,z,hz=>by
  obtain⟨y,r,h1,h2,rfl⟩:=zq4 h;rcases yf.1 hz with rfl|hz
  ·grind
  ·exact zul h2 z hz
theorem zum{α β:Type}{f:α→Option β}(g:α→β):∀{l:List α}{s:List β},mapQ f l=some s→(∀x∈l,∀y,f x=some y→g x=y)→l.map g=s
 |[],s,h,_=>by simp_all[mapQ,y8]
 |x::l,s,h,hg=>by
  obtain⟨y,r,h1,h2,rfl⟩:=zq4 h;rw[yr,hg x yy y h1,zum g h2 fun z hz=>hg z (y11 _ hz)]
theorem z12k{α:Type}{f:α→Option Bool}{x:α}{l s:List α}(h:zdi f (x::l)=some s):∃b r,f x=some b∧zdi f l=some r∧s=if b=true then x::r else r:=by
 grind[zdi,Option.bind_eq_some_iff,Option.some.injEq]
theorem z1un{α:Type}{f:α→Option Bool}:∀{l s:List α},zdi f l=some s→∀x∈l,∃b,f x=some b
 |x::l,s,h,z,hz=>by
  obtain⟨y,r,h1,h2,rfl⟩:=z12k h;rcases yf.1 hz with rfl|hz
  ·grind
  ·exact z1un h2 z hz
theorem z1no{α:Type}{f:α→Option Bool}(g:α→Bool):∀{l s:List α}(o:List α),zdi f l=some s→(∀x∈l,∀b,f x=some b→g x=b)→l.foldl (fun o x=>if g x=true then o++[x]else o) o=o++s
 |[],s,o,h,_=>by simp_all[zdi,y8]
 |x::l,s,o,h,hg=>by
  obtain⟨b,r,h1,h2,rfl⟩:=z12k h;rw[yu,hg x yy b h1,z1no g _ h2 fun z hz=>hg z (y11 _ hz)];grind
theorem z1uo{f:List Val→Option (List Val)}{N:Nat}:∀{l:Rows}{out bs:List Bunch},(∀x∈l,∀key,f x=some key→key.length≤N)→(∀b∈out,b.key.length≤N)→bunQ f l out=some bs→(∀b∈bs,b.key.length≤N)∧bs.length≤out.length+l.length
 |[],out,bs,_,ho,h=>by
  simp_all[bunQ,y8]
 |x::l,out,bs,hf,ho,h=>by
  simp only[bunQ,y7]at h;obtain⟨key,h1,h2⟩:=h;have hb:(∀b∈z31 out key x,b.key.length≤N)∧(z31 out key x).length≤out.length+1:=by
   unfold z31;split
   ·rename_i i hi;have hil:=(y2f.1 hi).1;grind
   grind
  obtain⟨g1,g2⟩:=z1uo (fun z hz=>hf z (y11 _ hz)) hb.1 h2;grind
theorem z2ib{l:List Term}{w:Wld}{s:List Val}(h:nTs l w=some s):s.length=l.length:=by grind[z193,znb]
theorem z195{terms:List Term}{w:Wld}{l:Rows}{bs:List Bunch}(h:bunO (fun w=>nTs terms w) terms.length w l=some bs):(w.env.length≤100000000∧terms.length≤100000000∧l.length≤100000000)∧(∀b∈bs,b.key.length≤terms.length)∧bs.length≤l.length+1:=by
 unfold bunO at h;split at h
 ·obtain⟨g1,g2⟩:=z1uo (N:=terms.length) (fun x _ key hk=>by rw[z2ib hk];simp) (fun b hb=>by
   grind) h
  grind
 grind
theorem z196{f:List Val→Option (List Val)}:∀{l:Rows}{out bs:List Bunch}{N:Nat},(∀b∈out,b.rows.length≤N)→bunQ f l out=some bs→∀b∈bs,b.rows.length≤N+l.length
 |[],out,bs,N,ho,h=>by
  simp_all[bunQ,y8]
 |x::l,out,bs,N,ho,h=>by
  simp only[bunQ,y7]at h;obtain⟨key,h1,h2⟩:=h;have hb:∀b∈z31 out key x,b.rows.length≤N+1:=by
   unfold z31;split
   ·rename_i i hi;have hil:=(y2f.1 hi).1;grind
   grind
  intro b hbm;have:=z196 hb h2 b hbm;grind
theorem z2dj{terms:List Term}{w:Wld}{l:Rows}{bs:List Bunch}(h:bunO (fun w=>nTs terms w) terms.length w l=some bs)(j:Nat)(hj:j<bs.length):(bs.getD j zh).rows.length≤100000000:=by
 unfold bunO at h;split at h
 ·have:=z196 (N:=0) (fun b hb=>by
   grind) h _ (z8f (d:=zh) hj)
  omega
 grind
end
end B
namespace B
open Go Go.RowKit
theorem znc{α β:Type}{f:α→Option β}{P:β→Prop}:∀(l:List α),(∀x∈l,∃y,f x=some y∧P y)→∃s,mapQ f l=some s∧s.length=l.length∧∀y∈s,P y
 |[],_=>⟨[],rfl,rfl,fun y hy=>absurd hy (by simp)⟩
 |x::l,h=>by
  obtain⟨y,h1,h2⟩:=h x yy;obtain⟨s,h3,h4,h5⟩:=znc (P:=P) l fun z hz=>h z (y11 _ hz);refine⟨y::s,by simp only[mapQ,h1,h3,yh],by simp only[yt,h4],fun z hz=>?_⟩;rcases yf.1 hz with rfl|hz
  ·exact h2
  ·exact h5 z hz
theorem z1hi{α:Type}{f:α→Option Bool}:∀(l:List α),(∀x∈l,∃b,f x=some b)→∃s,zdi f l=some s∧s.length≤l.length∧∀y∈s,y∈l
 |[],_=>⟨[],rfl,y6 _,fun y hy=>hy⟩
 |x::l,h=>by
  obtain⟨b,h1⟩:=h x yy;obtain⟨s,h3,h4,h5⟩:=z1hi l fun z hz=>h z (y11 _ hz);refine⟨if b=true then x::s else s,by simp_all[zdi,yh],by grind,fun z hz=>?_⟩;grind
theorem z21t{left:Bool}{nn:List Val}{f:List Val→Option Bool}{right:Rows}:∀(l:Rows),(∀a∈l,(∀b∈right,∃c,f (a++b)=some c)∧(a++nn).length≤100000000)→
  ∃s,zwl left nn f right l=some s∧s.length≤l.length*max right.length 1∧∀x∈s,∃a∈l,∃b,(b∈right∨b=nn)∧x=a++b
 |[],_=>⟨[],rfl,by simp,fun x hx=>absurd hx (by simp)⟩
 |a::l,h=>by
  obtain⟨h1,h2⟩:=h a yy;obtain⟨u,g1,g2,g3⟩:=z1hi (f:=f) (right.map (a++·)) fun x hx=>by
   grind
  obtain⟨s,k1,k2,k3⟩:=z21t (left:=left) (nn:=nn) (f:=f) (right:=right) l fun z hz=>h z (y11 _ hz)
  have key:∀v:Rows,(if u.length=0∧left=true then(if(a++nn).length≤100000000 then some [a++nn]else none)else some u)=some v→v.length≤max right.length 1→(∀x∈v,∃b,(b∈right∨b=nn)∧x=a++b)→
    ∃s,zwl left nn f right (a::l)=some s∧s.length≤(a::l).length*max right.length 1∧∀x∈s,∃a'∈a::l,∃b,(b∈right∨b=nn)∧x=a'++b:=fun v hv hl hm=>by
   refine⟨v++s,by simp_all[zwl,yh],?_,fun x hx=>?_⟩
   ·rw[yb,yt,Nat.succ_mul];omega
   ·rcases yc.1 hx with hx|hx
    ·obtain⟨b,q1,q2⟩:=hm x hx;exact⟨a,yy,b,q1,q2⟩
    ·obtain⟨a',q0,q⟩:=k3 x hx;exact⟨a',y11 _ q0,q⟩
  grind
theorem z26p{f:List Val→Option (List Val)}{K:List Val→Prop}{M:Rows}:∀(l:Rows)(out:List Bunch),(∀x∈l,x∈M∧∃k,f x=some k∧K k)→(∀b∈out,K b.key∧∀x∈b.rows,x∈M)→
  ∃bs,bunQ f l out=some bs∧bs.length≤out.length+l.length∧∀b∈bs,K b.key∧∀x∈b.rows,x∈M
 |[],out,_,ho=>⟨out,rfl,by simp,ho⟩
 |x::l,out,h,ho=>by
  obtain⟨hx,k,h1,h2⟩:=h x yy;have hb:(z31 out k x).length≤out.length+1∧∀b∈z31 out k x,K b.key∧∀x∈b.rows,x∈M:=by
   unfold z31;split
   ·rename_i i hi;have hil:=(y2f.1 hi).1;grind
   grind
  obtain⟨bs,g1,g2,g3⟩:=z26p (f:=f) (K:=K) (M:=M) l (z31 out k x) (fun z hz=>h z (y11 _ hz)) hb.2;exact⟨bs,by simp only[bunQ,h1,yh,g1],by rw[yt];omega,g3⟩
theorem z21u{f:List Val→Option (List Val)}:∀(l:Rows)(b:Bunch),(∀x∈l,f x=some [])→b.key=[]→∃b',bunQ f l [b]=some [b']
 |[],b,_,_=>⟨b,rfl⟩
 |x::l,b,h,hb=>by
  have e:z31 [b] [] x=[⟨[],b.rows++[x]⟩]:=by
   unfold z31;have:[b].findIdx? (fun b=>z2n b.key []==0)=some 0:=by rw[y2k,if_pos (by rw[hb];rfl)]
   grind
  obtain⟨b',hb'⟩:=z21u l ⟨[],b.rows++[x]⟩ (fun z hz=>h z (y11 _ hz)) rfl;simp_all[bunQ,yy,yh]
theorem z21v:∀(l o:Rows),(l.foldl (fun o x=>if zp o x<0 then o++[x]else o) o).length≤o.length+l.length∧∀x∈l.foldl (fun o x=>if zp o x<0 then o++[x]else o) o,x∈o∨x∈l
 |[],o=>⟨by simp,fun x hx=>.inl hx⟩
 |y::l,o=>by
  obtain⟨h1,h2⟩:=z21v l (if zp o y<0 then o++[y]else o);grind
theorem zgt(l:Rows):(z1d l).length≤l.length∧∀x∈z1d l,x∈l:=by
 grind[z21v,z1d]
theorem z21w(inter:Bool):∀(a b:Rows),(setL inter a b).length≤a.length∧∀x∈setL inter a b,x∈a
 |[],b=>⟨y6 _,fun x hx=>hx⟩
 |y::l,b=>by
  simp only[setL];obtain⟨h1,h2⟩:=z21w inter l (if 0≤zp b y then b.eraseIdx (zp b y).toNat else b);grind
theorem z2g7(op:Int)(all:Bool)(a b:Rows):(setE op all a b).length≤a.length∧∀x∈setE op all a b,x∈a:=by
 have h:(if all=true then a else z1d a).length≤a.length∧∀x∈(if all=true then a else z1d a),x∈a:=by
  split
  all_goals simp_all[y6,zgt]
 grind[setE,z21w,decide,z1d,Nat.le_trans]
theorem z25b(l:Rows)(limit skip:Int):(z3h l limit skip).length≤l.length∧∀x∈z3h l limit skip,x∈l:=by
 grind[z3h,List.length_take,List.length_drop,List.mem_of_mem_drop,List.mem_of_mem_take]
theorem z25c(l:Rows)(keys:List By):(z4z l keys).length≤l.length∧∀x∈z4z l keys,x∈l:=
 ⟨Nat.le_of_eq (z6z (z1hf keys) l),fun _ hx=>(z1ne (z1hf keys) l).mem_iff.1 hx⟩
mutual
def txT:Term→Prop
 | .mk _ v _ _ _ kids sub _=>z17 v∧txTs kids∧txRs sub
def txTs:List Term→Prop
 |[]=>True
 |t::l=>txT t∧txTs l
def txA:Agg→Prop
 | .mk _ _ t=>txTs t
def txAs:List Agg→Prop
 |[]=>True
 |a::l=>txA a∧txAs l
def txR:Rel→Prop
 | .mk _ _ _ kids terms aggs _ _ _ _ rows=>txRs kids∧txTs terms∧txAs aggs∧z5p rows
def txRs:List Rel→Prop
 |[]=>True
 |r::l=>txR r∧txRs l
end
theorem z12l:∀{l:List Term},txTs l→∀t∈l,txT t
 |x::l,h,t,ht=>by
  rcases yf.1 ht with rfl|ht
  ·exact h.1
  ·exact z12l h.2 t ht
theorem z1hj:∀{l:List Rel},txRs l→∀t∈l,txR t
 |x::l,h,t,ht=>by
  rcases yf.1 ht with rfl|ht
  ·exact h.1
  ·exact z1hj h.2 t ht
theorem z21x:∀{l:List Agg},txAs l→∀a∈l,txTs a.t
 | .mk _ _ t::l,h,a,ha=>by
  rcases yf.1 ha with rfl|ha
  ·exact h.1
  ·exact z21x h.2 a ha
theorem z2dk(t:Term):txT t↔(z17 t.v∧txTs t.kids∧txRs t.sub):=by cases t;rfl
theorem z21y(r:Rel):txR r↔(txRs r.kids∧txTs r.terms∧txAs r.aggs∧z5p r.rows):=by cases r;rfl
mutual
theorem z1rg:∀t:Term,txT t→strT t
 | .mk _ _ _ _ _ kids _ _,h=>⟨h.1,z21z kids h.2.1⟩
theorem z21z:∀l:List Term,txTs l→zs6 l
 |[],_=>trivial
 |t::l,h=>⟨z1rg t h.1,z21z l h.2⟩
end
theorem zq5{t:Term}:∀{l:List Agg},t∈z88 l→∃a∈l,t∈a.t
 |a::l,h=>by
  rcases yc.1 h with h|h
  ·grind
  ·obtain⟨b,h1,h2⟩:=zq5 h;grind
theorem z2jn{r:Rel}(h:txR r):∀t∈z10 r,txT t:=by
 obtain⟨_,h2,h3,_⟩:=(z21y r).1 h;intro t ht;rcases yc.1 ht with ht|ht
 ·exact z12l h2 t ht
 ·obtain⟨a,ha,hta⟩:=zq5 ht;exact z12l (z21x h3 a ha) t hta
def zdk(x:Acc):Prop:=z17 x.v∧∀v∈x.l,z17 v
theorem z25d(a:Agg):zdk (zdw a):=by
 unfold zdw
 repeat' split
 all_goals exact⟨z3g,fun v hv=>absurd hv (by simp)⟩
theorem z1eg{x:Acc}{v:Val}(h:zdk x)(hv:z17 v):zdk (za4 x v):=by
 unfold za4
 repeat' split
 all_goals first|exact⟨h.1,h.2⟩|exact⟨hv,h.2⟩
theorem z29v{x:Acc}{v:Val}(h:zdk x)(hv:z17 v):zdk (zgo x v):=by
 unfold zgo;split
 ·split
  ·refine⟨h.1,fun w hw=>?_⟩;unfold insV at hw;split at hw
   ·exact h.2 w hw
   ·rcases yc.1 hw with hw|hw
    ·exact h.2 w (y38 hw)
    ·rcases yf.1 hw with rfl|hw
     ·omega
     ·exact h.2 w (y28 hw)
  grind[z1eg]
 omega
theorem z12m{f:Acc→Val→Acc}(hf:∀{x v},zdk x→z17 v→zdk (f x v)):∀(l:List Val)(x:Acc),zdk x→(∀v∈l,z17 v)→zdk (l.foldl f x)
 |[],_,h,_=>h
 |v::l,x,h,hl=>z12m hf l (f x v) (hf h (hl v yy)) fun w hw=>hl w (y11 _ hw)
theorem z29w(n:Int):z17 (numV n):=ya _
theorem z2dl(a:Agg){l:List Val}(h:∀v∈l,z17 v):z17 (zct a l):=by
 rw[z1n2];have h1:=z12m (fun h hv=>z29v h hv) l (zdw a) (z25d a) h;unfold runA zzx;generalize hx:l.foldl zgo (zdw a)=x at*;have h2:=z12m (fun h hv=>z1eg h hv) x.l x h1 h1.2;unfold endA z1mn
 repeat' split
 all_goals first|exact z29w _|exact z3g|exact h2.1
end B
namespace B
open Go Go.RowKit
structure DbG(db:List Data):Prop where
 ok:dbOK db
 rows:zcm db≤2000000
 tx:∀d∈db,z5p d.rows
structure Fine(db:List Data)(r:Rel)(l:Rows):Prop where
 short:z5p l
 wide:∀x∈l,(x.length:Int)=z29 r
 few:(l.length:Int)≤(wghR db r).1
structure GoT(db:List Data)(t:Term)(env:List Int)(w:Wld):Prop where
 v:zdn t env=true
 fit:fitT db t=true
 sz:t.sz≤2000000
 cl:clT t≤2000000
 tx:txT t
 wgh:wghT db t≤20000
 db:w.db=db
 env:z5p w.env
 deep:w.env.length+t.ht≤8000000
structure GoR(db:List Data)(r:Rel)(env:List Int)(w:Wld):Prop where
 v:zke r env=true
 fit:fitR db r=true
 sz:r.sz≤2000000
 cl:clR r≤2000000
 tx:txR r
 wgh:(wghR db r).2≤20000
 db:w.db=db
 env:z5p w.env
 deep:w.env.length+r.ht≤8000000
def TOK(db:List Data)(n:Nat):Prop:=∀(t:Term)(env:List Int)(w:Wld),t.ht<n→GoT db t env w→∃v,nT t w=some v∧z17 v
def ROK(db:List Data)(n:Nat):Prop:=∀(r:Rel)(env:List Int)(w:Wld),r.ht<n→GoR db r env w→∃l,nR r w=some l∧Fine db r l
theorem z2dm{l:Rows}(h:z5p l)(i:Nat):∀v∈l.getD i [],z17 v:=fun v hv=>by
 by_cases hi:i<l.length
 ·exact h _ (z8f hi) v hv
 grind
theorem GoT.kid{db:List Data}(G:DbG db){t k:Term}{env:List Int}{w:Wld}(h:GoT db t env w)(hk:k∈t.kids):GoT db k env w where
 v:=(z122 h.v).2.1 k hk
 fit:=by have:=h.fit;rw[z1pr,yp,y19]at this;grind
 sz:=by have:=zkj hk;have:=h.sz;omega
 cl:=by have:=zja hk;have:=z1zq t;have:=h.cl;omega
 tx:=z12l ((z2dk t).1 h.tx).2.1 k hk
 wgh:=(z1lc G.rows h.sz h.wgh).1 k hk
 db:=h.db
 env:=h.env
 deep:=by have:=Term.ht_kid hk;have:=h.deep;omega
theorem GoT.subq{db:List Data}(G:DbG db){t:Term}{k:Rel}{env:List Int}{w:Wld}(h:GoT db t env w)(hk:k∈t.sub):GoR db k env w where
 v:=(z122 h.v).2.2 k hk
 fit:=by have:=h.fit;rw[z1pr,yp,y19,y19]at this;grind
 sz:=by have:=zkk hk;have:=h.sz;omega
 cl:=by have:=zfd hk;have:=z1zq t;have:=h.cl;omega
 tx:=z1hj ((z2dk t).1 h.tx).2.2 k hk
 wgh:=(z1lc G.rows h.sz h.wgh).2 k hk
 db:=h.db
 env:=h.env
 deep:=by have:=Term.ht_sub hk;have:=h.deep;omega
theorem GoR.kid{db:List Data}(G:DbG db){r k:Rel}{env:List Int}{w:Wld}(h:GoR db r env w)(hop:r.op≠1)(hk:k∈r.kids):GoR db k env w where
 v:=(z56 h.v).2.1 k hk
 fit:=by have:=h.fit;rw[z1a5,if_neg hop,yp,y19]at this;grind
 sz:=by have:=z9j hk;have:=h.sz;omega
 cl:=by have:=zfd hk;have:=zfc r;have:=h.cl;omega
 tx:=z1hj ((z21y r).1 h.tx).1 k hk
 wgh:=(zvj G.rows h.sz h.wgh).1 k hk
 db:=h.db
 env:=h.env
 deep:=by have:=Rel.ht_kid hk;have:=h.deep;omega
theorem GoR.term{db:List Data}(G:DbG db){r:Rel}{t:Term}{env:List Int}{w:Wld}(h:GoR db r env w)(hop:r.op≠1)(hi:1≤(ioR db r).1)(ht:t∈z10 r){x:List Val}(hx:∀v∈x,z17 v):GoT db t (z8s r::env) (zf w x) where
 v:=by
  obtain⟨_,_,_,h1,h2,_⟩:=z56 h.v;rcases yc.1 ht with ht|ht
  ·exact h1 t ht
  ·obtain⟨a,ha,hta⟩:=zq5 ht;exact h2 a ha t hta
 fit:=by
  have:=h.fit;rw[z1a5,if_neg hop,yp,yp,y19,y19,y19]at this;rcases yc.1 ht with ht|ht
  ·exact this.2.1 t ht
  ·obtain⟨a,ha,hta⟩:=zq5 ht;exact y19.1 (this.2.2 a ha) t hta
 sz:=by have:=(z90 ht).2;have:=h.sz;omega
 cl:=by
  have h0:=zfc r;have hc:=h.cl;rcases yc.1 ht with ht|ht
  ·have:=zja ht;omega
  ·obtain⟨a,ha,hta⟩:=zq5 ht;have h1:=z1g9 ha;have h2:=zja hta;grind[z2bt]
 tx:=z2jn h.tx t ht
 wgh:=(zvj G.rows h.sz h.wgh).2.2.2.1 hi t ht
 db:=h.db
 env:=fun y hy=>by
  rcases yf.1 hy with rfl|hy
  ·omega
  ·exact h.env y hy
 deep:=by have:=(z90 ht).1;have:=h.deep;show(x::w.env).length+_≤_;grind
theorem z2jo{db:List Data}(G:DbG db){n:Nat}(hR:ROK db n){t:Term}{env:List Int}{w:Wld}(hn:t.ht<n+1)(h:GoT db t env w):∃l,nSub t.sub w=some l∧z5p l:=by
 rw[z26o];by_cases c:t.sub.length=0
 ·exact⟨[],by grind,fun x hx=>absurd hx (by simp)⟩
 ·have hm:t.sub.getD 0 za∈t.sub:=z8f (by omega);obtain⟨l,h1,h2⟩:=hR _ env w (by have:=Term.ht_sub hm;omega) (h.subq G hm);exact⟨l,by grind,h2.short⟩
theorem z2dn{db:List Data}(G:DbG db){n:Nat}(hT:TOK db n)(hR:ROK db n):TOK db (n+1):=by
 intro t env w hn h;have hkl:t.kids.length≤2000000:=by have:=z5t t.kids;have:=t.sz_eq;have:=h.sz;omega
 have hkid:=fun k(hk:k∈t.kids)=>hT k env w (by have:=Term.ht_kid hk;omega) (h.kid G hk);obtain⟨l,hl1,hl2⟩:=z2jo G hR hn h;rw[z1al,hl1,yh,yh];by_cases c1:t.op=1∨t.op=2
 ·rw[if_pos c1,zfr ⟨h.sz,z1rg t h.tx,h.env⟩];exact⟨_,rfl,z1mj h.env t (z1rg t h.tx)⟩
 rw[if_neg c1];by_cases c2:t.op=26
 ·rw[if_pos c2];exact⟨_,rfl,z1ua (fun _=>zs7 (z2dm hl2 0) 0) (fun _=>z3g)⟩
 rw[if_neg c2];by_cases c3:t.op=27
 ·rw[if_pos c3];exact⟨_,rfl,z1mi _⟩
 rw[if_neg c3];by_cases c4:t.op=28
 ·rw[if_pos c4];by_cases c5:t.kids.length=0
  ·rw[if_pos c5];exact⟨_,rfl,z3g⟩
  ·rw[if_neg c5,z10c,if_neg c5];obtain⟨v,h1,_⟩:=hkid _ (z8f (d:=zb) (show 0<t.kids.length by omega));rw[h1,yh];exact⟨_,rfl,zwa _⟩
 rw[if_neg c4,if_pos hkl,z193];obtain⟨s,h1,h2,h3⟩:=znc (P:=z17) t.kids hkid;rw[h1,yh,zfr ⟨by omega,h3⟩];exact⟨_,rfl,z1e0 _ _ h3⟩
theorem z29x{w:Wld}:∀(l:List Term),(∀t∈l,∃v,nT t w=some v∧z17 v)→∃b,nSo l w=some b
 |[],_=>⟨true,by rfl⟩
 |t::l,h=>by
  obtain⟨v,h1,_⟩:=h t yy;obtain⟨b,h2⟩:=z29x l fun x hx=>h x (y11 _ hx);simp only[nSo,h1,yh];grind
theorem z2do(db:List Data)(r:Rel):(ioR db r).2=(ioR db r).1∨(ioR db r).2=maxI (ioR db r).1 1:=by
 unfold ioR ioW;grind
theorem z1np{db:List Data}{r:Rel}(h1:r.op≠1)(hk:r.kids.length=1):ioR db r=((wghR db (r.kids.getD 0 za)).1,maxI (wghR db (r.kids.getD 0 za)).1 1):=by
 simp_all[ioR,ioW,if_neg,yq,if_pos,zfk]
theorem z1up{r:Rel}(h:r.op=3∨r.op=8∨r.op=12∨r.op=13)(hk:r.kids.length=1):z29 r=z29 (r.kids.getD 0 za):=by
 have hkn:z3n r.op=1:=by rcases h with e|e|e|e<;>rw[e]<;>rfl
 rw[zjn,if_neg (by omega),if_neg (by omega),if_neg (by omega),if_neg (by omega),if_neg (by omega),zbl _ _ (by omega)]
theorem z2dp{r:Rel}(h:r.op=9∨r.op=10∨r.op=11)(hk:r.kids.length=2):z29 r=z29 (r.kids.getD 0 za):=by
 have hkn:z3n r.op=2:=by rcases h with e|e|e<;>rw[e]<;>rfl
 rw[zjn,if_neg (by omega),if_neg (by omega),if_neg (by omega),if_neg (by omega),if_neg (by omega),zbl _ _ (by omega)]
theorem Fine.fin{db:List Data}{r:Rel}{X:Option Rows}{l:Rows}(hb:(wghR db r).1≤1048576)(hX:X=some l)(h:Fine db r l):∃l,X.bind capQ=some l∧Fine db r l:=by
 have:=h.few;unfold capQ;grind
theorem Fine.sub{db:List Data}{r k:Rel}{l s:Rows}(h:Fine db k l)(hw:z29 r=z29 k)(hm:∀x∈s,x∈l)(hf:(s.length:Int)≤(wghR db r).1):Fine db r s:=
 ⟨fun x hx=>h.short x (hm x hx),fun x hx=>(h.wide x (hm x hx)).trans hw.symm,hf⟩
theorem z2jp{x:List Val}{cols:List Col}(h:z8m x cols=true):x.length=cols.length:=by
 simp_all[z8m,yp,decide_eq_true_eq]
section
variable {db:List Data} {n:Nat} {r:Rel} {env:List Int} {w:Wld}
structure StepR(db:List Data)(r:Rel)(env:List Int)(w:Wld):Prop where
 go:GoR db r env w
 io:0≤(ioR db r).1∧(ioR db r).1≤20000
 out:(wghR db r).1=(ioR db r).2
 kid:r.op≠1→∀i,i<r.kids.length→∃l,nKid r.kids i w=some l∧Fine db (r.kids.getD i za) l
 term:r.op≠1→1≤(ioR db r).1→∀t∈z10 r,∀x:List Val,(∀v∈x,z17 v)→∃v,nT t (zf w x)=some v∧z17 v
theorem StepR.mk'(G:DbG db)(hT:TOK db n)(hR:ROK db n)(hn:r.ht<n+1)(h:GoR db r env w):StepR db r env w:=by
 obtain⟨_,i0,i1,_,e⟩:=zvj G.rows h.sz h.wgh;have ho:=z2do db r;refine⟨h,⟨i0,i1⟩,?_,fun hop i hi=>?_,fun hop h1 t ht x hx=>?_⟩
 ·rw[e,zas,if_neg];grind[zjp]
 ·have hm:r.kids.getD i za∈r.kids:=z8f hi;obtain⟨l,h1,h2⟩:=hR _ env w (by have:=Rel.ht_kid hm;omega) (h.kid G hop hm);simp_all[z1am,if_pos]
 ·exact hT t _ _ (by have:=(z90 ht).1;omega) (h.term G hop h1 ht hx)
theorem z197{t:Term}(h:t∈r.terms):t∈z10 r:=y1s _ h
theorem z29y(G:DbG db)(hS:StepR db r env w)(c:r.op=1):∃l,(chkQ (dbOK w.db) (some (z6d w r.table))).bind capQ=some l∧Fine db r l:=by
 have hb:=(z5x G.rows hS.go.sz).1.2;have hf:=hS.go.fit;rw[z1a5,if_pos c]at hf;unfold zmv at hf;have hc:=(z56 hS.go.v).2.2.1;have ho:(ioR db r).2=zbp r.table db:=by unfold ioR ioW;grind
 have hh:=z1a9 r.table db 0 (by omega) (by have:=G.rows;omega);refine Fine.fin (l:=z6d w r.table) hb (zfr (by rw[hS.go.db];exact G.ok)) ?_;unfold z6d;rw[hS.go.db];cases hfd:db.find? (fun d=>d.table.toList==r.table.toList)with
 |none=>exact⟨fun x hx=>absurd hx (by simp),fun x hx=>absurd hx (by simp),by rw[hS.out,ho];exact hh.1⟩
 |some d=>
  have hm:=List.mem_of_find?_eq_some hfd;have ht:(d.table.toList==r.table.toList)=true:=List.find?_some (p:=fun d:Data=>d.table.toList==r.table.toList) hfd;refine⟨G.tx d hm,fun x hx=>?_,?_⟩
  ·grind[z2jp]
  ·rw[hS.out,ho];simp_all[zbp]
theorem z2dq(G:DbG db)(hS:StepR db r env w)(c:r.op=2):∃l,(some r.rows).bind capQ=some l∧Fine db r l:=by
 have hb:=(z5x G.rows hS.go.sz).1.2;obtain⟨⟨hk,_⟩,_,hc,_,_,hr⟩:=z56 hS.go.v;rw[c]at hk;have hk0:r.kids.length=0:=by have:z3n 2=0:=rfl;omega
 unfold zdp at hr;unfold zmu at hr;refine Fine.fin hb rfl ⟨((z21y r).1 hS.go.tx).2.2.2,fun x hx=>?_,?_⟩
 ·grind
 ·rw[hS.out];simp_all[ioR,ioW,if_neg,if_pos,yq,y29]
theorem z25e(G:DbG db)(hS:StepR db r env w)(c:r.op=3):∃l,(filO (fun w=>nKid r.kids 0 w) (fun w=>nSo r.terms w) w).bind capQ=some l∧Fine db r l:=by
 have hb:=(z5x G.rows hS.go.sz).1.2;have hk:=(z56 hS.go.v).1.1;rw[c]at hk;have hk1:r.kids.length=1:=by have:z3n 3=1:=rfl;omega
 obtain⟨l,h1,h2⟩:=hS.kid (by omega) 0 (by omega);have hio:=z1np (db:=db) (by omega) hk1;have hfew:=h2.few;obtain⟨s,g1,g2,g3⟩:=z1hi (f:=fun x=>nSo r.terms (zf w x)) l fun x hx=>z29x _ fun t ht=>hS.term (by omega) (by grind) t (z197 ht) x (h2.short x hx);refine Fine.fin (l:=s) hb ?_ (h2.sub (z1up (.inl c) hk1) g3 ?_)
 ·unfold filO;dsimp only;rw[if_pos (by have:=hS.go.deep;omega),h1,yh,g1]
 ·rw[hS.out,hio,zjp];omega
theorem z220(hS:StepR db r env w)(hop:r.op≠1)(hi:1≤(ioR db r).1){x:List Val}(hx:∀v∈x,z17 v):∃s,nTs r.terms (zf w x)=some s∧s.length=r.terms.length∧∀v∈s,z17 v:=by
 rw[z193];exact znc (P:=z17) _ fun t ht=>hS.term hop hi t (z197 ht) x hx
theorem z221(G:DbG db)(hS:StepR db r env w)(c:r.op=4):∃l,(zwm (fun w=>nKid r.kids 0 w) (fun w=>nTs r.terms w) r.terms.length w).bind capQ=some l∧Fine db r l:=by
 have hb:=(z5x G.rows hS.go.sz).1.2;have hk:=(z56 hS.go.v).1.1;rw[c]at hk;have hk1:r.kids.length=1:=by have:z3n 4=1:=rfl;omega
 obtain⟨l,h1,h2⟩:=hS.kid (by omega) 0 (by omega);have hio:=z1np (db:=db) (by omega) hk1;have hfew:=h2.few;have htl:r.terms.length≤2000000:=by have:=z5t r.terms;have:=r.sz_eq;have:=hS.go.sz;omega
 obtain⟨s,g1,g2,g3⟩:=znc (f:=fun x=>nTs r.terms (zf w x)) (P:=fun y=>y.length=r.terms.length∧∀v∈y,z17 v) l fun x hx=>z220 hS (by omega) (by grind) (h2.short x hx);have hw:z29 r=r.terms.length:=by rw[zjn,c,if_neg (by omega),if_neg (by omega),if_pos rfl]
 refine Fine.fin (l:=s) hb ?_ ⟨fun x hx=>(g3 x hx).2,fun x hx=>by grind,?_⟩
 ·unfold zwm;dsimp only;rw[if_pos ⟨by have:=hS.go.deep;omega,by omega⟩,h1,yh,g1]
 ·rw[hS.out,hio,zjp];omega
theorem z2dr(G:DbG db)(hS:StepR db r env w)(c:r.op=5∨r.op=6):∃l,(z1ak (fun w=>nKid r.kids 0 w) (fun w=>nKid r.kids 1 w) (fun w=>nSo r.terms w) r.kids.length (r.kids.getD 1 za).cols.length (decide (r.op=6)) w).bind capQ=some l∧Fine db r l:=by
 have hb:=(z5x G.rows hS.go.sz).1.2;obtain⟨⟨hk,_⟩,hkv,_,_,_,_⟩:=z56 hS.go.v;rw[z15s c]at hk;have hk2:r.kids.length=2:=by omega
 have hop:r.op≠1:=by omega
 obtain⟨l,h1,h2⟩:=hS.kid hop 0 (by omega);obtain⟨t,h3,h4⟩:=hS.kid hop 1 (by omega);have m0:r.kids.getD 0 za∈r.kids:=z8f (by omega);have m1:r.kids.getD 1 za∈r.kids:=z8f (by omega);have c0:=(z56 (hkv _ m0)).2.2.1;have c1:=(z56 (hkv _ m1)).2.2.1;have hcl0:=zfc (r.kids.getD 0 za);have hcl1:=zfc (r.kids.getD 1 za);have b0:=zfd m0;have b1:=zfd m1;have hcl:=zfc r;have hclr:=hS.go.cl;have hd:=hS.go.deep;have w0:=(z5x G.rows (show(r.kids.getD 0 za).sz≤2000000 by have:=z9j m0;have:=hS.go.sz;omega)).1;have w1:=(z5x G.rows (show(r.kids.getD 1 za).sz≤2000000 by have:=z9j m1;have:=hS.go.sz;omega)).1;have hw:z29 r=z29 (r.kids.getD 0 za)+z29 (r.kids.getD 1 za):=by
  rw[zjn,if_neg (by rw[z15s c];omega),if_neg (by omega),if_neg (by omega),if_neg (by omega),if_pos c,zbl _ _ (by omega),zbl _ _ (by omega),z1u (by omega)]
 obtain⟨W0,e0⟩:=y4b w0.1;obtain⟨W1,e1⟩:=y4b w1.1;have hio:(ioR db r).1=((W0*max W1 1:Nat):Int)∧(ioR db r).2=((W0*max W1 1:Nat):Int):=by
  have hmx:maxI (W1:Int) 1=((max W1 1:Nat):Int):=by rw[zjp];split<;>omega
  have hp:=z1aa (a:=(W0:Int)) (b:=((max W1 1:Nat):Int)) (by omega) (by omega) (by omega) (by omega);unfold ioR ioW;rw[if_neg hop,if_neg (by rw[yq];omega),if_neg (by rw[yq];omega),if_pos c,zfk db r 0 (by omega),zfk db r 1 (by omega),e0,e1,hmx,z1u (by omega),Int.natCast_mul];exact⟨rfl,rfl⟩
 have f0:=h2.few;have f1:=h4.few;rw[e0]at f0;rw[e1]at f1;have hone:∀x∈l,1≤(ioR db r).1:=fun x hx=>by
  have:=y4a hx;have:=y26 (show 1≤W0 by omega) (show 1≤max W1 1 by omega);rw[hio.1];omega
 obtain⟨s,g1,g2,g3⟩:=z21t (left:=decide (r.op=6)) (nn:=List.replicate (r.kids.getD 1 za).cols.length z7) (f:=fun x=>if x.length≤100000000 then nSo r.terms (zf w x)else none) (right:=t) l fun a ha=>by
  have la:=h2.wide a ha;refine⟨fun b hb'=>?_,by rw[yb,y37];omega⟩;have lb:=h4.wide b hb';rw[if_pos (by rw[yb];omega)];exact z29x _ fun t ht=>hS.term hop (hone a ha) t (z197 ht) _ fun v hv=>by
   rcases yc.1 hv with hv|hv
   ·exact h2.short a ha v hv
   ·exact h4.short b hb' v hv
 have hlen:(s.length:Int)≤(wghR db r).1:=by
  rw[hS.out,hio.2];have:=y26 (show l.length≤W0 by omega) (show max t.length 1≤max W1 1 by omega);omega
 refine Fine.fin (l:=s) hb ?_ ⟨fun x hx v hv=>?_,fun x hx=>?_,hlen⟩
 ·unfold z1ak;dsimp only;rw[if_neg (by omega),if_pos ⟨by omega,by omega⟩,h3,yh,h1,yh,g1,yh];unfold capQ;rw[if_pos (by omega)]
 ·obtain⟨a,ha,b,hb',rfl⟩:=g3 x hx;rcases yc.1 hv with hv|hv
  ·exact h2.short a ha v hv
  ·rcases hb' with hb'|rfl
   ·exact h4.short b hb' v hv
   ·rw[List.eq_of_mem_replicate hv];exact z3g
 ·obtain⟨a,ha,b,hb',rfl⟩:=g3 x hx;have la:=h2.wide a ha;have lb:(b.length:Int)=z29 (r.kids.getD 1 za):=by
   rcases hb' with hb'|rfl
   ·exact h4.wide b hb'
   ·rw[y37];exact c1
  rw[yb,hw];omega
theorem z29z(G:DbG db)(hS:StepR db r env w)(c:r.op=7):∃l,(grpO (fun w=>nKid r.kids 0 w) (fun w=>nTs r.terms w) (fun w l=>nAs r.aggs w l) r.terms.length r.aggs.length w).bind capQ=some l∧Fine db r l:=by
 have hb:=(z5x G.rows hS.go.sz).1.2;have hk:=(z56 hS.go.v).1.1;rw[c]at hk;have hk1:r.kids.length=1:=by have:z3n 7=1:=rfl;omega
 have hop:r.op≠1:=by omega
 obtain⟨l,h1,h2⟩:=hS.kid hop 0 (by omega);have hio:=z1np (db:=db) hop hk1;have hfew:=h2.few;have hd:=hS.go.deep;have hle:(l.length:Int)≤20000:=by have:=hS.io.2;rw[hio]at this;dsimp only at this;omega
 have htl:r.terms.length≤2000000∧r.aggs.length≤2000000:=by have:=z5t r.terms;have:=z1fj r.aggs;have:=r.sz_eq;have:=hS.go.sz;omega
 have hi:∀x∈l,1≤(ioR db r).1:=fun x hx=>by rw[hio];have:=y4a hx;dsimp only;omega
 have hkey:=fun x(hx:x∈l)=>z220 hS hop (hi x hx) (h2.short x hx);obtain⟨bs,g1,g2,g3⟩:∃bs,bunO (fun w=>nTs r.terms w) r.terms.length w l=some bs∧(bs.length:Int)≤(ioR db r).2∧∀b∈bs,(b.key.length=r.terms.length∧∀v∈b.key,z17 v)∧(∀x∈b.rows,x∈l)∧b.rows.length≤20000:=by
  unfold bunO;rw[if_pos ⟨by omega,by omega,by omega⟩]
  obtain⟨bs,k1,k2,k3⟩:=z26p (f:=fun x=>nTs r.terms (zf w x)) (K:=fun k=>k.length=r.terms.length∧∀v∈k,z17 v) (M:=l) l (if r.terms.length=0 then[⟨[],[]⟩]else[]) (fun x hx=>⟨hx,hkey x hx⟩) (fun b hb'=>by
   split at hb'
   ·rename_i e;rw[yi]at hb';subst hb';exact⟨⟨e.symm,fun v hv=>absurd hv (by simp)⟩,fun x hx=>absurd hx (by simp)⟩
   ·simp at hb')
  have hr:=z196 (N:=0) (fun b hb'=>by
   split at hb'
   ·rw[yi]at hb';subst hb';exact ya _
   ·simp at hb') k1
  refine⟨bs,k1,?_,fun b hb'=>⟨(k3 b hb').1,(k3 b hb').2,by have:=hr b hb';omega⟩⟩;rw[hio,zjp];by_cases e:r.terms.length=0
  ·rw[if_pos e]at k1
   obtain⟨b',hb'⟩:=z21u (f:=fun x=>nTs r.terms (zf w x)) l ⟨[],[]⟩ (fun x hx=>by
    obtain⟨k,q1,q2,_⟩:=hkey x hx
    rw[q1,y10 (q2.trans e)]) rfl
   rw[hb']at k1;rw[←yk k1];simp only[yg];split<;>omega
  ·rw[if_neg e]at k2;simp only[y1w]at k2;dsimp only;split<;>omega
 have hagg:∀b∈bs,∀a∈r.aggs,∃v,nA a w b.rows=some v∧z17 v:=fun b hb' a ha=>by
  obtain⟨_,q2,q3⟩:=g3 b hb';rw[z29t,if_pos (by omega)];obtain⟨s,k1,k2,k3⟩:=znc (f:=fun x=>nHd a.t (zf w x)) (P:=z17) b.rows fun x hx=>by
   rw[z10c];by_cases e:a.t.length=0
   ·rw[if_pos e];exact⟨_,rfl,z3g⟩
   ·rw[if_neg e];refine hS.term hop (hi x (q2 x hx)) _ (y1t _ ?_) x (h2.short x (q2 x hx));have:∀{l:List Agg}{a:Agg}{t:Term},a∈l→t∈a.t→t∈z88 l:=by
     intro l
     induction l with
     |nil=>intro a t h;simp at h
     |cons y l ih=>
      intro a t h ht;rw[z88];rcases yf.1 h with rfl|h
      ·exact y1s _ ht
      ·exact y1t _ (ih h ht)
    exact this ha (z8f (by omega))
  rw[k1,yh,if_pos (by omega)];exact⟨_,rfl,z2dl a k3⟩
 obtain⟨s,k1,k2,k3⟩:=znc (f:=fun b:Bunch=>(nAs r.aggs w b.rows).bind fun vs=>some (b.key++vs)) (P:=fun y=>y.length=r.terms.length+r.aggs.length∧∀v∈y,z17 v) bs fun b hb'=>by
  obtain⟨vs,j1,j2,j3⟩:=znc (P:=z17) r.aggs (hagg b hb');obtain⟨q1,_,_⟩:=g3 b hb';rw[z21r,j1,yh];refine⟨_,rfl,by rw[yb];omega,fun v hv=>?_⟩;rcases yc.1 hv with hv|hv
  ·exact q1.2 v hv
  ·exact j3 v hv
 have hw:z29 r=r.terms.length+r.aggs.length:=by rw[zjn,c,if_neg (by have:z3n 7=1:=rfl;omega),if_neg (by omega),if_neg (by omega),if_pos rfl,z1u (by omega)]
 refine Fine.fin (l:=s) hb ?_ ⟨fun x hx=>(k3 x hx).2,fun x hx=>by rw[(k3 x hx).1,hw];omega,by rw[hS.out];omega⟩;unfold grpO;dsimp only;rw[if_pos (by omega),h1,yh,g1,yh];exact k1
theorem z1hk(G:DbG db)(hS:StepR db r env w)(c:r.op=3∨r.op=8∨r.op=12∨r.op=13)(g:Rows→Rows)(hg:∀l,(g l).length≤l.length∧∀x∈g l,x∈l):∃l,((nKid r.kids 0 w).bind fun l=>some (g l)).bind capQ=some l∧Fine db r l:=by
 have hb:=(z5x G.rows hS.go.sz).1.2;have hk:=(z56 hS.go.v).1.1;have hk1:r.kids.length=1:=by
  have:z3n r.op=1:=by rcases c with e|e|e|e<;>rw[e]<;>rfl
  omega
 obtain⟨l,h1,h2⟩:=hS.kid (by omega) 0 (by omega);have hio:=z1np (db:=db) (by omega) hk1;have hfew:=h2.few;obtain⟨g1,g2⟩:=hg l;refine Fine.fin (l:=g l) hb (by rw[h1];rfl) (h2.sub (z1up c hk1) g2 ?_);rw[hS.out,hio,zjp];dsimp only;split<;>omega
theorem z2g8(G:DbG db)(hS:StepR db r env w)(c:r.op=9∨r.op=10∨r.op=11):∃l,(setO (fun w=>nKid r.kids 0 w) (fun w=>nKid r.kids 1 w) r.op r.all w).bind capQ=some l∧Fine db r l:=by
 have hb:=(z5x G.rows hS.go.sz).1.2;obtain⟨⟨hk,_⟩,_,_,_,_,hrest⟩:=z56 hS.go.v;have hk2:r.kids.length=2:=by
  have:z3n r.op=2:=by rcases c with e|e|e<;>rw[e]<;>rfl
  omega
 have hop:r.op≠1:=by omega
 obtain⟨a,h1,h2⟩:=hS.kid hop 0 (by omega);obtain⟨b,h3,h4⟩:=hS.kid hop 1 (by omega);have m0:r.kids.getD 0 za∈r.kids:=z8f (by omega);have m1:r.kids.getD 1 za∈r.kids:=z8f (by omega);have w0:=(z5x G.rows (show(r.kids.getD 0 za).sz≤2000000 by have:=z9j m0;have:=hS.go.sz;omega)).1;have w1:=(z5x G.rows (show(r.kids.getD 1 za).sz≤2000000 by have:=z9j m1;have:=hS.go.sz;omega)).1;have hio:(ioR db r).2=(wghR db (r.kids.getD 0 za)).1+(wghR db (r.kids.getD 1 za)).1:=by
  unfold ioR ioW;rw[if_neg hop,if_neg (by rw[yq];omega),if_neg (by rw[yq];omega),if_neg (by omega),zfk db r 0 (by omega),zfk db r 1 (by omega),z1u (by omega)]
 unfold zdp at hrest;rw[if_neg (by omega),if_neg (by omega),if_neg (by omega),if_neg (by omega),if_neg (by omega),if_neg (by omega),if_pos c,beq_iff_eq]at hrest;have f0:=h2.few;have f1:=h4.few;obtain⟨u,e,hu,hul⟩:∃u,(if r.op=9 then capQ (a++b)else some a)=some u∧(∀x∈u,x∈a∨x∈b)∧u.length≤a.length+b.length:=by
  by_cases c9:r.op=9
  ·refine⟨a++b,?_,fun x hx=>yc.1 hx,by rw[yb];omega⟩;rw[if_pos c9];unfold capQ;rw[if_pos (by rw[yb];omega)]
  ·exact⟨a,by rw[if_neg c9],fun x hx=>.inl hx,by omega⟩
 obtain⟨g1,g2⟩:=z2g7 r.op r.all u b;have hw:=z2dp c hk2;refine Fine.fin (l:=setE r.op r.all u b) hb ?_ ⟨fun x hx=>?_,fun x hx=>?_,by rw[hS.out,hio];omega⟩
 ·unfold setO;dsimp only;rw[h1,yh,h3,yh,e,yh]
 ·rcases hu x (g2 x hx)with h|h
  ·exact h2.short x h
  ·exact h4.short x h
 ·rcases hu x (g2 x hx)with h|h
  ·rw[h2.wide x h,hw]
  ·rw[h4.wide x h,hw,hrest]
theorem z2g9(G:DbG db)(hT:TOK db n)(hR:ROK db n):ROK db (n+1):=by
 intro r env w hn h;have hS:=StepR.mk' G hT hR hn h;rw[z12i];by_cases c1:r.op=1
 ·rw[if_pos c1];exact z29y G hS c1
 rw[if_neg c1];by_cases c2:r.op=2
 ·rw[if_pos c2];exact z2dq G hS c2
 rw[if_neg c2];by_cases c3:r.op=3
 ·rw[if_pos c3];exact z25e G hS c3
 rw[if_neg c3];by_cases c4:r.op=4
 ·rw[if_pos c4];exact z221 G hS c4
 rw[if_neg c4];by_cases c5:r.op=5∨r.op=6
 ·rw[if_pos c5];exact z2dr G hS c5
 rw[if_neg c5];by_cases c7:r.op=7
 ·rw[if_pos c7];exact z29z G hS c7
 rw[if_neg c7];by_cases c8:r.op=8
 ·rw[if_pos c8];exact z1hk G hS (.inr (.inl c8)) z1d zgt
 rw[if_neg c8];by_cases c9:r.op=9∨r.op=10∨r.op=11
 ·rw[if_pos c9];exact z2g8 G hS c9
 rw[if_neg c9];by_cases c12:r.op=12
 ·rw[if_pos c12];exact z1hk G hS (.inr (.inr (.inl c12))) (fun l=>z4z l r.keys) fun l=>z25c l r.keys
 rw[if_neg c12];by_cases c13:r.op=13
 ·rw[if_pos c13];exact z1hk G hS (.inr (.inr (.inr c13))) (fun l=>z3h l r.limit r.skip) fun l=>z25b l r.limit r.skip
 rw[if_neg c13];exact Fine.fin (z5x G.rows h.sz).1.2 rfl ⟨fun x hx=>absurd hx (by simp),fun x hx=>absurd hx (by simp),(z5x G.rows h.sz).1.1⟩
end
theorem z198{db:List Data}(G:DbG db):∀n,TOK db n∧ROK db n
 |0=>⟨fun _ _ _ h=>absurd h (y18 _),fun _ _ _ h=>absurd h (y18 _)⟩
 |n+1=>⟨z2dn G (z198 G n).1 (z198 G n).2,z2g9 G (z198 G n).1 (z198 G n).2⟩
theorem z2jq{db:List Data}(G:DbG db){r:Rel}{env:List Int}{w:Wld}(h:GoR db r env w):∃l,nR r w=some l∧Fine db r l:=(z198 G (r.ht+1)).2 r env w (y3a _) h
theorem z2ga{db:List Data}{r:Rel}(h:zpn r db=true)(hs:r.sz≤2000000)(hc:clR r≤2000000)(ht:txR r):GoR db r [] ⟨[],db⟩:=by
 unfold zpn z17k at h;simp only[yp,y20]at h;obtain⟨_,_,_,_,_,h1,h2,_,h3⟩:=h;refine⟨h1,h2,hs,hc,ht,?_,rfl,fun x hx=>absurd hx (by simp),by have:=z17l r;simp only[y1w];omega⟩;unfold zpm z7j at h3;simpa using h3
end B
end Go.Proofs.YtjfpbchdcbhfgaaGreat
