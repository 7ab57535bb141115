/- Part 25 of the proof: Lstabs Lstx4 Lput Lstx5 Lordr Lnord. -/
import Derived.Sort.WalkA
import Derived.Sort.Grow
import Derived.Sort.Statements
import Derived.Test.YtjfpbchdcbhfgaaGreatNsrt24
namespace Go.Proofs.YtjfpbchdcbhfgaaGreat.B
open Go Go.Sort
set_option linter.unusedVariables false
section
variable {α:Type} [Inhabited α]
theorem zzb {lt le:α→α→Bool} (hle:∀ x y,le x y=!lt y x) (h:Pre le) : ∀ (n:Nat) (S:List α) (d:Array α) (P Q:List α) (x:α) (a j:Nat),S.length=n→SrtS le S→a=P.length→j=P.length+S.length→d.toList=P++(S++x::Q)→(insInner lt a j d).toList=P++(insS le S x++Q)
 | 0,S,d,P,Q,x,a,j,hn,hS,ha,hj,hd=>by
  rw[List.eq_nil_of_length_eq_zero hn] at hd ⊢
  have : j=a:=by omega
  subst this
  have e:insInner lt j j d=d:=by
   cases j with
   | zero=>rfl
   | succ j=>rw[insInner];simp
  rw[e,hd];rfl
 | n+1,S,d,P,Q,x,a,j,hn,hS,ha,hj,hd=>by
  rcases List.eq_nil_or_concat S with rfl | ⟨S',y,rfl⟩
  ·simp at hn
  rw[List.concat_eq_append] at *
  simp at hn
  have hj':j=(P.length+S'.length)+1:=by simp at hj;omega
  subst hj'
  have hy:d[P.length+S'.length]! = y:=zda (P:=P++S') (Q:=x::Q) (by rw[hd];simp) (by simp)
  have hx:d[P.length+S'.length+1]! = x:=zda (P:=P++(S'++[y])) (Q:=Q) (by rw[hd];simp) (by simp;omega)
  have hS':SrtS le S':=(List.pairwise_append.1 hS).1
  rw[insInner,hx,hy]
  have ga:decide (P.length+S'.length+1 > a)=true:=decide_eq_true (by omega)
  rw[ga,Bool.true_and]
  by_cases c : lt x y=true
  ·have hyx:le y x=false:=by rw[hle,c];rfl
   rw[if_pos c]
   have s:=z1l4 (d:=d) (P:=P++S') (M:=[]) (Q:=Q) (x:=y) (y:=x) (by rw[hd];simp) (i:=P.length+S'.length) (j:=P.length+S'.length+1) (by simp) (by simp)
   rw[zzb hle h n S' _ P (y::Q) x a (P.length+S'.length) hn hS' ha rfl (by rw[s];simp)]
   unfold insS
   have e1:(S'++[y]).takeWhile (fun z=>le z x)=S'.takeWhile fun z=>le z x:=by
    rw[List.takeWhile_append]
    split
    ·rename_i hl
     rw[List.takeWhile_cons,if_neg (by rw[hyx];simp),List.append_nil]
     exact ((List.takeWhile_prefix _).eq_of_length hl).symm
    ·rfl
   have e2:(S'++[y]).dropWhile (fun z=>le z x)=S'.dropWhile (fun z=>le z x)++[y]:=by
    rw[List.dropWhile_append]
    split
    ·rename_i hl
     rw[List.isEmpty_iff] at hl
     rw[hl,List.dropWhile_cons,if_neg (by rw[hyx];simp)];rfl
    ·rfl
   rw[e1,e2];simp
  ·have hyx:le y x=true:=by rw[hle];simpa using c
   rw[if_neg c,hd]
   have hall:∀ z∈S'++[y],le z x=true:=fun z hz=>by
    rcases List.mem_append.1 hz with hz | hz
    ·exact h.trans z y x ((List.pairwise_append.1 hS).2.2 z hz y (by simp)) hyx
    ·rw[List.mem_singleton] at hz;subst hz;exact hyx
   unfold insS
   have w1:(S'++[y]).takeWhile (fun z=>le z x)=S'++[y]:=by
    have:=List.takeWhile_append_of_pos (p:=fun z=>le z x) (l₁:=S'++[y]) (l₂:=[]) hall
    rw[List.append_nil,List.takeWhile_nil,List.append_nil] at this
    exact this
   have w2:(S'++[y]).dropWhile (fun z=>le z x)=[]:=by
    have:=List.dropWhile_append_of_pos (p:=fun z=>le z x) (l₁:=S'++[y]) (l₂:=[]) hall
    rw[List.append_nil,List.dropWhile_nil] at this
    exact this
   rw[w1,w2]
   simp
theorem zzc {lt le:α→α→Bool} (hle:∀ x y,le x y=!lt y x) (h:Pre le) : ∀ (R S:List α) (d:Array α) (P Q:List α) (a b i:Nat),SrtS le S→a=P.length→i=P.length+S.length→b=P.length+S.length+R.length→d.toList=P++(S++(R++Q))→(insOuter lt a b i d).toList=P++(R.foldl (insS le) S++Q)
 | [],S,d,P,Q,a,b,i,hS,ha,hi,hb,hd=>by
  rw[insOuter,if_neg (by simp at hb;omega),hd];simp
 | x::R,S,d,P,Q,a,b,i,hS,ha,hi,hb,hd=>by
  rw[insOuter,if_pos (by simp at hb;omega)]
  have e:=zzb hle h _ S d P (R++Q) x a i rfl hS ha hi (by rw[hd];simp)
  have hl:(insS le S x).length=S.length+1:=(z1l3 S x).length_eq
  rw[zzc hle h R (insS le S x) _ P Q a b (i+1) (z1qk h hS x) ha (by omega) (by simp at hb;omega) e,List.foldl_cons]
theorem zvj {lt le:α→α→Bool} (hle:∀ x y,le x y=!lt y x) (h:Pre le) {d:Array α} {P L Q:List α} {a b:Nat} (ha:a=P.length) (hb:b=P.length+L.length) (hd:d.toList=P++(L++Q)) : (Sort.insertionSort lt d a b).toList=P++(z2f le L++Q):=by
 unfold Sort.insertionSort
 cases L with
 | nil =>
  rw[insOuter,if_neg (by simp at hb;omega),hd];rfl
 | cons x R =>
  rw[zzc hle h R [x] d P Q a b (a+1) (List.pairwise_singleton _ _) ha (by simp;omega) (by simp at hb ⊢;omega) (by rw[hd];simp)]
  rfl
def chS (le:α→α→Bool) (bs:Nat) (L:List α) : List α:=if h : 0<bs∧bs≤L.length then z2f le (L.take bs)++chS le bs (L.drop bs) else z2f le L
termination_by L.length
decreasing_by rw[List.length_drop];omega
theorem z224 {lt le:α→α→Bool} (hle:∀ x y,le x y=!lt y x) (h:Pre le) (bs n:Nat) (hb:0<bs) : ∀ (k:Nat) (L:List α) (d:Array α) (P:List α) (a:Nat),L.length=k→a=P.length→n=P.length+L.length→d.toList=P++L→(stB lt d a n bs).toList=P++chS le bs L:=by
 intro k
 induction k using Nat.strongRecOn with
 | _ k ih =>
  intro L d P a hk ha hn hd
  rw[stB,chS]
  by_cases c : a+bs≤n
  ·rw[dif_pos ⟨hb,c⟩,dif_pos ⟨hb,by omega⟩]
   have e:=zvj hle h (d:=d) (P:=P) (L:=L.take bs) (Q:=L.drop bs) (a:=a) (b:=a+bs) ha (by rw[List.length_take];omega) (by rw[List.take_append_drop];exact hd)
   rw[ih (L.length - bs) (by omega) (L.drop bs) _ (P++z2f le (L.take bs)) (a+bs) (by rw[List.length_drop]) (by rw[List.length_append,z6b h,List.length_take];omega) (by rw[List.length_append,z6b h,List.length_take,List.length_drop];omega) (by rw[e];simp)]
   simp
  ·rw[dif_neg (by omega),dif_neg (by omega)]
   have e:=zvj hle h (d:=d) (P:=P) (L:=L) (Q:=[]) (a:=a) (b:=n) ha hn (by rw[hd];simp)
   rw[e];simp
omit [Inhabited α] in
theorem z1zu {le:α→α→Bool} : z2f le ([] : List α)=[]:=rfl
omit [Inhabited α] in
theorem zm6 {le:α→α→Bool} {bs:Nat} {L:List α} (h:L.length≤bs) (hb:0<bs) : chS le bs L=z2f le L:=by
 rw[chS]
 by_cases c : bs≤L.length
 ·rw[dif_pos ⟨hb,c⟩,List.take_of_length_le h,List.drop_of_length_le h,chS,dif_neg (by simp;omega),z1zu,List.append_nil]
 ·rw[dif_neg (by omega)]
theorem z225 {lt le:α→α→Bool} (hle:∀ x y,le x y=!lt y x) (h:Pre le) (bs n:Nat) (hb:0<bs) : ∀ (k:Nat) (L:List α) (d:Array α) (P:List α) (a:Nat),L.length=k→a=P.length→n=P.length+L.length→d.toList=P++chS le bs L→(stM lt d a n bs).toList=P++chS le (2*bs) L:=by
 intro k
 induction k using Nat.strongRecOn with
 | _ k ih =>
  intro L d P a hk ha hn hd
  rw[stM]
  by_cases c : a+2*bs≤n
  ·rw[dif_pos ⟨hb,c⟩]
   have e1:chS le bs L=z2f le (L.take bs)++(z2f le ((L.drop bs).take bs)++chS le bs (L.drop (2*bs))):=by
    rw[chS,dif_pos ⟨hb,by omega⟩,chS,dif_pos ⟨hb,by rw[List.length_drop];omega⟩,List.drop_drop,show bs+bs=2*bs by omega]
   have l1:(z2f le (L.take bs)).length=bs:=by rw[z6b h,List.length_take];omega
   have l2:(z2f le ((L.drop bs).take bs)).length=bs:=by rw[z6b h,List.length_take,List.length_drop];omega
   have e:=z1l5 hle h (2*bs) d P (z2f le (L.take bs)) (z2f le ((L.drop bs).take bs)) (chS le bs (L.drop (2*bs))) a (a+bs) (a+2*bs) ha (by omega) (by omega) (by omega) (by omega) (by omega) (zc5 h _) (zc5 h _) (by rw[hd,e1])
   rw[z16n h,show L.take bs++(L.drop bs).take bs=L.take (2*bs) by rw[show 2*bs=bs+bs by omega,List.take_add]] at e
   rw[ih (L.length - 2*bs) (by omega) (L.drop (2*bs)) _ (P++z2f le (L.take (2*bs))) (a+2*bs) (by rw[List.length_drop]) (by rw[List.length_append,z6b h,List.length_take];omega) (by rw[List.length_append,z6b h,List.length_take,List.length_drop];omega) (by rw[e];simp)]
   conv=>rhs;rw[chS,dif_pos ⟨by omega,by omega⟩]
   simp
  ·rw[dif_neg (by omega),zm6 (bs:=2*bs) (by omega) (by omega)]
   by_cases c2 : a+bs<n
   ·rw[if_pos c2]
    have e1:chS le bs L=z2f le (L.take bs)++z2f le (L.drop bs):=by
     rw[chS,dif_pos ⟨hb,by omega⟩,zm6 (by rw[List.length_drop];omega) hb]
    have l1:(z2f le (L.take bs)).length=bs:=by rw[z6b h,List.length_take];omega
    have l2:(z2f le (L.drop bs)).length=L.length - bs:=by rw[z6b h,List.length_drop]
    have e:=z1l5 hle h (n - a) d P (z2f le (L.take bs)) (z2f le (L.drop bs)) [] a (a+bs) n ha (by omega) (by omega) (by omega) (by omega) (by omega) (zc5 h _) (zc5 h _) (by rw[hd,e1];simp)
    rw[e,z16n h,List.take_append_drop,List.append_nil]
   ·rw[if_neg c2,hd,zm6 (by omega) hb]
theorem z226 {lt le:α→α→Bool} (hle:∀ x y,le x y=!lt y x) (h:Pre le) (n:Nat) (L:List α) (hn:n=L.length) : ∀ (k bs:Nat) (d:Array α),0<bs→n - bs≤k→d.toList=chS le bs L→(stR lt d n bs).toList=z2f le L:=by
 intro k
 induction k with
 | zero =>
  intro bs d hb hk hd
  rw[stR,dif_neg (by omega),hd,zm6 (by omega) hb]
 | succ k ih =>
  intro bs d hb hk hd
  rw[stR]
  by_cases c : bs<n
  ·rw[dif_pos ⟨hb,c⟩]
   have e:=z225 hle h bs n hb _ L d [] 0 rfl rfl (by simp;omega) (by rw[hd];simp)
   rw[List.nil_append] at e
   exact ih (2*bs) _ (by omega) (by omega) e
  ·rw[dif_neg (by omega),hd,zm6 (by omega) hb]
theorem z227 {lt le:α→α→Bool} (hle:∀ x y,le x y=!lt y x) (h:Pre le) (d:Array α) : (stF lt d d.size).toList=z2f le d.toList:=by
 unfold stF
 have e:=z224 hle h 20 d.size (by omega) _ d.toList d [] 0 rfl rfl (by simp) (by simp)
 rw[List.nil_append] at e
 exact z226 hle h d.size d.toList (by simp) _ 20 _ (by omega) (Nat.le_refl _) e
end
end Go.Proofs.YtjfpbchdcbhfgaaGreat.B
namespace Go.Proofs.YtjfpbchdcbhfgaaGreat.B
open Go Go.RowKit Go.Shelf Go.Lib Go.Sort
set_option maxRecDepth 1000000
set_option linter.unusedVariables false
noncomputable section
variable {α:Type} [Inhabited α]
set_option maxHeartbeats 8000000 in
theorem z25j (enc:α→Value) (cf:α→α→Int) (g:Nat) (cb:Array Value) (blk off cap a b:Nat) (d0 d:Array α) (w0 w:World)
  (eg:∀ args w,(callFunc g args).run Tryz.prog w=.ok (.enter g args) w) (hcmp:CmpX Tryz.prog g cb enc cf blk off d0.size w0)
  (R:Row1 enc w0 blk off d0) (hs:d0.size=d.size) (S:SX enc w0 blk off d w) (hab:a≤b) (hb:b≤d.size) (hsz:d.size<4611686018427387904) :
  Calls Tryz.prog 226 #[.slice (some ⟨blk,off,none⟩) d.size cap,.int .i64 a,.int .i64 b,.func (.func g) #[] cb] w fun e w'=>e=.returned (.tuple #[])∧SX enc w0 blk off (Sort.insertionSort (ltOf cf) d a b) w':=by
 have mixed:Tryz.prog.follows .mixedOrders=true:=by kernel_rfl
 have hcl0:=R.hO.cells
 simp only[Value.cells] at hcl0
 have hst:=R.hO.store Tryz.prog
 have S0:Aside (SX enc w0 blk off d w):=S
 have HC:Aside _:=hcmp
 clear S hcmp
 go_enter Tryz.func226,Tryz.ntmps226
 go_wp2_with fail
 go_loopg [8] (b - a) (fun kx s8 wr=>∃ (i:Nat) (dk:Array α),s8=.int .i64 i∧a<i∧i≤b+1∧b - i≤kx∧dk.size=d.size∧Aside (SX enc w0 blk off dk wr)∧Hid (insOuter (ltOf cf) a b i dk=Sort.insertionSort (ltOf cf) d a b))
 case atStart=>exact⟨a+1,d,by go_num,by omega,by omega,by omega,rfl,S0,rfl⟩
 case round =>
  clear S0
  obtain⟨i,dk,rfl,hai,hib,hkx,hds,S1,HQ⟩:=hrel
  by_cases hlt : i<b
  ·have hltz:(i:Int)<(b:Int):=by omega
   have HQ2:Hid (insOuter (ltOf cf) a b (i+1) (insInner (ltOf cf) a i dk)=Sort.insertionSort (ltOf cf) d a b):=by
    show _=_
    rw[← HQ.out];conv=>rhs;rw[insOuter,if_pos hlt]
   clear HQ
   go_wp2_with fail
   go_loopg [9] i (fun ky s9 wr=>∃ (j:Nat) (dj:Array α),s9=.int .i64 j∧a≤j∧j≤i∧j≤ky∧dj.size=d.size∧Aside (SX enc w0 blk off dj wr)∧Hid (insInner (ltOf cf) a j dj=insInner (ltOf cf) a i dk))
   case atStart=>exact⟨i,dk,rfl,by omega,Nat.le_refl _,Nat.le_refl _,hds,S1,rfl⟩
   case round =>
    clear S1
    obtain⟨j,dj,rfl,haj,hji,hky,hdj,S1,HI⟩:=hrel
    by_cases hja : a<j
    ·obtain⟨jN1,hjN1⟩ : ∃ q,q=j - 1:=⟨_,rfl⟩
     have hjad:decide ((j:Int) > (a:Int))=true:=decide_eq_true (by omega)
     have hjaz:(a:Int)<(j:Int):=by omega
     have ez1:((j:Int) - 1)=(jN1:Int):=by omega
     have rz1:IntKind.i64.wrap ((j:Int) - 1)=(jN1:Int):=by rw[IntKind.wrap_i64];omega
     have rb1:IntKind.i64.wrap (jN1:Int)=(jN1:Int):=by rw[IntKind.wrap_i64];omega
     have ea1:((j:Int)).toNat=j:=by omega
     have pa1:(0:Int)≤(j:Int):=by omega
     have ba1:(j:Int)<(d.size:Int):=by omega
     have ec1:((jN1:Int)).toNat=jN1:=by omega
     have pc1:(0:Int)≤(jN1:Int):=by omega
     have bc1:(jN1:Int)<(d.size:Int):=by omega
     obtain⟨x1,hx1⟩ : ∃ x,x=dj[j]!:=⟨_,rfl⟩
     obtain⟨y1,hy1⟩ : ∃ x,x=dj[jN1]!:=⟨_,rfl⟩
     have l1a:=S1.out.cl R (by omega) j (by omega)
     have l1b:=S1.out.cl R (by omega) jN1 (by omega)
     rw[← hx1] at l1a
     rw[← hy1] at l1b
     have hc1:=S1.out.cmp HC.out (by omega) x1 y1
     have hlt1:ltOf cf dj[j]! dj[j - 1]! = decide (cf x1 y1<0):=by rw[← hjN1,hx1,hy1];rfl
     have HL:=Lib.hid hlt1
     have HJ:=Lib.hid hjN1
     have HX:=Lib.hid hx1
     have HY:=Lib.hid hy1
     clear hlt1 hx1 hy1 hjN1
     by_cases hv : cf x1 y1<0
     ·have hd1:decide (cf x1 y1<0)=true:=decide_eq_true hv
      go_wp2_with fail
      refine wp_region_quiet_below (by assumption) (by kernel_rfl) ?_
      repeat (quiet_step (first | (go_at_fn g;refine Calls.regrown_of (hc1 _ _))))
      refine wpQuiet_nil ?_
      intro _ hw'
      obtain⟨⟨nq,osq⟩,hw''⟩:=hw'
      subst hw''
      have S2:Aside (SX enc w0 blk off dj (grow (redrawn wr nq) osq)):=S1.out.regrown nq osq
      clear l1a l1b hc1 S1
      generalize grow (redrawn wr nq) osq=w2 at S2 ⊢
      clear nq osq
      have S3:Aside (SX enc w0 blk off (swp dj j jN1) ((w2.setCell ⟨blk,off+j,none⟩ (enc y1)).setCell ⟨blk,off+jN1,none⟩ (enc x1)).drew):=by rw[HX.out,HY.out];exact S2.out.swapped R j jN1 (by omega) (by omega)
      have c1a:=S2.out.c1 R (by omega) j (by omega)
      have c1b:=S2.out.c1 R (by omega) jN1 (by omega)
      have f1a:=S2.out.f1 R (by omega) j (by omega)
      have f1b:=S2.out.f1 R (by omega) jN1 (by omega)
      obtain⟨u1,c1c⟩:=S2.out.c2 R (by omega) j jN1 (by omega) (by omega) (enc y1)
      rw[← HX.out] at c1a
      rw[← HY.out] at c1b
      clear S2
      go_wp2_with fail
      go_big_region_o
      clear c1a c1b c1c f1a f1b
      generalize ((w2.setCell ⟨blk,off+j,none⟩ (enc y1)).setCell ⟨blk,off+jN1,none⟩ (enc x1)).drew=w3 at S3 ⊢
      go_wp2_with fail
      have hjn:=HJ.out
      go_roundg jN1
      case measure=>omega
      case rel =>
       refine⟨jN1,swp dj j jN1,by first | rfl | go_num,by omega,by omega,Nat.le_refl _,by rw[size_swp];exact hdj,S3,?_⟩
       show _=_
       rw[← HI.out,insInner_go (ltOf cf) a j dj hja (by rw[HL.out,hd1]),hjn]
     ·have hd1:decide (cf x1 y1<0)=false:=decide_eq_false hv
      go_wp2_with fail
      refine wp_region_quiet_below (by assumption) (by kernel_rfl) ?_
      repeat (quiet_step (first | (go_at_fn g;refine Calls.regrown_of (hc1 _ _))))
      refine wpQuiet_nil ?_
      intro _ hw'
      obtain⟨⟨nq,osq⟩,hw''⟩:=hw'
      subst hw''
      have S2:Aside (SX enc w0 blk off dj (grow (redrawn wr nq) osq)):=S1.out.regrown nq osq
      clear l1a l1b hc1 S1
      generalize grow (redrawn wr nq) osq=w2 at S2 ⊢
      clear nq osq
      go_wp2_with fail
      go_roundg (b - (i+1))
      case measure=>omega
      case rel =>
       refine⟨i+1,dj,by go_num,by omega,by omega,Nat.le_refl _,hdj,S2,?_⟩
       show _=_
       rw[← HQ2.out,← HI.out,insInner_stop (ltOf cf) a j dj (.inr (by rw[HL.out,hd1]))]
    ·have hjad:decide ((j:Int) > (a:Int))=false:=decide_eq_false (by omega)
     have hjaz:¬ (a:Int)<(j:Int):=by omega
     go_wp2_with fail
     go_big_region_o
     have S2:Aside (SX enc w0 blk off dj wr.drew):=S1.out.drew
     clear S1
     generalize wr.drew=w2 at S2 ⊢
     go_wp2_with fail
     go_roundg (b - (i+1))
     case measure=>omega
     case rel =>
      refine⟨i+1,dj,by go_num,by omega,by omega,Nat.le_refl _,hdj,S2,?_⟩
      show _=_
      rw[← HQ2.out,← HI.out,insInner_stop (ltOf cf) a j dj (.inl (by omega))]
  ·have hltz:¬ (i:Int)<(b:Int):=by omega
   go_wp2_with fail
   go_end0
   exact⟨rfl,by rw[← HQ.out,insOuter,if_neg hlt];exact S1.out⟩
theorem z1qp (lt:α→α→Bool) (d:Array α) (a b:Nat) : (Sort.insertionSort lt d a b).size=d.size:=by
 have inner:∀ (j:Nat) (d:Array α),(insInner lt a j d).size=d.size:=by
  intro j
  induction j with
  | zero=>intro d;rfl
  | succ j ih =>
   intro d
   rw[insInner]
   split
   ·rw[ih,size_swp]
   ·rfl
 have outer:∀ (k i:Nat) (d:Array α),b - i≤k→(insOuter lt a b i d).size=d.size:=by
  intro k
  induction k with
  | zero=>intro i d h;rw[insOuter,if_neg (by omega)]
  | succ k ih =>
   intro i d h
   rw[insOuter]
   split
   ·rw[ih _ _ (by omega),inner]
   ·rfl
 exact outer _ _ _ (Nat.le_refl _)
theorem z228 (lt:α→α→Bool) (n bs:Nat) : ∀ (k a:Nat) (d:Array α),n - a≤k→(stM lt d a n bs).size=d.size:=by
 intro k
 induction k with
 | zero=>intro a d h;rw[stM,dif_neg (by omega)];split<;>first | rfl | rw[zhz]
 | succ k ih =>
  intro a d h
  rw[stM]
  split
  ·rw[ih _ _ (by omega),zhz]
  ·split<;>first | rfl | rw[zhz]
attribute [local irreducible] symF Sort.insertionSort in
set_option maxHeartbeats 4000000 in
theorem z229 (enc:α→Value) (cf:α→α→Int) (g:Nat) (cb:Array Value) (blk off cap:Nat) (d0 d:Array α) (w0 w:World)
  (eg:∀ args w,(callFunc g args).run Tryz.prog w=.ok (.enter g args) w) (hcmp:CmpX Tryz.prog g cb enc cf blk off d0.size w0)
  (R:Row1 enc w0 blk off d0) (hs:d0.size=d.size) (S:SX enc w0 blk off d w) (hsz:d.size<1152921504606846976) :
  Calls Tryz.prog 191 #[.slice (some ⟨blk,off,none⟩) d.size cap,.int .i64 d.size,.func (.func g) #[] cb] w fun e w'=>e=.returned (.tuple #[])∧SX enc w0 blk off (stF (ltOf cf) d d.size) w':=by
 have mixed:Tryz.prog.follows .mixedOrders=true:=by kernel_rfl
 have HC:Aside _:=hcmp
 have S0:Aside (SX enc w0 blk off d w):=S
 clear S hcmp
 have hins:∀ (dk:Array α) (W:World) (x y:Nat),dk.size=d.size→SX enc w0 blk off dk W→x≤y→y≤d.size →
   Calls Tryz.prog 226 #[.slice (some ⟨blk,off,none⟩) d.size cap,.int .i64 x,.int .i64 y,.func (.func g) #[] cb] W fun e w'=>e=.returned (.tuple #[])∧SX enc w0 blk off (Sort.insertionSort (ltOf cf) dk x y) w':=fun dk W x y h1 h2 h3 h4=>by
  have:=z25j enc cf g cb blk off cap x y d0 dk w0 W eg HC.out R (by omega) h2 h3 (by omega) (by omega)
  rwa [h1] at this
 have hsym:∀ (f:Nat) (dk:Array α) (W:World) (x y z:Nat),dk.size=d.size→SX enc w0 blk off dk W→x<y→y<z→z≤d.size→z - x≤f →
   Calls Tryz.prog 227 #[.slice (some ⟨blk,off,none⟩) d.size cap,.int .i64 x,.int .i64 y,.int .i64 z,.func (.func g) #[] cb] W fun e w'=>e=.returned (.tuple #[])∧SX enc w0 blk off (symF (ltOf cf) f dk x y z) w':=fun f dk W x y z h1 h2 h3 h4 h5 h6=>by
  have:=z25i enc cf g cb blk off cap d0 w0 eg HC.out R (by omega) f dk W x y z (by omega) h2 h3 h4 (by omega) h6
  rwa [h1] at this
 have HI:=Lib.hid hins
 have HS:=Lib.hid hsym
 clear hins hsym
 obtain⟨n,hn⟩ : ∃ n,n=d.size:=⟨_,rfl⟩
 rw[← hn] at HI HS hsz ⊢
 have HN:=Lib.hid hn
 clear hn
 go_enter Tryz.func191,Tryz.ntmps191
 go_wp2_with fail
 go_loopg [7,8] n (fun kx s7 s8 wr=>∃ (a b:Nat) (dk:Array α),s7=.int .i64 a∧s8=.int .i64 b∧Hid (b=a+20)∧a≤n∧n - a≤kx∧dk.size=d.size∧Aside (SX enc w0 blk off dk wr)∧Hid (stB (ltOf cf) dk a n 20=stB (ltOf cf) d 0 n 20))
 case atStart=>exact⟨0,20,d,by go_num,by go_num,rfl,Nat.zero_le _,by omega,rfl,S0,rfl⟩
 case round =>
  clear S0
  obtain⟨a,b,dk,rfl,rfl,HB,han,hkx,hds,S1,HQ⟩:=hrel
  by_cases hle : b≤n
  ·have hlez:(b:Int)≤(n:Int):=by omega
   go_wp2_with (first
    | (go_at_call 226;refine (HI.out _ _ _ _ (hds.trans HN.out.symm) S1.out (by have:=HB.out;omega) hle).mono ?_;rintro e1 w1 ⟨rfl,T⟩;have S1:=Lib.hid T;clear T)
    | fail)
   have hb:=HB.out
   go_roundg (n - b)
   case measure=>omega
   case rel =>
    refine⟨b,b+20,_,rfl,by go_num,rfl,hle,Nat.le_refl _,by rw[z1qp];exact hds,S1.out,?_⟩
    show _=_
    rw[← HQ.out];conv=>rhs;rw[stB,dif_pos ⟨by omega,by omega⟩]
    rw[hb]
  ·have hlez:¬ (b:Int)≤(n:Int):=by omega
   have hb:=HB.out
   have hq:stB (ltOf cf) d 0 n 20=Sort.insertionSort (ltOf cf) dk a n:=by rw[← HQ.out,stB,dif_neg (by omega)]
   have HQ2:=Lib.hid hq
   clear hb hq
   go_wp2_with (first
    | (go_at_call 226;refine (HI.out _ _ _ _ (hds.trans HN.out.symm) S1.out han (Nat.le_refl _)).mono ?_;rintro e1 w1 ⟨rfl,T⟩;have S1:=Lib.hid T;clear T)
    | fail)
   have hd1:(Sort.insertionSort (ltOf cf) dk a n).size=d.size:=by rw[z1qp];exact hds
   rw[← HQ2.out] at hd1
   have S2:Aside (SX enc w0 blk off (stB (ltOf cf) d 0 n 20) w1):=by rw[HQ2.out];exact S1.out
   clear HQ2 HQ S1 hds
   have hR:Hid (stR (ltOf cf) (stB (ltOf cf) d 0 n 20) n 20=stF (ltOf cf) d n):=rfl
   generalize stB (ltOf cf) d 0 n 20=d1 at hd1 S2 hR
   go_loopg [6,7,8,9] n (fun kx s6 s7 s8 s9 wr=>∃ (bs:Nat) (dk:Array α),s6=.int .i64 bs∧0<bs∧bs≤2*n+20∧n - bs≤kx∧dk.size=d.size∧Aside (SX enc w0 blk off dk wr)∧Hid (stR (ltOf cf) dk n bs=stF (ltOf cf) d n))
   case atStart=>exact⟨20,d1,by go_num,by omega,by omega,by omega,hd1,S2,hR⟩
   case round =>
    clear S2 hR hd1
    obtain⟨bs,dk,rfl,hb0,hb2,hkx,hds,S1,HQ⟩:=hrel
    by_cases c : bs<n
    ·have cz:(bs:Int)<(n:Int):=by omega
     go_wp2_with fail
     go_loopg [7,8] n (fun ky s7 s8 wr=>∃ (a b:Nat) (dj:Array α),s7=.int .i64 a∧s8=.int .i64 b∧Hid (b=a+2*bs)∧a≤n∧n - a≤ky∧dj.size=d.size∧Aside (SX enc w0 blk off dj wr)∧Hid (stM (ltOf cf) dj a n bs=stM (ltOf cf) dk 0 n bs))
     case atStart=>exact⟨0,2*bs,dk,by go_num,by go_num,(show Hid _ from (by omega:2*bs=0+2*bs)),Nat.zero_le _,by omega,hds,S1,rfl⟩
     case round =>
      clear S1
      obtain⟨a,b,dj,rfl,rfl,HB,han,hky,hdj,S1,HM⟩:=hrel
      obtain⟨mm,hmm⟩ : ∃ q,q=a+bs:=⟨_,rfl⟩
      have hmz:(a:Int)+(bs:Int)=(mm:Int):=by omega
      have HMM:=Lib.hid hmm
      clear hmm
      by_cases hle : b≤n
      ·have hlez:(b:Int)≤(n:Int):=by omega
       go_wp2_with (first
        | (go_at_call 227;refine (HS.out (2*bs) _ _ _ _ _ (hdj.trans HN.out.symm) S1.out (by have:=HMM.out;omega) (by have:=HMM.out;have:=HB.out;omega) hle (by have:=HB.out;omega)).mono ?_;rintro e1 w1 ⟨rfl,T⟩;have S1:=Lib.hid T;clear T)
        | fail)
       have hb:=HB.out
       have hm:=HMM.out
       go_roundg (n - b)
       case measure=>omega
       case rel =>
        refine⟨b,b+2*bs,_,rfl,by go_num,rfl,hle,Nat.le_refl _,by rw[zhz];exact hdj,S1.out,?_⟩
        show _=_
        rw[← HM.out];conv=>rhs;rw[stM,dif_pos ⟨by omega,by omega⟩]
        rw[hb,hm]
      ·have hlez:¬ (b:Int)≤(n:Int):=by omega
       have hb:=HB.out
       have hm:=HMM.out
       have hq:stM (ltOf cf) dk 0 n bs=if mm<n then symF (ltOf cf) (n - a) dj a mm n else dj:=by rw[← HM.out,stM,dif_neg (by omega),hm]
       have hq2:stR (ltOf cf) (stM (ltOf cf) dk 0 n bs) n (2*bs)=stF (ltOf cf) d n:=by rw[← HQ.out];conv=>rhs;rw[stR,dif_pos ⟨by omega,by omega⟩]
       have hma:a<mm:=by omega
       have HQ1:=Lib.hid hq
       have HQ2:=Lib.hid hq2
       have hsz1:(stM (ltOf cf) dk 0 n bs).size=d.size:=by rw[z228 _ _ _ _ _ _ (Nat.le_refl _)];exact hds
       clear hb hm hq hq2
       by_cases c3 : mm<n
       ·have c3z:(mm:Int)<(n:Int):=by omega
        go_wp2_with (first
         | (go_at_call 227;refine (HS.out (n - a) _ _ _ _ _ (hdj.trans HN.out.symm) S1.out hma c3 (Nat.le_refl _) (Nat.le_refl _)).mono ?_;rintro e1 w1 ⟨rfl,T⟩;have S1:=Lib.hid T;clear T)
         | fail)
        have hS:Aside (SX enc w0 blk off (stM (ltOf cf) dk 0 n bs) w1):=by rw[HQ1.out,if_pos c3];exact S1.out
        go_roundg (n - 2*bs)
        case measure=>omega
        case rel=>exact⟨2*bs,_,by go_num,by omega,by omega,Nat.le_refl _,hsz1,hS,HQ2.out⟩
       ·have c3z:¬ (mm:Int)<(n:Int):=by omega
        go_wp2_with fail
        have hS:Aside (SX enc w0 blk off (stM (ltOf cf) dk 0 n bs) wr):=by rw[HQ1.out,if_neg c3];exact S1.out
        go_roundg (n - 2*bs)
        case measure=>omega
        case rel=>exact⟨2*bs,_,by go_num,by omega,by omega,Nat.le_refl _,hsz1,hS,HQ2.out⟩
    ·have cz:¬ (bs:Int)<(n:Int):=by omega
     have hq:dk=stF (ltOf cf) d n:=by rw[← HQ.out,stR,dif_neg (by omega)]
     have HQ1:=Lib.hid hq
     clear hq
     go_wp2_with fail
     go_end0
     exact⟨rfl,by rw[← HQ1.out];exact S1.out⟩
end
end Go.Proofs.YtjfpbchdcbhfgaaGreat.B
namespace Go.Proofs.YtjfpbchdcbhfgaaGreat.B
open Go Go.RowKit Go.Shelf Go.Sort
set_option maxRecDepth 1000000
set_option linter.unusedVariables false
structure PutR (w w':World) (b off:Nat) (us:List Value) : Prop where
 os : w'.os=w.os
 tape : w'.tape=w.tape
 output : w'.output=w.output
 size : w.heap.size≤w'.heap.size
 block : ∀ k,k<w.heap.size→k≠b→w'.heap[k]? = w.heap[k]?
 cell : ∀ (i:Nat) v,us[i]? = some v→w'.cell? ⟨b,off+i,none⟩=some v
 other : ∀ p : Addr,p.block<w.heap.size→(p.off<off∨off+us.length≤p.off∨p.block≠b)→w'.cell? p=w.cell? p
 frozen : ∀ p : Addr,p.block<w.heap.size→stuck w' p=stuck w p
theorem zxn (w:World) (os:Array Obj) {k:Nat} (h:k<w.heap.size) : (grow w os).heap[k]? = w.heap[k]?:=by
 unfold grow;exact Array.getElem?_append_left h
theorem z1l6 (w:World) (os:Array Obj) {p:Addr} (h:p.block<w.heap.size) : (grow w os).cell? p=w.cell? p:=by
 unfold World.cell?;rw[zxn w os h]
theorem z1ho (w:World) (blk:Nat) (f:Array Value→Array Value) (hf:∀ c,(f c).size=c.size) (p:Addr) : stuck (mapBlock w blk f) p=stuck w p:=by
 have h1:∀ a,(mapBlock w blk f).frozen? a=w.frozen? a:=fun a=>frozen?_mapBlock w blk f a
 have h2:(mapBlock w blk f).shape? p.block=w.shape? p.block:=by
  simp only[mapBlock,World.shape?,Array.getElem?_modify]
  by_cases hk : blk=p.block
  ·simp only[hk,if_true]
   cases w.heap[p.block]? with
   | none=>rfl
   | some o=>cases o<;>simp [onCells,hf]
  ·simp [hk]
 unfold stuck
 rw[h1,h2]
 simp only[h1]
theorem z1ul {α:Type} [Inhabited α] {enc:α→Value} {w:World} {b off n:Nat} {os:Array Obj} {d0 d:Array α} (hb:b<w.heap.size) (hH:Holds enc w b off d0) (hs:d.size=d0.size) :
  PutR w (grow (putRow enc (Sort.ahead w n) b off d) os) b off (d.toList.map enc):=by
 have hsz:(putRow enc (Sort.ahead w n) b off d).heap.size=w.heap.size:=by rw[size_putRow];rfl
 refine⟨rfl,rfl,rfl,?_,fun k hk hne=>?_,fun i v hv=>?_,fun p hp ho=>?_,fun p hp=>?_⟩
 ·rw[size_grow,hsz];omega
 ·rw[zxn _ _ (by rw[hsz];exact hk)]
  unfold putRow mapBlock Sort.ahead
  simp only[Array.getElem?_modify,if_neg (Ne.symm hne)]
 ·rw[z1l6 _ _ (by rw[hsz];exact hb)]
  rw[List.getElem?_map] at hv
  have hi:i<d.size:=by
   rcases Nat.lt_or_ge i d.size with g | g
   ·exact g
   ·rw[List.getElem?_eq_none (by simpa using g)] at hv;simp at hv
  have hH':Holds enc (Sort.ahead w n) b off d0:=hH
  rw[cell?_putRow enc (Sort.ahead w n) b off d0 d hH' hs i hi]
  rw[List.getElem?_eq_getElem (by simpa using hi)] at hv
  rw[getElem!_pos d i hi]
  simpa using hv
 ·rw[z1l6 _ _ (by rw[hsz];exact hp)]
  rw[cell?_putRow_other enc (Sort.ahead w n) b off d p (by simp only[List.length_map,Array.length_toList] at ho;omega)]
  rfl
 ·rw[zw7 (zxn _ _ (by rw[hsz];exact hp))]
  exact z1ho (Sort.ahead w n) b _ (fun c=>by unfold putCells;simp) p
theorem FExt.put {fr:Fr} {w':World} {b off:Nat} {us:List Value} (hst:PutR fr.w0 w' b off us) (ho:∀ (i:Nat),i<us.length→fr.own b (off+i)) (hne:0<us.length) (hld:Laid fr.w0) (hnl:∀ b o,LB b=true→¬ fr.own b o) : FExt fr w':=by
 refine⟨hst.os,hst.tape,hst.output,hst.size,fun k hk hn=>?_,fun b' o hk hn=>?_,fun b' o hk hn=>hst.frozen _ hk,hld.on hst.size (fun k hl=>hst.block k (hld.lt k hl) fun e=>hnl k (off+0) hl (e ▸ ho 0 hne)),fun b hl=>hld.lt b hl,hnl⟩
 ·by_cases e : k=b
  ·subst e
   exact (hn _ (ho 0 hne)).elim
  ·exact hst.block k hk e
 ·refine hst.other _ hk ?_
  by_cases e : b'=b
  ·subst e
   by_cases h1 : o<off
   ·exact .inl h1
   ·by_cases h2 : off+us.length≤o
    ·exact .inr (.inl h2)
    ·have h3:=ho (o - off) (by omega)
     rw[show off+(o - off)=o from by omega] at h3;exact (hn h3).elim
  ·exact .inr (.inr e)
theorem ObRel.put {g:G} {w w':World} {k ver:Nat} {live:Bool} {τ:Ty} (h1:sz τ=1) {xs ys:List (Den τ)} {b off cap:Nat} {us:List Value} (htk:g.tk k=(some ⟨b,off,none⟩,cap)) (hb:b<w.heap.size) (hown:∀ b o x,g.ω b o=some x→b<w.heap.size)
  (hO:ObAt En g w k ⟨ver,τ,xs,some 0,live⟩ b off cap (fun i j=>(w.cell? ⟨b,off+i*sz τ+j,none⟩).getD undef))
  (hst:PutR w w' b off us) (hul:us.length=xs.length) (hyl:ys.length≤us.length) (hcap:xs.length≤cap) (hbig:xs.length≤9223372036854775807)
  (hrel:∀ i (hi:i<ys.length) d,(enc τ ys[i])[0]? = some d→∃ u,us[i]? = some u∧VRel En g.St w u d) :
  ObRel En g w' k ⟨ver,τ,ys,some 0,live⟩∧Keeps g.St w g.St w':=by
 have hmine:∀ i,i<us.length→g.ω b (off+i)=some (.obj k)∧stuck w ⟨b,off+i,none⟩=false:=by
  intro i hi
  have:=(hO.cell i 0 (by show i<xs.length;omega) (by show 0<sz τ;omega)).2
  have e:off+i*Un.sz τ+0=off+i:=by show off+i*sz τ+0=_;rw[h1];omega
  rw[e] at this
  exact this.2 (Nat.zero_le _)
 have hk:Keeps g.St w g.St w':=fun b' o hs=>⟨hs,hst.other ⟨b',o,none⟩ (hown _ _ _ hs) (by
  by_cases e : b'=b
  ·subst e
   by_cases h2 : o<off
   ·exact .inl h2
   ·by_cases h3 : off+us.length≤o
    ·exact .inr (.inl h3)
    ·have:=(hmine (o - off) (by omega)).1
     rw[show off+(o - off)=o by omega] at this
     have hs':g.ω b' o=some .st:=hs
     rw[this] at hs';simp at hs'
  ·exact .inr (.inr e))⟩
 refine⟨⟨⟨⟨by rw[htk];show ys.length≤cap;omega,by show ys.length≤_;omega⟩,fun f hf=>by simp at hf;subst hf;exact Nat.zero_le _⟩,fun _=>⟨b,off,fun i j=>us.getD i undef,by rw[htk],⟨?_,?_,?_⟩⟩⟩,hk⟩
 ·intro i j hi hj
  have hi':i<ys.length:=hi
  have hj':j<sz τ:=hj
  obtain rfl : j=0:=by omega
  have e0:off+i*Un.sz τ+0=off+i:=by show off+i*sz τ+0=_;rw[h1];omega
  show w'.cell? ⟨b,off+i*Un.sz τ+0,none⟩=_∧Mode g w' k (some 0) i b (off+i*Un.sz τ+0)
  rw[e0]
  refine⟨?_,fun h=>absurd h (Nat.not_lt_zero _),fun _=>⟨(hmine i (by omega)).1,by rw[hst.frozen _ hb];exact (hmine i (by omega)).2⟩⟩
  rw[List.getD_eq_getElem?_getD,List.getElem?_eq_getElem (by omega)]
  exact hst.cell _ _ (List.getElem?_eq_getElem (by omega))
 ·intro i hi j d hd
  have hj:j<sz τ:=by have h0:=(List.getElem?_eq_some_iff.1 hd).1;have:=zei τ (ys[i]'hi);exact this ▸ h0
  obtain rfl : j=0:=by omega
  obtain⟨u,h2,h3⟩:=hrel i hi d hd
  show VRel En g.St w' (us.getD i undef) d
  rw[List.getD_eq_getElem?_getD,h2]
  exact h3.mono hk
 ·intro hl x hx hx'
  rw[htk] at hx'
  have hx1:ys.length*sz τ≤x:=hx
  have hx2:x<cap*sz τ:=hx'
  rw[h1] at hx1 hx2
  rcases Nat.lt_or_ge x us.length with g1 | g1
  ·exact⟨(hmine x g1).1,⟨us[x],hst.cell _ _ (List.getElem?_eq_getElem g1)⟩,by rw[hst.frozen _ hb];exact (hmine x g1).2⟩
  ·obtain⟨m1,⟨v,m2⟩,m3⟩:=hO.spare hl x (by show xs.length*sz τ≤x;rw[h1];omega) (by show x<cap*sz τ;rw[h1];omega)
   exact⟨m1,⟨v,by rw[hst.other ⟨b,off+x,none⟩ hb (.inr (.inl (by show off+us.length≤off+x;omega)))];exact m2⟩,by rw[hst.frozen _ hb];exact m3⟩
theorem ObRel.open1 {g:G} {w:World} {k ver:Nat} {live:Bool} {τ:Ty} {xs:List (Den τ)} (h:ObRel En g w k ⟨ver,τ,xs,some 0,live⟩) (hne:xs≠[]) :
  ∃ b off,g.tk k=(some ⟨b,off,none⟩,(g.tk k).2)∧xs.length≤(g.tk k).2∧ObAt En g w k ⟨ver,τ,xs,some 0,live⟩ b off (g.tk k).2 (fun i j=>(w.cell? ⟨b,off+i*sz τ+j,none⟩).getD undef):=by
 obtain⟨⟨⟨hcap,hmax⟩,_⟩,hrow⟩:=h
 have hpos:0<xs.length:=List.length_pos_iff.2 hne
 have hc:xs.length≤(g.tk k).2:=hcap
 obtain⟨b,off,cv,hbase,hA⟩:=hrow (by omega)
 have hcv:∀ i j,i<xs.length→j<sz τ→(w.cell? ⟨b,off+i*sz τ+j,none⟩).getD undef=cv i j:=fun i j hi hj=>by
  have:=(hA.cell i j hi hj).1
  have e:w.cell? ⟨b,off+i*sz τ+j,none⟩=some (cv i j):=this
  rw[e];rfl
 refine⟨b,off,by rw[← hbase],hc,⟨fun i j hi hj=>?_,fun i hi j d hd=>?_,hA.spare⟩⟩
 ·have:=hA.cell i j hi hj
  rw[hcv i j hi hj];exact this
 ·have hj:j<sz τ:=by have h0:=(List.getElem?_eq_some_iff.1 hd).1;have:=zei τ (xs[i]'hi);exact this ▸ h0
  rw[hcv i j hi hj];exact hA.rel i hi j d hd
theorem z1zv {St:Nat→Nat→Prop} {w:World} {v x:Value} (h:VRel En St w v (.s x)) : v=x∧oneC x=true:=by cases h with | s _ h=>exact⟨rfl,h⟩
theorem ObAt.holds {g:G} {w:World} {k ver:Nat} {live:Bool} {xs:List Int} {b off cap:Nat} {cv:Nat→Nat→Value} (hA:ObAt En g w k ⟨ver,.int,xs,some 0,live⟩ b off cap cv) :
  Holds (Value.int .i64) w b off xs.toArray∧∀ x∈xs,oneC (.int .i64 x)=true:=by
 have key:∀ i (hi:i<xs.length),cv i 0=.int .i64 xs[i]∧oneC (.int .i64 xs[i])=true:=fun i hi=>by
  have:=hA.rel i hi 0 (.s (.int .i64 xs[i])) rfl
  exact z1zv this
 refine⟨fun j hj=>?_,fun x hx=>?_⟩
 ·have hj':j<xs.length:=by simpa using hj
  have hc:=hA.cell j 0 hj' (show (0:Nat)<1 from Nat.one_pos)
  have e:off+j*Un.sz .int+0=off+j:=by show off+j*1+0=_;omega
  rw[e] at hc
  refine⟨?_,zjn (hc.2.2 (Nat.zero_le _)).2⟩
  rw[hc.1,(key j hj').1,getElem!_pos _ j hj]
  simp
 ·obtain⟨i,hi,rfl⟩:=List.getElem_of_mem hx
  exact (key i hi).2
end Go.Proofs.YtjfpbchdcbhfgaaGreat.B
namespace Go.Proofs.YtjfpbchdcbhfgaaGreat.B
open Go Go.RowKit Go.Shelf Go.Lib Go.Sort
set_option maxRecDepth 1000000
set_option linter.unusedVariables false
noncomputable section
section
variable {α:Type} [Inhabited α]
set_option maxHeartbeats 4000000 in
theorem z25k (enc:α→Value) (cf:α→α→Int) (g:Nat) (cb:Array Value) (blk off cap:Nat) (d0 d:Array α) (w0 w:World)
  (eg:∀ args w,(callFunc g args).run Tryz.prog w=.ok (.enter g args) w) (hcmp:CmpX Tryz.prog g cb enc cf blk off d0.size w0)
  (R:Row1 enc w0 blk off d0) (hs:d0.size=d.size) (S:SX enc w0 blk off d w) (hsz:d.size<1152921504606846976) :
  Calls Tryz.prog 145 #[.slice (some ⟨blk,off,none⟩) d.size cap,.func (.func g) #[] cb] w fun e w'=>e=.returned (.tuple #[])∧SX enc w0 blk off (stF (ltOf cf) d d.size) w':=by
 have H:=Lib.hid (z229 enc cf g cb blk off cap d0 d w0 w eg hcmp R hs S hsz)
 clear S hcmp
 obtain⟨n,hn⟩ : ∃ n,n=d.size:=⟨_,rfl⟩
 rw[← hn] at H hsz ⊢
 clear hn
 go_enter Tryz.func145,Tryz.ntmps145
 go_wp2_with (first
  | (go_at_call 191;refine H.out.mono ?_;rintro e1 w1 ⟨rfl,T⟩;have S1:=Lib.hid T;clear T)
  | fail)
 go_end0
 exact⟨rfl,S1.out⟩
end
theorem z23o (p:Option Addr) (cap g:Nat) (cb:Array Value) (w:World) : Calls Tryz.prog 226 #[.slice p 0 cap,.int .i64 0,.int .i64 0,.func (.func g) #[] cb] w fun e w'=>e=.returned (.tuple #[])∧w'=w:=by
 go_enter Tryz.func226,Tryz.ntmps226
 go_wp2_with fail
 go_loopg [8] 0 (fun kx s8 wr=>s8=.int .i64 1∧wr=w)
 case atStart=>exact⟨by go_num,rfl⟩
 case round =>
  obtain⟨rfl,rfl⟩:=hrel
  go_wp2_with fail
  go_end0
  exact⟨rfl,rfl⟩
theorem z1x1 (p:Option Addr) (cap g:Nat) (cb:Array Value) (w:World) : Calls Tryz.prog 191 #[.slice p 0 cap,.int .i64 0,.func (.func g) #[] cb] w fun e w'=>e=.returned (.tuple #[])∧w'=w:=by
 go_enter Tryz.func191,Tryz.ntmps191
 go_wp2_with fail
 go_loopg [7,8] 0 (fun kx s7 s8 wr=>s7=.int .i64 0∧s8=.int .i64 20∧wr=w)
 case atStart=>exact⟨by go_num,by go_num,rfl⟩
 case round =>
  obtain⟨rfl,rfl,rfl⟩:=hrel
  go_wp2_with (first
   | (go_at_call 226;refine (z23o _ _ _ _ _).mono ?_;rintro e1 w1 ⟨rfl,rfl⟩)
   | fail)
  go_loopg [6,7,8,9] 0 (fun kx s6 s7 s8 s9 wr=>s6=.int .i64 20∧wr=w1)
  case atStart=>exact⟨by go_num,rfl⟩
  case round =>
   obtain⟨rfl,rfl⟩:=hrel
   go_wp2_with fail
   go_end0
   exact⟨rfl,rfl⟩
theorem z23p (p:Option Addr) (cap g:Nat) (cb:Array Value) (w:World) : Calls Tryz.prog 145 #[.slice p 0 cap,.func (.func g) #[] cb] w fun e w'=>e=.returned (.tuple #[])∧w'=w:=by
 go_enter Tryz.func145,Tryz.ntmps145
 go_wp2_with (first
  | (go_at_call 191;refine (z1x1 _ _ _ _ _).mono ?_;rintro e1 w1 ⟨rfl,rfl⟩)
  | fail)
 go_end0
 exact⟨rfl,rfl⟩
theorem z1um {α:Type} [Inhabited α] {enc:α→Value} {w W:World} {b off:Nat} {d0 d:Array α} (hb:b<w.heap.size) (hH:Holds enc w b off d0) (hs:d.size=d0.size) (h:SX enc w b off d W) : PutR w W b off (d.toList.map enc):=by
 have q:=z1ul (n:=0) (os:=#[]) hb hH hs
 rw[grow_empty] at q
 have q:PutR w (putRow enc w b off d) b off (d.toList.map enc):=q
 refine⟨h.os.trans q.os,h.tape.trans q.tape,h.output.trans q.output,h.le,fun k hk hne=>(h.block k hk).trans (q.block k hk hne),fun i v hv=>?_,fun p hp ho=>?_,fun p hp=>?_⟩
 ·exact (Below.cell h hb).trans (q.cell i v hv)
 ·exact (Below.cell h hp).trans (q.other p hp ho)
 ·exact (zw7 (h.block p.block hp)).trans (q.frozen p hp)
theorem z1zw {w w':World} (h:Ext w w') : Below w.heap.size w w':=⟨h.os,h.tape,h.output,h.size,fun k hk=>h.block hk⟩
theorem z22a {α β:Type} (f:α→β) (le:β→β→Bool) (l:List α) (x:α) : (insS (fun a b=>le (f a) (f b)) l x).map f=insS le (l.map f) (f x):=by
 unfold insS
 rw[List.map_append,List.map_cons,List.takeWhile_map,List.dropWhile_map]
 rfl
theorem z1zx {α β:Type} (f:α→β) (le:β→β→Bool) (l:List α) : (z2f (fun a b=>le (f a) (f b)) l).map f=z2f le (l.map f):=by
 have key:∀ (l s:List α),(l.foldl (insS fun a b=>le (f a) (f b)) s).map f=(l.map f).foldl (insS le) (s.map f):=by
  intro l
  induction l with
  | nil=>intro s;rfl
  | cons x l ih=>intro s;rw[List.foldl_cons,List.map_cons,List.foldl_cons,ih,z22a]
 exact key l []
theorem z23q {St:Nat→Nat→Prop} {w:World} {v:Value} {τ:Ty} {xs:List (Den τ)} (h:VRel En St w v (.dat (U:=Un) τ xs)) : ∃ a n c,v=.slice a n c:=by
 rcases h.inv with ⟨_,a,c,rfl⟩ | ⟨b,o,c,cv,rfl,_⟩
 ·exact⟨_,_,_,rfl⟩
 ·exact⟨_,_,_,rfl⟩
theorem z24n {β:Type} (xs:List β) : ((List.finRange xs.length).map fun i=>xs[i.1]'i.2)=xs:=by
 apply List.ext_getElem
 ·simp
 ·intro i h1 h2;simp
def leP {β:Type} (p:β→β→Int) (a b:β) : Bool:=!decide (p b a<0)
def zjb : FnU Un:=fun τ xs args=>match τ,xs,args with
 | .row,xs,[x1]=>(dF x1).bind fun φ=>some ([xs.length≤1000000000,φ=zu (z2l φ) (z1r φ),(∀ x∈xs,∀ y∈xs,z2l φ x y),Pre (leP (z1r φ))],z2f (leP (z1r φ)) xs)
 | _,_,_=>none
theorem z1hp : UpOK 145 zjb:=by
  intro τ xs ds ob ys h hob
  unfold zjb at h
  split at h
  · rename_i xs x1
    simp only[Option.bind_eq_some_iff,Option.some.injEq,Prod.mk.injEq] at h
    obtain⟨φ,e1,rfl,rfl⟩:=h
    obtain rfl:=zki e1
    have hlen:xs.length≤1000000000:=hob _ (by simp)
    have hφ:φ=zu (z2l φ) (z1r φ):=hob _ (by simp)
    have ho:∀ x∈xs,∀ y∈xs,z2l φ x y:=hob _ (by simp)
    have hP:Pre (leP (z1r φ)):=hob _ (by simp)
    generalize z2l φ=o at hφ ho
    generalize z1r φ=p at hφ hP ⊢
    refine⟨fun w g k ver live vs hO hown hvs hld hnl=>?_,zb Tryz.func145 (by kernel_rfl) (by kernel_rfl)⟩
    match vs,hvs with
    | [v1],⟨hv,_⟩ =>
      obtain⟨f,caps,rfl,hbody,hg⟩:=hv
      have hsl:(z2f (leP p) xs).length=xs.length:=z6b hP xs
      by_cases hne : xs=[]
      · subst hne
        refine (z23p (g.tk k).1 (g.tk k).2 f caps w).mono ?_
        rintro e w' ⟨rfl,rfl⟩
        exact⟨rfl,hsl,⟨rfl,rfl,rfl,Nat.le_refl _,fun _ _ _=>rfl,fun _ _ _ _=>rfl,fun _ _ _ _=>rfl,hld,fun b hl=>hld.lt b hl,hnl⟩,hO⟩
      · obtain⟨b,off,htk,hcap,hA⟩:=hO.open1 hne
        have hpos:0<xs.length:=List.length_pos_iff.2 hne
        have hb:b<w.heap.size:=z6l (hA.cell 0 0 hpos (show (0:Nat)<1 from Nat.one_pos)).1
        have h0:(g.tk k).1=some ⟨b,off,none⟩:=by rw[htk]
        rw[h0]
        have hcl:∀ i,i<xs.length→w.cell? ⟨b,off+i,none⟩=some ((w.cell? ⟨b,off+i,none⟩).getD undef)∧w.frozen? ⟨b,off+i,none⟩=false∧VRel En g.St w ((w.cell? ⟨b,off+i,none⟩).getD undef) (.dat (U:=Un) Ty.val (xs.getD i [])):=fun i hi=>by
          have hc:=hA.cell i 0 hi (show (0:Nat)<1 from Nat.one_pos)
          have hr:=hA.rel i hi 0 (.dat (U:=Un) Ty.val xs[i]) rfl
          have e:off+i*Un.sz Ty.row+0=off+i:=by show off+i*1+0=off+i;omega
          rw[e] at hc hr
          have hm:=hc.2.2 (Nat.zero_le _)
          refine⟨hc.1,?_,?_⟩
          · exact zjn hm.2
          · rw[List.getD_eq_getElem?_getD,List.getElem?_eq_getElem hi];exact hr
        haveI : Inhabited (Fin xs.length):=⟨⟨0,hpos⟩⟩
        let enc : Fin xs.length→Value:=fun i=>(w.cell? ⟨b,off+i.1,none⟩).getD undef
        let cf : Fin xs.length→Fin xs.length→Int:=fun i j=>p (xs.getD i.1 []) (xs.getD j.1 [])
        let d : Array (Fin xs.length):=(List.finRange xs.length).toArray
        have hds:d.size=xs.length:=by simp [d]
        have hdj:∀ j (hj:j<xs.length),d[j]! = ⟨j,hj⟩:=fun j hj=>by
          rw[getElem!_pos d j (by omega)]
          simp [d]
        have hH:Holds enc w b off d:=fun j hj=>by
          rw[hds] at hj
          rw[hdj j hj]
          exact⟨(hcl j hj).1,(hcl j hj).2.1⟩
        have h1c:OneCell enc:=fun x=>by obtain⟨a,n,c,e⟩:=z23q (hcl x.1 x.2).2.2;show (enc x).oneCell'=true;rw[show enc x=.slice a n c from e];rfl
        have R:Row1 enc w b off d:=⟨h1c,hH,hb⟩
        have S0:SX enc w b off d w:=by unfold SX;rw[putRow_self enc w b off d hH];exact Below.refl _ _
        have hbnd:∀ b o,g.St b o→b<w.heap.size:=fun b o h=>hown b o _ h
        have hcmp:CmpX Tryz.prog f caps enc cf b off d.size w:=fun W dk hsz hW x y=>by
          have hpr:=z1um hb hH hsz hW
          have hdl:(dk.toList.map enc).length=xs.length:=by rw[List.length_map,Array.length_toList,hsz,hds]
          have hk:Keeps g.St w g.St W:=fun b' o hs=>⟨hs,hpr.other _ (hbnd b' o hs) (by
            by_cases e1 : b'=b
            · subst e1
              by_cases e2 : o<off
              · exact .inl e2
              · by_cases e3 : off+xs.length≤o
                · right;left;rw[hdl];exact e3
                · exfalso
                  have hc:=(hA.cell (o - off) 0 (show o - off<xs.length by omega) (show (0:Nat)<1 from Nat.one_pos)).2.2 (Nat.zero_le _)
                  have e:off+(o - off)*Un.sz Ty.row+0=o:=by show off+(o - off)*1+0=o;omega
                  rw[e] at hc
                  have h9:g.ω b' o=some .st:=hs
                  rw[h9] at hc;simp at hc
            · exact .inr (.inr e1))⟩
          have hldW:Laid W:=hld.on hW.le fun k hl=>hpr.block k (hld.lt k hl) fun e=>hnl k (off+0) hl (by
            have hc:=(hA.cell 0 0 hpos (show (0:Nat)<1 from Nat.one_pos)).2.2 (Nat.zero_le _)
            rw[e];simpa using hc.1)
          have hvx:=(hcl x.1 x.2).2.2.mono hk
          have hvy:=(hcl y.1 y.2).2.2.mono hk
          have hm:∀ i : Fin xs.length,xs.getD i.1 []∈xs:=fun i=>by rw[List.getD_eq_getElem?_getD,List.getElem?_eq_getElem i.2];exact List.getElem_mem _
          refine (hg g.St W hk (fun b' o hs=>Nat.lt_of_lt_of_le (hbnd b' o hs) hW.le) hldW [.v (.dat (U:=Un) Ty.val (xs.getD x.1 [])),.v (.dat (U:=Un) Ty.val (xs.getD y.1 []))] [o (xs.getD x.1 []) (xs.getD y.1 [])] [.v (.s (.int .i64 (cf x y)))]
            (by rw[hφ];unfold zu;simp only[znb,Option.bind_some];rfl) (fun q hq=>by rw[List.mem_singleton.1 hq];exact ho _ (hm x) _ (hm y)) [enc x,enc y] ⟨hvx,hvy,trivial⟩).mono ?_
          rintro e w' ⟨v,rfl,⟨hx,St',-,-,hr⟩,-⟩
          exact⟨by rw[show v=.int .i64 (cf x y) from (z1zv hr).1],z1zw hx⟩
        have eg:∀ args W,(callFunc f args).run Tryz.prog W=.ok (.enter f args) W:=fun args W=>by
          obtain⟨fn,c,q1,q2,q3⟩:=hbody
          have hn : fn.name ≠ "runtime.NumGoroutine" := by simpa using q3
          simp [callFunc,q1,q2,hn]
        have hle:∀ x y : Fin xs.length,leP p (xs.getD x.1 []) (xs.getD y.1 [])=!ltOf cf y x:=fun x y=>rfl
        have hPF:Pre fun x y : Fin xs.length=>leP p (xs.getD x.1 []) (xs.getD y.1 []):=⟨fun a b c=>hP.trans _ _ _,fun a b=>hP.total _ _⟩
        have hst:=z227 hle hPF d
        have hmap:=z1zx (fun i:Fin xs.length=>xs.getD i.1 []) (leP p) (List.finRange xs.length)
        have hfm:((List.finRange xs.length).map fun i=>xs.getD i.1 [])=xs:=by
          have:=z24n xs
          conv=>rhs;rw[← this]
          apply List.map_congr_left
          intro i _
          rw[List.getD_eq_getElem?_getD,List.getElem?_eq_getElem i.2];rfl
        rw[hfm] at hmap
        have hss:(stF (ltOf cf) d d.size).size=d.size:=by rw[← Array.length_toList,hst,z6b hPF,Array.length_toList]
        have hw:=(z25k enc cf f caps b off (g.tk k).2 d d w w eg hcmp R rfl S0 (by omega)).mono (fun e w' hq=>show e=.returned (.tuple #[])∧PutR w w' b off ((z2f (fun x y:Fin xs.length=>leP p (xs.getD x.1 []) (xs.getD y.1 [])) d.toList).map enc) by
          have hp:=z1um hb hH hss hq.2
          rw[hst] at hp
          exact⟨hq.1,hp⟩)
        rw[hds] at hw
        refine hw.mono ?_
        rintro e w' ⟨rfl,hp⟩
        have hul:((z2f (fun x y:Fin xs.length=>leP p (xs.getD x.1 []) (xs.getD y.1 [])) d.toList).map enc).length=xs.length:=by rw[List.length_map,z6b hPF,Array.length_toList,hds]
        obtain⟨r1,_⟩:=ObRel.put (w':=w') (ys:=z2f (leP p) xs) (τ:=.row) rfl htk hb hown hA hp hul (by rw[hul,hsl];exact Nat.le_refl _) hcap (by omega) (fun i hi dd hd=>by
          have hd':some (V.dat (U:=Un) Ty.val (z2f (leP p) xs)[i])=some dd:=hd
          cases hd'
          have hi2:i<(z2f (fun x y:Fin xs.length=>leP p (xs.getD x.1 []) (xs.getD y.1 [])) d.toList).length:=by rw[List.length_map] at hul;omega
          refine⟨enc (z2f (fun x y:Fin xs.length=>leP p (xs.getD x.1 []) (xs.getD y.1 [])) d.toList)[i],by rw[List.getElem?_map,List.getElem?_eq_getElem hi2];rfl,?_⟩
          have h3:(z2f (leP p) xs)[i]? = some (xs.getD ((z2f (fun x y:Fin xs.length=>leP p (xs.getD x.1 []) (xs.getD y.1 [])) d.toList)[i]).1 []):=by
            rw[← hmap,List.getElem?_map]
            have : (List.finRange xs.length)=d.toList:=rfl
            rw[this,List.getElem?_eq_getElem hi2];rfl
          rw[List.getElem?_eq_getElem hi] at h3
          rw[Option.some.inj h3]
          exact (hcl _ (Fin.isLt _)).2.2)
        refine⟨rfl,hsl,?_,r1⟩
        refine FExt.put (fr:=⟨w,fun b i=>g.ω b i=some (.obj k),g.St,0,g.β⟩) hp (fun i hi=>?_) (by rw[hul];exact hpos) hld hnl
        rw[hul] at hi
        have hc:=(hA.cell i 0 hi (show (0:Nat)<1 from Nat.one_pos)).2.2 (Nat.zero_le _)
        have e:off+i*Un.sz Ty.row+0=off+i:=by show off+i*1+0=off+i;omega
        rw[e] at hc
        exact hc.1
  · simp at h
end
end Go.Proofs.YtjfpbchdcbhfgaaGreat.B
namespace Go.Proofs.YtjfpbchdcbhfgaaGreat.B
open Go Go.RowKit
set_option linter.unusedVariables false
theorem z1l7 : ∀ a b : List Val,ordR b a=- ordR a b
 | [],[]=>rfl
 | [],_::_=>rfl
 | _::_,[]=>rfl
 | a::l,b::r=>by
  simp only[ordR]
  have h:=zhv a b
  by_cases e : ordV a b=0
  ·rw[if_pos e,if_pos (by omega)];exact z1l7 l r
  ·rw[if_neg e,if_neg (by omega)];exact h
theorem z1du : ∀ {a b c:List Val},ordR a b<0→ordR b c<0→ordR a c<0
 | [],[],_,h,_=>by simp [ordR] at h
 | [],_::_,[],_,h=>by simp [ordR] at h
 | [],_::_,_::_,_,_=>by simp [ordR]
 | _::_,[],_,h,_=>by simp [ordR] at h
 | _::_,_::_,[],_,h=>by simp [ordR] at h
 | a::l,b::r,c::t,h1,h2=>by
  simp only[ordR] at h1 h2 ⊢
  by_cases e1 : ordV a b=0
  ·rw[if_pos e1] at h1
   rw[ordV_zero] at e1;subst e1
   by_cases e2 : ordV a c=0
   ·rw[if_pos e2] at h2 ⊢;exact z1du h1 h2
   ·rw[if_neg e2] at h2 ⊢;exact h2
  ·rw[if_neg e1] at h1
   by_cases e2 : ordV b c=0
   ·rw[ordV_zero] at e2;subst e2
    rw[if_neg e1];exact h1
   ·rw[if_neg e2] at h2
    have:=zj2 h1 h2
    rw[if_neg (by omega)];exact this
end Go.Proofs.YtjfpbchdcbhfgaaGreat.B
namespace Go.Proofs.YtjfpbchdcbhfgaaGreat.B
open Go Go.RowKit
set_option linter.unusedVariables false
theorem z1a0 (x y:Int) : -1≤cmpI x y∧cmpI x y≤1:=by unfold cmpI;split<;>(try split)<;>omega
theorem z1qq : ∀ (a b:List UInt8),-1≤cmpL a b∧cmpL a b≤1
 | [],[]=>by simp [cmpL]
 | [],_::_=>by simp [cmpL]
 | _::_,[]=>by simp [cmpL]
 | a::l,b::r=>by
  rw[cmpL]
  split
  ·exact z1qq l r
  ·exact z1a0 _ _
theorem z22b (a b:Val) : -1≤ordV a b∧ordV a b≤1:=by
 unfold ordV
 split
 ·split
  ·exact z1qq _ _
  ·exact z1a0 _ _
 ·exact z1a0 _ _
theorem zrk (a b:List Val) (k:By) : kc a b k=if k.down=true then - ordV (z14 a k.at_) (z14 b k.at_) else ordV (z14 a k.at_) (z14 b k.at_):=by
 have hb:=z22b (z14 a k.at_) (z14 b k.at_)
 unfold kc z32
 rw[IntWalk.i64_in _ (by omega),Int.zero_sub]
theorem z23r (a b:List Val) (k:By) : kc b a k=- kc a b k:=by
 rw[zrk,zrk,zhv (z14 a k.at_)]
 split<;>omega
theorem kc_zero {a b:List Val} {k:By} : kc a b k=0↔z14 a k.at_=z14 b k.at_:=by
 rw[zrk,← ordV_zero]
 split<;>omega
theorem z22c {a b c:List Val} {k:By} (h1:kc a b k<0) (h2:kc b c k<0) : kc a c k<0:=by
 rw[zrk] at h1 h2 ⊢
 split at h1
 ·rename_i hd
  rw[if_pos hd] at h2 ⊢
  have e1:=zhv (z14 a k.at_) (z14 b k.at_)
  have e2:=zhv (z14 b k.at_) (z14 c k.at_)
  have e3:=zhv (z14 a k.at_) (z14 c k.at_)
  have:=zj2 (show ordV (z14 c k.at_) (z14 b k.at_)<0 by omega) (show ordV (z14 b k.at_) (z14 a k.at_)<0 by omega)
  omega
 ·rename_i hd
  rw[if_neg hd] at h2 ⊢
  exact zj2 h1 h2
theorem z23s {a b c:List Val} {k:By} (h:kc a b k=0) : kc a c k=kc b c k:=by
 rw[zrk,zrk,kc_zero.1 h]
theorem z22d {a b c:List Val} {k:By} (h:kc b c k=0) : kc a c k=kc a b k:=by
 rw[zrk,zrk,kc_zero.1 h]
theorem z1qr (a b:List Val) : ord1 a b []=ordR a b:=rfl
theorem zrl (a b:List Val) (k:By) (r:List By) : ord1 a b (k::r)=if kc a b k=0 then ord1 a b r else kc a b k:=by
 show (if (kc a b k != 0)=true then kc a b k else ord1 a b r)=_
 by_cases h : kc a b k=0
 ·rw[if_neg (by simp [h]),if_pos h]
 ·rw[if_pos (by simpa using h),if_neg h]
theorem zrm (a b:List Val) : ∀ keys : List By,ord1 b a keys=- ord1 a b keys
 | []=>by rw[z1qr,z1qr];exact z1l7 a b
 | k::r=>by
  rw[zrl,zrl,z23r a b,zrm a b r]
  by_cases h : kc a b k=0
  ·rw[if_pos h,if_pos (by omega)]
  ·rw[if_neg h,if_neg (by omega)]
theorem z12o {a b:List Val} : ∀ {keys:List By},ord1 a b keys=0→a=b
 | [],h=>ordR_zero.1 h
 | k::r,h=>by
  rw[zrl] at h
  by_cases e : kc a b k=0
  ·rw[if_pos e] at h;exact z12o h
  ·rw[if_neg e] at h;exact absurd h e
theorem z1dv {a b c:List Val} : ∀ {keys:List By},ord1 a b keys<0→ord1 b c keys<0→ord1 a c keys<0
 | [],h1,h2=>z1du h1 h2
 | k::r,h1,h2=>by
  rw[zrl] at h1 h2 ⊢
  by_cases e1 : kc a b k=0
  ·rw[if_pos e1] at h1
   rw[z23s e1]
   by_cases e2 : kc b c k=0
   ·rw[if_pos e2] at h2 ⊢;exact z1dv h1 h2
   ·rw[if_neg e2] at h2 ⊢;exact h2
  ·rw[if_neg e1] at h1
   by_cases e2 : kc b c k=0
   ·rw[z22d e2,if_neg e1];exact h1
   ·rw[if_neg e2] at h2
    have:=z22c h1 h2
    rw[if_neg (by omega)];exact this
theorem zpj (keys:List By) : Pre (leP fun a b=>ord1 a b keys) where
 trans:=fun a b c h1 h2=>by
  have g1:¬ ord1 b a keys<0:=by simpa [leP] using h1
  have g2:¬ ord1 c b keys<0:=by simpa [leP] using h2
  have g3:¬ ord1 c a keys<0:=by
   intro h
   have e1:=zrm b a keys
   by_cases e : ord1 b a keys=0
   ·have:=z12o e;subst this;exact g2 h
   ·exact g2 (z1dv h (show ord1 a b keys<0 by omega))
  simpa [leP] using g3
 total:=fun a b=>by
  have:=zrm a b keys
  by_cases h : ord1 b a keys<0
  ·right
   have g:¬ ord1 a b keys<0:=by omega
   simpa [leP] using g
  ·left
   simpa [leP] using h
end Go.Proofs.YtjfpbchdcbhfgaaGreat.B
