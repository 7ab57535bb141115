/- Part 24 of the proof: Lstx2 Lstx3 Lstabp Lstabq Lstabr. -/
import Derived.Test.YtjfpbchdcbhfgaaGreatNsrt23
namespace Go.Proofs.YtjfpbchdcbhfgaaGreat.B
open Go Go.RowKit Go.Shelf Go.Lib Go.Sort
set_option maxRecDepth 1000000
set_option linter.unusedVariables false
noncomputable section
variable {α:Type} [Inhabited α]
set_option maxHeartbeats 8000000 in
theorem z24l (enc:α→Value) (cf:α→α→Int) (g:Nat) (cb:Array Value) (blk off cap a m b:Nat) (d0 d:Array α) (w0 w:World)
  (eg:∀ args w,(callFunc g args).run Tryz.prog w=.ok (.enter g args) w) (hcmp:CmpX Tryz.prog g cb enc cf blk off d0.size w0)
  (R:Row1 enc w0 blk off d0) (hs:d0.size=d.size) (S:SX enc w0 blk off d w) (ham:m=a+1) (hmb:m<b) (hb:b≤d.size) (hsz:d.size<4611686018427387904) :
  Calls Tryz.prog 227 #[.slice (some ⟨blk,off,none⟩) d.size cap,.int .i64 a,.int .i64 m,.int .i64 b,.func (.func g) #[] cb] w fun e w'=>e=.returned (.tuple #[])∧SX enc w0 blk off (upL d a (bsL (fun h=>ltOf cf d[h]! d[a]!) m b - 1)) w':=by
 have mixed:Tryz.prog.follows .mixedOrders=true:=by kernel_rfl
 have hcl0:=R.hO.cells
 simp only[Value.cells] at hcl0
 have hst:=R.hO.store Tryz.prog
 have S0:Aside (SX enc w0 blk off d w):=S
 have HC:Aside _:=hcmp
 clear S hcmp
 obtain⟨r,hr⟩ : ∃ r,r=bsL (fun h=>ltOf cf d[h]! d[a]!) m b:=⟨_,rfl⟩
 have hrb:=zvh (fun h=>ltOf cf d[h]! d[a]!) m b (by omega)
 rw[← hr] at hrb ⊢
 have HR:=Lib.hid hr
 clear hr
 have h1:((m:Int) - (a:Int) == 1)=true:=by simp;omega
 have hma:a<m:=by omega
 have HAM:=Lib.hid ham
 clear ham
 go_enter Tryz.func227,Tryz.ntmps227
 go_wp2
 go_loopg [10,11] (b - a) (fun kx s10 s11 wr=>∃ (i j:Nat),s10=.int .i64 i∧s11=.int .i64 j∧m≤i∧i≤j∧j≤b∧j - i≤kx∧Aside (SX enc w0 blk off d wr)∧bsL (fun h=>ltOf cf d[h]! d[a]!) i j=r)
 case atStart=>exact⟨m,b,rfl,rfl,Nat.le_refl _,by omega,Nat.le_refl _,by omega,S0,HR.out.symm⟩
 case round =>
  clear S0
  obtain⟨i,j,rfl,rfl,hmi,hij,hjb,hkx,S1,heq⟩:=hrel
  rw[bsL] at heq
  have HQ:=Lib.hid heq
  clear heq
  by_cases hlt : i<j
  ·have hltz:(i:Int)<(j:Int):=by omega
   go_wp2_with fail
   obtain⟨k,hk⟩ : ∃ q,q=(i+j) / 2:=⟨_,rfl⟩
   have ek:((i:Int)+(j:Int)) / 2=(k:Int):=by omega
   simp only[ek]
   clear ek
   obtain⟨x1,hx1⟩ : ∃ x,x=d[k]!:=⟨_,rfl⟩
   obtain⟨y1,hy1⟩ : ∃ x,x=d[a]!:=⟨_,rfl⟩
   have ea1:((k:Int)).toNat=k:=by omega
   have pa1:(0:Int)≤(k:Int):=by omega
   have ba1:(k:Int)<(d.size:Int):=by omega
   have ec1:((a:Int)).toNat=a:=by omega
   have pc1:(0:Int)≤(a:Int):=by omega
   have bc1:(a:Int)<(d.size:Int):=by omega
   have l1a:=S1.out.cl R (by omega) k (by omega)
   have l1b:=S1.out.cl R (by omega) a (by omega)
   rw[← hx1] at l1a
   rw[← hy1] at l1b
   have hc1:=S1.out.cmp HC.out (by omega) x1 y1
   have hlt1:ltOf cf d[k]! d[a]! = decide (cf x1 y1<0):=by rw[hx1,hy1];rfl
   have HL:=Lib.hid hlt1
   have HK:=Lib.hid hk
   clear hx1 hy1 hlt1 hk
   by_cases hv : cf x1 y1<0
   ·have hd1:decide (cf x1 y1<0)=true:=decide_eq_true hv
    refine wp_region_quiet_below (by assumption) (by kernel_rfl) ?_
    repeat (quiet_step (first | (go_at_fn g;refine Calls.regrown_of (hc1 _ _))))
    refine wpQuiet_nil ?_
    intro _ hw'
    obtain⟨⟨nq,osq⟩,hw''⟩:=hw'
    subst hw''
    have S2:Aside (SX enc w0 blk off d (grow (redrawn wr nq) osq)):=S1.out.regrown nq osq
    clear l1a l1b hc1 S1
    generalize grow (redrawn wr nq) osq=w2 at S2 ⊢
    clear nq osq
    go_wp2_with fail
    have e1:=HK.out
    go_roundg (j - (k+1))
    case measure=>omega
    case rel=>exact⟨k+1,j,by go_num,rfl,by omega,by omega,by omega,Nat.le_refl _,S2,by rw[← HQ.out,if_pos hlt,← e1,if_pos (by rw[HL.out,hd1])]⟩
   ·have hd1:decide (cf x1 y1<0)=false:=decide_eq_false hv
    refine wp_region_quiet_below (by assumption) (by kernel_rfl) ?_
    repeat (quiet_step (first | (go_at_fn g;refine Calls.regrown_of (hc1 _ _))))
    refine wpQuiet_nil ?_
    intro _ hw'
    obtain⟨⟨nq,osq⟩,hw''⟩:=hw'
    subst hw''
    have S2:Aside (SX enc w0 blk off d (grow (redrawn wr nq) osq)):=S1.out.regrown nq osq
    clear l1a l1b hc1 S1
    generalize grow (redrawn wr nq) osq=w2 at S2 ⊢
    clear nq osq
    go_wp2_with fail
    have e1:=HK.out
    go_roundg (k - i)
    case measure=>omega
    case rel=>exact⟨i,k,rfl,rfl,by omega,by omega,by omega,Nat.le_refl _,S2,by rw[← HQ.out,if_pos hlt,← e1,if_neg (by rw[HL.out,hd1];simp)]⟩
  ·have hltz:¬ (i:Int)<(j:Int):=by omega
   have er:i=r:=by rw[← HQ.out,if_neg hlt]
   clear HQ
   subst er
   go_wp2_with fail
   have z1:((i:Int) - 1)=((i - 1:Nat):Int):=by omega
   go_loopg [13] (i - 1 - a) (fun kx s13 wr2=>∃ (k:Nat) (dk:Array α),s13=.int .i64 k∧a≤k∧i - 1 - k≤kx∧dk.size=d.size∧Aside (SX enc w0 blk off dk wr2)∧upL dk k (i - 1)=upL d a (i - 1))
   case atStart=>exact⟨a,d,rfl,Nat.le_refl _,by omega,rfl,S1,rfl⟩
   case round =>
    clear S1
    obtain⟨k,dk,rfl,hak,hkx2,hds,S2,heq⟩:=hrel
    have HE:=Lib.hid heq
    clear heq
    by_cases hlt2 : k<i - 1
    ·have hltz2:(k:Int)<((i - 1:Nat):Int):=by omega
     go_wp2_with fail
     obtain⟨jN1,hjN1⟩ : ∃ q,q=k+1:=⟨_,rfl⟩
     have ea1:((k:Int)).toNat=k:=by omega
     have pa1:(0:Int)≤(k:Int):=by omega
     have ba1:(k:Int)<(d.size:Int):=by omega
     have ec1:((k:Int)+1).toNat=jN1:=by omega
     have pc1:(0:Int)≤(k:Int)+1:=by omega
     have bc1:(k:Int)+1<(d.size:Int):=by omega
     have rc1:IntKind.i64.wrap ((k:Int)+1)=(k:Int)+1:=by rw[IntKind.wrap_i64];omega
     obtain⟨x1,hx1⟩ : ∃ x,x=dk[k]!:=⟨_,rfl⟩
     obtain⟨y1,hy1⟩ : ∃ x,x=dk[k+1]!:=⟨_,rfl⟩
     have S3:Aside (SX enc w0 blk off (swp dk k (k+1)) ((wr.setCell ⟨blk,off+k,none⟩ (enc y1)).setCell ⟨blk,off+jN1,none⟩ (enc x1)).drew):=by rw[hjN1,hx1,hy1];exact S2.out.swapped R k (k+1) (by omega) (by omega)
     have c1a:=S2.out.c1 R (by omega) k (by omega)
     have c1b:=S2.out.c1 R (by omega) (k+1) (by omega)
     have f1a:=S2.out.f1 R (by omega) k (by omega)
     have f1b:=S2.out.f1 R (by omega) (k+1) (by omega)
     obtain⟨u1,c1c⟩:=S2.out.c2 R (by omega) k (k+1) (by omega) (by omega) (enc y1)
     rw[← hjN1] at c1c
     rw[← hx1] at c1a
     rw[← hy1,← hjN1] at c1b
     rw[← hjN1] at f1b
     clear S2 hx1 hy1 hjN1
     go_wp2_with fail
     go_big_region_o
     clear c1a c1b c1c f1a f1b
     generalize ((wr.setCell ⟨blk,off+k,none⟩ (enc y1)).setCell ⟨blk,off+jN1,none⟩ (enc x1)).drew=w2 at S3 ⊢
     clear ea1 ec1
     go_wp2
     go_roundg (i - 1 - (k+1))
     case measure=>omega
     case rel =>
      refine⟨k+1,swp dk k (k+1),by go_num,by omega,Nat.le_refl _,by rw[size_swp];exact hds,S3,?_⟩
      rw[← HE.out];conv=>rhs;rw[upL,if_pos hlt2]
    ·have hltz2:¬ (k:Int)<((i - 1:Nat):Int):=by omega
     go_wp2_with fail
     (try simp only[Exit.inBlock,Exit.then]);refine bodyPost_ret (results_none rfl _ _ _) rfl ?_
     refine⟨rfl,?_⟩
     rw[← HE.out,upL,if_neg hlt2]
     exact S2.out
set_option maxHeartbeats 8000000 in
theorem z24m (enc:α→Value) (cf:α→α→Int) (g:Nat) (cb:Array Value) (blk off cap a m b:Nat) (d0 d:Array α) (w0 w:World)
  (eg:∀ args w,(callFunc g args).run Tryz.prog w=.ok (.enter g args) w) (hcmp:CmpX Tryz.prog g cb enc cf blk off d0.size w0)
  (R:Row1 enc w0 blk off d0) (hs:d0.size=d.size) (S:SX enc w0 blk off d w) (ham:a<m) (hm1:m - a≠1) (hmb:b=m+1) (hb:b≤d.size) (hsz:d.size<4611686018427387904) :
  Calls Tryz.prog 227 #[.slice (some ⟨blk,off,none⟩) d.size cap,.int .i64 a,.int .i64 m,.int .i64 b,.func (.func g) #[] cb] w fun e w'=>e=.returned (.tuple #[])∧SX enc w0 blk off (dnL d m (bsL (fun h=>!ltOf cf d[m]! d[h]!) a m)) w':=by
 have mixed:Tryz.prog.follows .mixedOrders=true:=by kernel_rfl
 have hcl0:=R.hO.cells
 simp only[Value.cells] at hcl0
 have hst:=R.hO.store Tryz.prog
 have S0:Aside (SX enc w0 blk off d w):=S
 have HC:Aside _:=hcmp
 clear S hcmp
 obtain⟨r,hr⟩ : ∃ r,r=bsL (fun h=>!ltOf cf d[m]! d[h]!) a m:=⟨_,rfl⟩
 have hrb:=zvh (fun h=>!ltOf cf d[m]! d[h]!) a m (by omega)
 rw[← hr] at hrb ⊢
 have HR:=Lib.hid hr
 clear hr
 have h1:((m:Int) - (a:Int) == 1)=false:=by simp;omega
 have h2:((b:Int) - (m:Int) == 1)=true:=by simp;omega
 have hmb1:m<b:=by omega
 have HAM:=Lib.hid hmb
 clear hmb
 go_enter Tryz.func227,Tryz.ntmps227
 go_wp2
 go_loopg [14,15] (m - a) (fun kx s10 s11 wr=>∃ (i j:Nat),s10=.int .i64 i∧s11=.int .i64 j∧a≤i∧i≤j∧j≤m∧j - i≤kx∧Aside (SX enc w0 blk off d wr)∧bsL (fun h=>!ltOf cf d[m]! d[h]!) i j=r)
 case atStart=>exact⟨a,m,rfl,rfl,Nat.le_refl _,by omega,Nat.le_refl _,by omega,S0,HR.out.symm⟩
 case round =>
  clear S0
  obtain⟨i,j,rfl,rfl,hmi,hij,hjb,hkx,S1,heq⟩:=hrel
  rw[bsL] at heq
  have HQ:=Lib.hid heq
  clear heq
  by_cases hlt : i<j
  ·have hltz:(i:Int)<(j:Int):=by omega
   go_wp2_with fail
   obtain⟨k,hk⟩ : ∃ q,q=(i+j) / 2:=⟨_,rfl⟩
   have ek:((i:Int)+(j:Int)) / 2=(k:Int):=by omega
   simp only[ek]
   clear ek
   obtain⟨x1,hx1⟩ : ∃ x,x=d[m]!:=⟨_,rfl⟩
   obtain⟨y1,hy1⟩ : ∃ x,x=d[k]!:=⟨_,rfl⟩
   have ea1:((k:Int)).toNat=k:=by omega
   have pa1:(0:Int)≤(k:Int):=by omega
   have ba1:(k:Int)<(d.size:Int):=by omega
   have ec1:((m:Int)).toNat=m:=by omega
   have pc1:(0:Int)≤(m:Int):=by omega
   have bc1:(m:Int)<(d.size:Int):=by omega
   have l1a:=S1.out.cl R (by omega) m (by omega)
   have l1b:=S1.out.cl R (by omega) k (by omega)
   rw[← hx1] at l1a
   rw[← hy1] at l1b
   have hc1:=S1.out.cmp HC.out (by omega) x1 y1
   have hlt1:ltOf cf d[m]! d[k]! = decide (cf x1 y1<0):=by rw[hx1,hy1];rfl
   have HL:=Lib.hid hlt1
   have HK:=Lib.hid hk
   clear hx1 hy1 hlt1 hk
   by_cases hv : cf x1 y1<0
   ·have hd1:decide (cf x1 y1<0)=true:=decide_eq_true hv
    refine wp_region_quiet_below (by assumption) (by kernel_rfl) ?_
    repeat (quiet_step (first | (go_at_fn g;refine Calls.regrown_of (hc1 _ _))))
    refine wpQuiet_nil ?_
    intro _ hw'
    obtain⟨⟨nq,osq⟩,hw''⟩:=hw'
    subst hw''
    have S2:Aside (SX enc w0 blk off d (grow (redrawn wr nq) osq)):=S1.out.regrown nq osq
    clear l1a l1b hc1 S1
    generalize grow (redrawn wr nq) osq=w2 at S2 ⊢
    clear nq osq
    go_wp2_with fail
    have e1:=HK.out
    go_roundg (k - i)
    case measure=>omega
    case rel=>exact⟨i,k,rfl,rfl,by omega,by omega,by omega,Nat.le_refl _,S2,by rw[← HQ.out,if_pos hlt,← e1,if_neg (by rw[HL.out,hd1];simp)]⟩
   ·have hd1:decide (cf x1 y1<0)=false:=decide_eq_false hv
    refine wp_region_quiet_below (by assumption) (by kernel_rfl) ?_
    repeat (quiet_step (first | (go_at_fn g;refine Calls.regrown_of (hc1 _ _))))
    refine wpQuiet_nil ?_
    intro _ hw'
    obtain⟨⟨nq,osq⟩,hw''⟩:=hw'
    subst hw''
    have S2:Aside (SX enc w0 blk off d (grow (redrawn wr nq) osq)):=S1.out.regrown nq osq
    clear l1a l1b hc1 S1
    generalize grow (redrawn wr nq) osq=w2 at S2 ⊢
    clear nq osq
    go_wp2_with fail
    have e1:=HK.out
    go_roundg (j - (k+1))
    case measure=>omega
    case rel=>exact⟨k+1,j,by go_num,rfl,by omega,by omega,by omega,Nat.le_refl _,S2,by rw[← HQ.out,if_pos hlt,← e1,if_pos (by rw[HL.out,hd1];rfl)]⟩
  ·have hltz:¬ (i:Int)<(j:Int):=by omega
   have er:i=r:=by rw[← HQ.out,if_neg hlt]
   clear HQ
   subst er
   go_wp2_with fail
   go_loopg [17] (m - i) (fun kx s13 wr2=>∃ (k:Nat) (dk:Array α),s13=.int .i64 k∧i≤k∧k≤m∧k - i≤kx∧dk.size=d.size∧Aside (SX enc w0 blk off dk wr2)∧dnL dk k i=dnL d m i)
   case atStart=>exact⟨m,d,rfl,by omega,Nat.le_refl _,Nat.le_refl _,rfl,S1,rfl⟩
   case round =>
    clear S1
    obtain⟨k,dk,rfl,hak,hkm,hkx2,hds,S2,heq⟩:=hrel
    have HE:=Lib.hid heq
    clear heq
    by_cases hlt2 : i<k
    ·have hltz2:(i:Int)<(k:Int):=by omega
     go_wp2_with fail
     obtain⟨jN1,hjN1⟩ : ∃ q,q=k - 1:=⟨_,rfl⟩
     have ea1:((k:Int)).toNat=k:=by omega
     have pa1:(0:Int)≤(k:Int):=by omega
     have ba1:(k:Int)<(d.size:Int):=by omega
     have ec1:((k:Int) - 1).toNat=jN1:=by omega
     have pc1:(0:Int)≤(k:Int) - 1:=by omega
     have bc1:(k:Int) - 1<(d.size:Int):=by omega
     have rc1:IntKind.i64.wrap ((k:Int) - 1)=(k:Int) - 1:=by rw[IntKind.wrap_i64];omega
     obtain⟨x1,hx1⟩ : ∃ x,x=dk[k]!:=⟨_,rfl⟩
     obtain⟨y1,hy1⟩ : ∃ x,x=dk[k - 1]!:=⟨_,rfl⟩
     have S3:Aside (SX enc w0 blk off (swp dk k (k - 1)) ((wr.setCell ⟨blk,off+k,none⟩ (enc y1)).setCell ⟨blk,off+jN1,none⟩ (enc x1)).drew):=by rw[hjN1,hx1,hy1];exact S2.out.swapped R k (k - 1) (by omega) (by omega)
     have c1a:=S2.out.c1 R (by omega) k (by omega)
     have c1b:=S2.out.c1 R (by omega) (k - 1) (by omega)
     have f1a:=S2.out.f1 R (by omega) k (by omega)
     have f1b:=S2.out.f1 R (by omega) (k - 1) (by omega)
     obtain⟨u1,c1c⟩:=S2.out.c2 R (by omega) k (k - 1) (by omega) (by omega) (enc y1)
     rw[← hjN1] at c1c
     rw[← hx1] at c1a
     rw[← hy1,← hjN1] at c1b
     rw[← hjN1] at f1b
     clear S2 hx1 hy1 hjN1
     go_wp2_with fail
     go_big_region_o
     clear c1a c1b c1c f1a f1b
     generalize ((wr.setCell ⟨blk,off+k,none⟩ (enc y1)).setCell ⟨blk,off+jN1,none⟩ (enc x1)).drew=w2 at S3 ⊢
     clear ea1 ec1
     go_wp2
     go_roundg (k - 1 - i)
     case measure=>omega
     case rel =>
      refine⟨k - 1,swp dk k (k - 1),by go_num,by omega,by omega,Nat.le_refl _,by rw[size_swp];exact hds,S3,?_⟩
      rw[← HE.out];conv=>rhs;rw[dnL,if_pos hlt2]
    ·have hltz2:¬ (i:Int)<(k:Int):=by omega
     go_wp2_with fail
     (try simp only[Exit.inBlock,Exit.then]);refine bodyPost_ret (results_none rfl _ _ _) rfl ?_
     refine⟨rfl,?_⟩
     rw[← HE.out,dnL,if_neg hlt2]
     exact S2.out
end
end Go.Proofs.YtjfpbchdcbhfgaaGreat.B
namespace Go.Proofs.YtjfpbchdcbhfgaaGreat.B
open Go Go.RowKit Go.Shelf Go.Lib Go.Sort
set_option maxRecDepth 1000000
set_option linter.unusedVariables false
noncomputable section
variable {α:Type} [Inhabited α]
theorem z1x0 (lt:α→α→Bool) (f:Nat) (d:Array α) (a m b mid s e:Nat) (h1:m - a≠1) (h2:b - m≠1) (hmid:mid=(a+b) / 2) (hs:s=symS lt d a m b) (he:e=mid+m - s) :
  symF lt (f+1) d a m b=if mid<e∧e<b then symF lt f (if a<s∧s<mid then symF lt f (if s<m∧m<e then rotF d s m e else d) a s mid else (if s<m∧m<e then rotF d s m e else d)) mid e b
   else (if a<s∧s<mid then symF lt f (if s<m∧m<e then rotF d s m e else d) a s mid else (if s<m∧m<e then rotF d s m e else d)):=by
 subst hs;subst hmid;subst he
 rw[symF,if_neg h1,if_neg h2]
attribute [local irreducible] rotF symF in
set_option maxHeartbeats 4000000 in
theorem z25i (enc:α→Value) (cf:α→α→Int) (g:Nat) (cb:Array Value) (blk off cap:Nat) (d0:Array α) (w0:World)
    (eg:∀ args w,(callFunc g args).run Tryz.prog w=.ok (.enter g args) w) (hcmp:CmpX Tryz.prog g cb enc cf blk off d0.size w0)
    (R:Row1 enc w0 blk off d0) (hsz:d0.size<4611686018427387904) : ∀ (f:Nat) (d:Array α) (w:World) (a m b:Nat),d0.size=d.size→SX enc w0 blk off d w→a<m→m<b→b≤d.size→b - a≤f →
    Calls Tryz.prog 227 #[.slice (some ⟨blk,off,none⟩) d.size cap,.int .i64 a,.int .i64 m,.int .i64 b,.func (.func g) #[] cb] w fun e w'=>e=.returned (.tuple #[])∧SX enc w0 blk off (symF (ltOf cf) f d a m b) w':=by
  intro f
  induction f with
  | zero=>intro d w a m b _ _ h1 h2 _ h3;omega
  | succ f ih =>
    intro d w a m b hs S ham hmb hb hf
    by_cases hm1 : m - a=1
    · rw[symF,if_pos hm1]
      exact z24l enc cf g cb blk off cap a m b d0 d w0 w eg hcmp R hs S (by omega) hmb hb (by omega)
    by_cases hb1 : b - m=1
    · rw[symF,if_neg hm1,if_pos hb1]
      exact z24m enc cf g cb blk off cap a m b d0 d w0 w eg hcmp R hs S ham hm1 (by omega) hb (by omega)
    have mixed:Tryz.prog.follows .mixedOrders=true:=by kernel_rfl
    have hcl0:=R.hO.cells
    simp only[Value.cells] at hcl0
    have hst:=R.hO.store Tryz.prog
    have S0:Aside (SX enc w0 blk off d w):=S
    have HC:Aside _:=hcmp
    have hrec:∀ (dk:Array α) (W:World) (x y z:Nat),dk.size=d.size→SX enc w0 blk off dk W→x<y→y<z→z≤d.size→z - x≤f →
        Calls Tryz.prog 227 #[.slice (some ⟨blk,off,none⟩) d.size cap,.int .i64 x,.int .i64 y,.int .i64 z,.func (.func g) #[] cb] W fun e w'=>e=.returned (.tuple #[])∧SX enc w0 blk off (symF (ltOf cf) f dk x y z) w':=fun dk W x y z h1 h2 h3 h4 h5 h6=>by
      have:=ih dk W x y z (by omega) h2 h3 h4 (by omega) h6
      rwa [h1] at this
    have HREC:=Lib.hid hrec
    clear S ih hrec
    obtain⟨mid,hmid⟩ : ∃ q,q=(a+b) / 2:=⟨_,rfl⟩
    obtain⟨s,hsd⟩ : ∃ q,q=symS (ltOf cf) d a m b:=⟨_,rfl⟩
    obtain⟨e,hed⟩ : ∃ q,q=mid+m - s:=⟨_,rfl⟩
    have HF:=Lib.hid (z1x0 (ltOf cf) f d a m b mid s e hm1 hb1 hmid hsd hed)
    obtain⟨lo,hi,hlo⟩ : ∃ lo hi,(mid<m∧lo=mid+m - b∧hi=mid)∨(m≤mid∧lo=a∧hi=m):=by
      by_cases h : mid<m
      · exact⟨_,_,.inl ⟨h,rfl,rfl⟩⟩
      · exact⟨_,_,.inr ⟨by omega,rfl,rfl⟩⟩
    have hss:s=bsL (fun c=>!ltOf cf d[mid+m - 1 - c]! d[c]!) lo hi:=by
      rw[hsd];unfold symS;rw[← hmid]
      rcases hlo with ⟨h,rfl,rfl⟩ | ⟨h,rfl,rfl⟩
      · rw[if_pos h,if_pos h]
      · rw[if_neg (by omega),if_neg (by omega)]
    have hsb:=zvh (fun c=>!ltOf cf d[mid+m - 1 - c]! d[c]!) lo hi (by omega)
    rw[← hss] at hsb
    have g1:((m:Int) - (a:Int) == 1)=false:=by simp;omega
    have g2:((b:Int) - (m:Int) == 1)=false:=by simp;omega
    have HSS:=Lib.hid hss
    have HMID:=Lib.hid hmid
    have HED:=Lib.hid hed
    have hle:lo≤hi:=by omega
    have hlb:∀ c,lo≤c→c<hi→c<d.size∧c+1≤mid+m∧mid+m - 1 - c<d.size:=fun c h1 h2=>by omega
    have LB:=Lib.hid hlb
    have he1:mid+m=e+s:=by omega
    have HE1:=Lib.hid he1
    clear he1
    have eb:((a:Int)+(b:Int)) / 2=(mid:Int):=by omega
    have mb:mid+m<9223372036854775807:=by omega
    have md:mid<d.size:=by omega
    have hib:hi<d.size:=by omega
    have hsz2:d.size<4611686018427387904:=by omega
    clear hss hed hmid hlb hsd
    rcases hlo with ⟨hA,hlo,hhi⟩ | ⟨hA,hlo,hhi⟩
    all_goals
      have HLO:=Lib.hid hlo
      have HHI:=Lib.hid hhi
      clear hlo hhi
      have k1:mid<m→((mid:Int)+(m:Int) - (b:Int))=((mid+m - b:Nat):Int):=fun _=>by omega
      first
        | have hAz:(mid:Int)<(m:Int):=by omega
        | have hAz:¬ (mid:Int)<(m:Int):=by omega
      first
        | have hAy:¬ mid<m:=by omega
        | skip
      go_enter Tryz.func227,Tryz.ntmps227
      go_wp2_with fail
      go_loopg [20,21] (hi - lo) (fun kx s20 s21 wr=>∃ (i j:Nat),s20=.int .i64 i∧s21=.int .i64 j∧lo≤i∧i≤j∧j≤hi∧j - i≤kx∧Aside (SX enc w0 blk off d wr)∧bsL (fun c=>!ltOf cf d[mid+m - 1 - c]! d[c]!) i j=s)
      case atStart=>exact⟨lo,hi,by rw[HLO.out],by rw[HHI.out],Nat.le_refl _,hle,Nat.le_refl _,Nat.le_refl _,S0,HSS.out.symm⟩
      case round =>
        clear S0
        obtain⟨i,j,rfl,rfl,hmi,hij,hjb,hkx,S1,heq⟩:=hrel
        rw[bsL] at heq
        have HQ:=Lib.hid heq
        clear heq
        by_cases hlt : i<j
        · have hltz:(i:Int)<(j:Int):=by omega
          go_wp2_with fail
          obtain⟨k,hk⟩ : ∃ q,q=(i+j) / 2:=⟨_,rfl⟩
          have ek:((i:Int)+(j:Int)) / 2=(k:Int):=by omega
          simp only[ek]
          clear ek
          obtain⟨q1,q2,q3⟩:=LB.out k (by omega) (by omega)
          obtain⟨iN1,hiN1⟩ : ∃ q,q=mid+m - 1 - k:=⟨_,rfl⟩
          obtain⟨x1,hx1⟩ : ∃ x,x=d[iN1]!:=⟨_,rfl⟩
          obtain⟨y1,hy1⟩ : ∃ x,x=d[k]!:=⟨_,rfl⟩
          have ez1:((mid:Int)+(m:Int) - 1 - (k:Int))=(iN1:Int):=by omega
          have ra1:IntKind.i64.wrap ((mid:Int)+(m:Int) - 1 - (k:Int))=(iN1:Int):=by rw[IntKind.wrap_i64];omega
          have rb1:IntKind.i64.wrap (iN1:Int)=(iN1:Int):=by rw[IntKind.wrap_i64];omega
          have ea1:((iN1:Int)).toNat=iN1:=by omega
          have pa1:(0:Int)≤(iN1:Int):=by omega
          have ba1:(iN1:Int)<(d.size:Int):=by omega
          have ec1:((k:Int)).toNat=k:=by omega
          have pc1:(0:Int)≤(k:Int):=by omega
          have bc1:(k:Int)<(d.size:Int):=by omega
          have l1a:=S1.out.cl R (by omega) iN1 (by omega)
          have l1b:=S1.out.cl R (by omega) k (by omega)
          rw[← hx1] at l1a
          rw[← hy1] at l1b
          have hc1:=S1.out.cmp HC.out (by omega) x1 y1
          have hlt1:ltOf cf d[mid+m - 1 - k]! d[k]! = decide (cf x1 y1<0):=by rw[← hiN1,hx1,hy1];rfl
          have HL:=Lib.hid hlt1
          have HK:=Lib.hid hk
          clear hx1 hy1 hlt1 hk hiN1
          by_cases hv : cf x1 y1<0
          · have hd1:decide (cf x1 y1<0)=true:=decide_eq_true hv
            refine wp_region_quiet_below (by assumption) (by kernel_rfl) ?_
            repeat (quiet_step (first | (go_at_fn g;refine Calls.regrown_of (hc1 _ _))))
            refine wpQuiet_nil ?_
            intro _ hw'
            obtain⟨⟨nq,osq⟩,hw''⟩:=hw'
            subst hw''
            have S2:Aside (SX enc w0 blk off d (grow (redrawn wr nq) osq)):=S1.out.regrown nq osq
            clear l1a l1b hc1 S1
            generalize grow (redrawn wr nq) osq=w2 at S2 ⊢
            clear nq osq
            go_wp2_with fail
            have e1:=HK.out
            go_roundg (k - i)
            case measure=>omega
            case rel=>exact⟨i,k,rfl,rfl,by omega,by omega,by omega,Nat.le_refl _,S2,by rw[← HQ.out,if_pos hlt,← e1,if_neg (by rw[HL.out,hd1];simp)]⟩
          · have hd1:decide (cf x1 y1<0)=false:=decide_eq_false hv
            refine wp_region_quiet_below (by assumption) (by kernel_rfl) ?_
            repeat (quiet_step (first | (go_at_fn g;refine Calls.regrown_of (hc1 _ _))))
            refine wpQuiet_nil ?_
            intro _ hw'
            obtain⟨⟨nq,osq⟩,hw''⟩:=hw'
            subst hw''
            have S2:Aside (SX enc w0 blk off d (grow (redrawn wr nq) osq)):=S1.out.regrown nq osq
            clear l1a l1b hc1 S1
            generalize grow (redrawn wr nq) osq=w2 at S2 ⊢
            clear nq osq
            go_wp2_with fail
            have e1:=HK.out
            go_roundg (j - (k+1))
            case measure=>omega
            case rel=>exact⟨k+1,j,by go_num,rfl,by omega,by omega,by omega,Nat.le_refl _,S2,by rw[← HQ.out,if_pos hlt,← e1,if_pos (by rw[HL.out,hd1];rfl)]⟩
        · have hltz:¬ (i:Int)<(j:Int):=by omega
          have er:i=s:=by rw[← HQ.out,if_neg hlt]
          clear HQ
          subst er
          have he1:=HE1.out
          have ee:((mid:Int)+(m:Int) - (i:Int))=(e:Int):=by omega
          have heb:e≤b:=by have:=HLO.out;have:=HHI.out;omega
          have hai:a≤i:=by have:=HLO.out;omega
          have him:i≤m:=by have:=HHI.out;omega
          clear he1
          rcases Nat.lt_or_ge i m with c1 | c1<;>rcases Nat.lt_or_ge m e with c2 | c2<;>rcases Nat.lt_or_ge a i with c3 | c3<;>rcases Nat.lt_or_ge i mid with c4 | c4<;>rcases Nat.lt_or_ge mid e with c5 | c5<;>rcases Nat.lt_or_ge e b with c6 | c6
          all_goals first
            | (exfalso;have:=HE1.out;have:=HLO.out;have:=HHI.out;omega)
            | skip
          all_goals
            have hff:=HF.out
            first | rw[if_pos (show i<m∧m<e from ⟨by omega,by omega⟩)] at hff | rw[if_neg (show ¬ (i<m∧m<e) by omega)] at hff
            first | rw[if_pos (show a<i∧i<mid from ⟨by omega,by omega⟩)] at hff | rw[if_neg (show ¬ (a<i∧i<mid) by omega)] at hff
            first | rw[if_pos (show mid<e∧e<b from ⟨by omega,by omega⟩)] at hff | rw[if_neg (show ¬ (mid<e∧e<b) by omega)] at hff
            have HFF:=Lib.hid hff
            clear hff
            first | have x1:(i:Int)<(m:Int):=by omega | have x1:¬ (i:Int)<(m:Int):=by omega
            first | have x2:(m:Int)<(e:Int):=by omega | have x2:¬ (m:Int)<(e:Int):=by omega
            first | have x3:(a:Int)<(i:Int):=by omega | have x3:¬ (a:Int)<(i:Int):=by omega
            first | have x4:(i:Int)<(mid:Int):=by omega | have x4:¬ (i:Int)<(mid:Int):=by omega
            first | have x5:(mid:Int)<(e:Int):=by omega | have x5:¬ (mid:Int)<(e:Int):=by omega
            first | have x6:(e:Int)<(b:Int):=by omega | have x6:¬ (e:Int)<(b:Int):=by omega
            go_wp2_with (first
              | (go_at_call 244;refine (z223 enc g cb blk off cap i m e d0 d w0 _ R hs S1.out (by omega) (by omega) (by omega) (by omega)).mono ?_;rintro e1 w1 ⟨rfl,T⟩;have S1:=Lib.hid T;clear T)
              | (go_at_call 227
                 refine (HREC.out _ _ _ _ _ ?_ S1.out ?_ ?_ ?_ ?_).mono ?_
                 · first | exact hs.symm | (simp only[z1l2,zhz])
                 · omega
                 · omega
                 · omega
                 · omega
                 rintro e1 w1 ⟨rfl,T⟩;have S1:=Lib.hid T;clear T)
              | fail)
            go_end0
            exact⟨rfl,by rw[HFF.out];exact S1.out⟩
end
end Go.Proofs.YtjfpbchdcbhfgaaGreat.B
namespace Go.Proofs.YtjfpbchdcbhfgaaGreat.B
open Go Go.Sort
set_option linter.unusedVariables false
section
variable {α:Type}
structure Pre (le:α→α→Bool) : Prop where
 trans : ∀ a b c,le a b=true→le b c=true→le a c=true
 total : ∀ a b,le a b=true∨le b a=true
theorem Pre.refl {le:α→α→Bool} (h:Pre le) (a:α) : le a a=true:=(h.total a a).elim id id
def insS (le:α→α→Bool) (l:List α) (x:α) : List α:=(l.takeWhile fun y=>le y x)++x::l.dropWhile fun y=>le y x
def z2f (le:α→α→Bool) (l:List α) : List α:=l.foldl (insS le) []
def SrtS (le:α→α→Bool) (l:List α) : Prop:=l.Pairwise fun a b=>le a b=true
variable {le:α→α→Bool}
theorem z1l3 (l:List α) (x:α) : (insS le l x).Perm (x::l):=by
 have e:(l.takeWhile fun y=>le y x)++(l.dropWhile fun y=>le y x)=l:=List.takeWhile_append_dropWhile
 unfold insS
 refine List.perm_middle.trans ?_
 rw[e]
theorem z1hk (h:Pre le) {l:List α} (hs:SrtS le l) (x:α) : ∀ y∈l.dropWhile (fun y=>le y x),le y x=false:=by
 induction l with
 | nil=>simp
 | cons z r ih =>
  obtain⟨h1,h2⟩:=List.pairwise_cons.1 hs
  intro y hy
  by_cases hz : le z x=true
  ·rw[List.dropWhile_cons,if_pos hz] at hy
   exact ih h2 y hy
  ·rw[List.dropWhile_cons,if_neg hz] at hy
   rcases List.mem_cons.1 hy with rfl | hy
   ·simpa using hz
   ·cases hyx : le y x with
    | false=>rfl
    | true=>exact (hz (h.trans z y x (h1 y hy) hyx)).elim
theorem z1hl (l:List α) (x:α) : ∀ y∈l.takeWhile (fun y=>le y x),le y x=true:=by
 intro y hy
 have:=List.all_takeWhile (p:=fun y=>le y x) (l:=l)
 exact List.all_eq_true.1 this y hy
theorem Pre.lt (h:Pre le) {a b:α} (hn:le a b=false) : le b a=true:=by
 rcases h.total a b with e | e
 ·rw[hn] at e;simp at e
 ·exact e
theorem z1qk (h:Pre le) {l:List α} (hs:SrtS le l) (x:α) : SrtS le (insS le l x):=by
 have e:(l.takeWhile fun y=>le y x)++(l.dropWhile fun y=>le y x)=l:=List.takeWhile_append_dropWhile
 have hs':=hs
 unfold SrtS at hs'
 rw[← e] at hs'
 obtain⟨t1,t2,t3⟩:=List.pairwise_append.1 hs'
 have hd:=z1hk h hs x
 have ht:=z1hl (le:=le) l x
 unfold insS SrtS
 refine List.pairwise_append.2 ⟨t1,List.pairwise_cons.2 ⟨fun y hy=>h.lt (hd y hy),t2⟩,fun a ha b hb=>?_⟩
 rcases List.mem_cons.1 hb with rfl | hb
 ·exact ht a ha
 ·exact t3 a ha b hb
theorem z19z (h:Pre le) : ∀ (l s:List α),SrtS le s→SrtS le (l.foldl (insS le) s)∧(l.foldl (insS le) s).Perm (l++s)
 | [],s,hs=>⟨hs,List.Perm.refl _⟩
 | x::l,s,hs=>by
  obtain⟨h1,h2⟩:=z19z h l (insS le s x) (z1qk h hs x)
  exact⟨h1,h2.trans (((z1l3 s x).append_left l).trans List.perm_middle)⟩
theorem zc5 (h:Pre le) (l:List α) : SrtS le (z2f le l):=(z19z h l [] List.Pairwise.nil).1
theorem znm (h:Pre le) (l:List α) : (z2f le l).Perm l:=by
 have:=(z19z h l [] List.Pairwise.nil).2
 rw[List.append_nil] at this
 exact this
theorem z6b (h:Pre le) (l:List α) : (z2f le l).length=l.length:=(znm h l).length_eq
theorem z1dr (l:List α) (x:α) : z2f le (l++[x])=insS le (z2f le l) x:=by unfold z2f;rw[List.foldl_append];rfl
theorem z1zq : ∀ (n:Nat) (A1 A2 B1 B2:List α),A1.length+B1.length=n→(∀ x∈A1,∀ y∈B2,le x y=true)→(∀ y∈B1,∀ x∈A2,le x y=false)→(A1++A2).merge (B1++B2) le=A1.merge B1 le++A2.merge B2 le:=by
 intro n
 induction n with
 | zero =>
  intro A1 A2 B1 B2 hn _ _
  obtain rfl : A1=[]:=List.eq_nil_of_length_eq_zero (by omega)
  obtain rfl : B1=[]:=List.eq_nil_of_length_eq_zero (by omega)
  simp
 | succ n ih =>
  intro A1 A2 B1 B2 hn h1 h2
  cases A1 with
  | nil =>
   cases B1 with
   | nil=>simp at hn
   | cons b B1 =>
    have e:=ih [] A2 B1 B2 (by simp at hn ⊢;omega) (by simp) (fun y hy x hx=>h2 y (List.mem_cons_of_mem _ hy) x hx)
    cases A2 with
    | nil=>simp
    | cons x A2 =>
     have hb:=h2 b List.mem_cons_self x List.mem_cons_self
     simp only[List.nil_append,List.cons_append,List.nil_merge] at e ⊢
     rw[List.cons_merge_cons,if_neg (by rw[hb];simp),e]
  | cons a A1 =>
   cases B1 with
   | nil =>
    have e:=ih A1 A2 [] B2 (by simp at hn ⊢;omega) (fun x hx y hy=>h1 x (List.mem_cons_of_mem _ hx) y hy) (by simp)
    cases B2 with
    | nil=>simp
    | cons y B2 =>
     have hb:=h1 a List.mem_cons_self y List.mem_cons_self
     simp only[List.nil_append,List.cons_append,List.merge_right] at e ⊢
     rw[List.cons_merge_cons,if_pos hb,e]
   | cons b B1 =>
    simp only[List.cons_append]
    rw[List.cons_merge_cons,List.cons_merge_cons]
    by_cases hab : le a b=true
    ·rw[if_pos hab,if_pos hab]
     have e:=ih A1 A2 (b::B1) B2 (by simp at hn ⊢;omega) (fun x hx y hy=>h1 x (List.mem_cons_of_mem _ hx) y hy) h2
     rw[← List.cons_append (a:=b),e];rfl
    ·rw[if_neg hab,if_neg hab]
     have e:=ih (a::A1) A2 B1 B2 (by simp at hn ⊢;omega) h1 (fun y hy x hx=>h2 y (List.mem_cons_of_mem _ hy) x hx)
     rw[← List.cons_append (a:=a),e];rfl
theorem z8t {A1 A2 B1 B2:List α} (h1:∀ x∈A1,∀ y∈B2,le x y=true) (h2:∀ y∈B1,∀ x∈A2,le x y=false) : (A1++A2).merge (B1++B2) le=A1.merge B1 le++A2.merge B2 le:=z1zq _ _ _ _ _ rfl h1 h2
theorem z1zr (h:Pre le) {A B:List α} (hA:SrtS le A) (hB:SrtS le B) (y:α) : A.merge (insS le B y) le=insS le (A.merge B le) y:=by
 have eA:(A.takeWhile fun z=>le z y)++(A.dropWhile fun z=>le z y)=A:=List.takeWhile_append_dropWhile
 have eB:(B.takeWhile fun z=>le z y)++(B.dropWhile fun z=>le z y)=B:=List.takeWhile_append_dropWhile
 have a1:=z1hl (le:=le) A y
 have b1:=z1hl (le:=le) B y
 have a2:=z1hk h hA y
 have b2:=z1hk h hB y
 generalize (A.takeWhile fun z=>le z y)=A1 at eA a1
 generalize (A.dropWhile fun z=>le z y)=A2 at eA a2
 unfold insS
 generalize (B.takeWhile fun z=>le z y)=B1 at eB b1 ⊢
 generalize (B.dropWhile fun z=>le z y)=B2 at eB b2 ⊢
 have h12:∀ x∈A1,∀ z∈B2,le x z=true:=fun x hx z hz=>h.trans x y z (a1 x hx) (h.lt (b2 z hz))
 have h21:∀ z∈B1,∀ x∈A2,le x z=false:=fun z hz x hx=>by
  cases e : le x z with
  | false=>rfl
  | true=>have:=h.trans x z y e (b1 z hz);rw[a2 x hx] at this;simp at this
 have m1:A.merge B le=A1.merge B1 le++A2.merge B2 le:=by rw[← eA,← eB];exact z8t h12 h21
 have m2:A.merge (B1++y::B2) le=A1.merge B1 le++y::A2.merge B2 le:=by
  have e1:A.merge (B1++y::B2) le=A1.merge (B1++[y]) le++A2.merge B2 le:=by
   rw[← eA,show B1++y::B2=(B1++[y])++B2 by simp]
   refine z8t h12 fun z hz x hx=>?_
   rcases List.mem_append.1 hz with hz | hz
   ·exact h21 z hz x hx
   ·rw[List.mem_singleton] at hz;subst hz;exact a2 x hx
  have e2:A1.merge (B1++[y]) le=A1.merge B1 le++[y]:=by
   have:=z8t (le:=le) (A1:=A1) (A2:=[]) (B1:=B1) (B2:=[y]) (fun x hx z hz=>by rw[List.mem_singleton] at hz;subst hz;exact a1 x hx) (by simp)
   rw[List.append_nil,List.nil_merge] at this
   exact this
  rw[e1,e2];simp
 have hm1:∀ z∈A1.merge B1 le,le z y=true:=fun z hz=>by
  rcases List.mem_merge.1 hz with hz | hz
  ·exact a1 z hz
  ·exact b1 z hz
 have hm2:∀ z∈A2.merge B2 le,le z y=false:=fun z hz=>by
  rcases List.mem_merge.1 hz with hz | hz
  ·exact a2 z hz
  ·exact b2 z hz
 rw[m2,m1]
 generalize A1.merge B1 le=M1 at hm1
 generalize A2.merge B2 le=M2 at hm2
 have t1:(M1++M2).takeWhile (fun z=>le z y)=M1:=by
  rw[List.takeWhile_append_of_pos hm1]
  cases M2 with
  | nil=>simp
  | cons z M2=>rw[List.takeWhile_cons,if_neg (by rw[hm2 z List.mem_cons_self];simp)];simp
 have t2:(M1++M2).dropWhile (fun z=>le z y)=M2:=by
  rw[List.dropWhile_append_of_pos hm1]
  cases M2 with
  | nil=>simp
  | cons z M2=>rw[List.dropWhile_cons,if_neg (by rw[hm2 z List.mem_cons_self];simp)]
 rw[t1,t2]
theorem z1ql {P:List α→Prop} (h0:P []) (h1:∀ l x,P l→P (l++[x])) : ∀ l,P l:=by
 intro l
 have : ∀ n (l:List α),l.length=n→P l:=by
  intro n
  induction n with
  | zero=>intro l hl;rw[List.eq_nil_of_length_eq_zero hl];exact h0
  | succ n ih =>
   intro l hl
   rcases List.eq_nil_or_concat l with rfl | ⟨r,x,rfl⟩
   ·exact h0
   ·rw[List.concat_eq_append] at hl ⊢
    exact h1 r x (ih r (by simpa using hl))
 exact this _ l rfl
theorem z16n (h:Pre le) (X Y:List α) : (z2f le X).merge (z2f le Y) le=z2f le (X++Y):=by
 refine z1ql (P:=fun Y=>(z2f le X).merge (z2f le Y) le=z2f le (X++Y)) ?_ ?_ Y
 ·show (z2f le X).merge [] le=_
  rw[List.merge_right,List.append_nil]
 ·intro Y y ih
  rw[z1dr,z1zr h (zc5 h X) (zc5 h Y),ih,← List.append_assoc,z1dr]
end
end Go.Proofs.YtjfpbchdcbhfgaaGreat.B
namespace Go.Proofs.YtjfpbchdcbhfgaaGreat.B
open Go Go.Sort
set_option linter.unusedVariables false
section
variable {α:Type} [Inhabited α]
theorem zda {d:Array α} {P Q:List α} {x:α} (h:d.toList=P++x::Q) {i:Nat} (hi:i=P.length) : d[i]! = x:=by
 subst hi
 have hl:P.length<d.size:=by rw[← Array.length_toList,h];simp
 rw[getElem!_pos d _ hl,← Array.getElem_toList hl,List.getElem_of_eq h]
 simp
omit [Inhabited α] in
theorem z1ds (x y:α) : ∀ (P Q:List α),(P++x::Q).set P.length y=P++y::Q
 | [],Q=>rfl
 | a::P,Q=>by simp [z1ds x y P Q]
omit [Inhabited α] in
theorem z1uk (x y:α) (P M Q:List α) (z:α) : (P++z::(M++x::Q)).set (P.length+1+M.length) y=P++z::(M++y::Q):=by
 have:=z1ds x y (P++z::M) Q
 rw[List.length_append,List.length_cons,List.append_assoc,List.cons_append,List.append_assoc,List.cons_append] at this
 rw[show P.length+1+M.length=P.length+(M.length+1) by omega]
 exact this
theorem z1qm {d:Array α} {P M Q:List α} {x y:α} (h:d.toList=P++x::(M++y::Q)) {i j:Nat} (hi:i=P.length) (hj:j=P.length+1+M.length) : (swp d i j).toList=P++y::(M++x::Q):=by
 have hx:d[i]! = x:=zda h hi
 have hy:d[j]! = y:=zda (P:=P++x::M) (Q:=Q) (by rw[h];simp) (by simp [hj];omega)
 unfold swp
 rw[hx,hy,Array.toList_setIfInBounds,Array.toList_setIfInBounds,h,hi,hj,z1ds,z1uk]
theorem z1l4 {d:Array α} {P M Q:List α} {x y:α} (h:d.toList=P++x::(M++y::Q)) {i j:Nat} (hi:i=P.length) (hj:j=P.length+1+M.length) : (swp d j i).toList=P++y::(M++x::Q):=by
 have hx:d[i]! = x:=zda h hi
 have hy:d[j]! = y:=zda (P:=P++x::M) (Q:=Q) (by rw[h];simp) (by simp [hj];omega)
 unfold swp
 rw[hx,hy,Array.toList_setIfInBounds,Array.toList_setIfInBounds,h,hi,hj,z1uk,z1ds]
theorem zxm : ∀ (n:Nat) (d:Array α) (P A M B Q:List α) (a b:Nat),A.length=n→B.length=n→a=P.length→b=P.length+n+M.length→d.toList=P++(A++(M++(B++Q)))→(swR d a b n).toList=P++(B++(M++(A++Q)))
 | 0,d,P,A,M,B,Q,a,b,hA,hB,_,_,h=>by
  rw[List.eq_nil_of_length_eq_zero hA,List.eq_nil_of_length_eq_zero hB] at h ⊢
  exact h
 | n+1,d,P,A,M,B,Q,a,b,hA,hB,ha,hb,h=>by
  cases A with
  | nil=>simp at hA
  | cons x A =>
   cases B with
   | nil=>simp at hB
   | cons y B =>
    have s:=z1qm (d:=d) (P:=P) (M:=A++M) (Q:=B++Q) (x:=x) (y:=y) (by rw[h];simp) (i:=a) (j:=b) ha (by simp at hA ⊢;omega)
    have:=zxm n (swp d a b) (P++[y]) A (M++[x]) B Q (a+1) (b+1) (by simpa using hA) (by simpa using hB) (by simp [ha]) (by simp at hA ⊢;omega) (by rw[s];simp)
    rw[swR,this]
    simp
theorem z12n : ∀ (f:Nat) (d:Array α) (P A B Q:List α) (m i j:Nat),A.length=i→B.length=j→0<i→0<j→i+j≤f→m=P.length+i→d.toList=P++(A++(B++Q))→(rotL f d m i j).toList=P++(B++(A++Q))
 | 0,_,_,_,_,_,_,_,_,_,_,h1,_,h2,_,_=>by omega
 | f+1,d,P,A,B,Q,m,i,j,hA,hB,hi,hj,hf,hm,h=>by
  rw[rotL]
  by_cases e : i=j
  ·rw[if_pos e]
   exact zxm i d P A [] B Q _ _ hA (by omega) (by omega) (by simp;omega) h
  ·rw[if_neg e]
   by_cases l : j<i
   ·rw[if_pos l]
    have eA:=List.take_append_drop j A
    have s:=zxm j d P (A.take j) (A.drop j) B Q (m - i) m (by rw[List.length_take];omega) hB (by omega) (by rw[List.length_drop];omega) (by rw[h,← List.append_assoc (A.take j),eA])
    have:=z12n f (swR d (m - i) m j) (P++B) (A.drop j) (A.take j) Q m (i - j) j (by rw[List.length_drop];omega) (by rw[List.length_take];omega) (by omega) hj (by omega) (by rw[List.length_append];omega) (by rw[s];simp)
    rw[this,List.append_assoc,← List.append_assoc (A.take j),eA]
   ·rw[if_neg l]
    have eB:=List.take_append_drop (j - i) B
    have s:=zxm i d P A (B.take (j - i)) (B.drop (j - i)) Q (m - i) (m+j - i) hA (by rw[List.length_drop];omega) (by omega) (by rw[List.length_take];omega) (by rw[h,← List.append_assoc (B.take (j - i)),eB])
    have:=z12n f (swR d (m - i) (m+j - i) i) P (B.drop (j - i)) (B.take (j - i)) (A++Q) m i (j - i) (by rw[List.length_drop];omega) (by rw[List.length_take];omega) hi (by omega) (by omega) hm (by rw[s])
    rw[this,← List.append_assoc (B.take (j - i)),eB]
theorem z1zs {d:Array α} {P A B Q:List α} {a m b:Nat} (ha:a=P.length) (hm:m=P.length+A.length) (hb:b=P.length+A.length+B.length) (hA:0<A.length) (hB:0<B.length) (h:d.toList=P++(A++(B++Q))) : (rotF d a m b).toList=P++(B++(A++Q)):=by
 unfold rotF
 exact z12n _ d P A B Q m _ _ (by omega) (by omega) (by omega) (by omega) (by omega) (by omega) h
theorem z1qn : ∀ (L:List α) (d:Array α) (P Q:List α) (x:α) (k e:Nat),k=P.length→e=P.length+L.length→d.toList=P++x::(L++Q)→(upL d k e).toList=P++(L++x::Q)
 | [],d,P,Q,x,k,e,hk,he,h=>by
  rw[upL,if_neg (by simp at he;omega)];exact h
 | y::L,d,P,Q,x,k,e,hk,he,h=>by
  have s:=z1qm (d:=d) (P:=P) (M:=[]) (Q:=L++Q) (x:=x) (y:=y) (by rw[h];simp) (i:=k) (j:=k+1) hk (by simp [hk])
  have:=z1qn L (swp d k (k+1)) (P++[y]) Q x (k+1) e (by simp [hk]) (by simp at he ⊢;omega) (by rw[s];simp)
  rw[upL,if_pos (by simp at he;omega),this];simp
theorem z1qo : ∀ (n:Nat) (L:List α) (d:Array α) (P Q:List α) (x:α) (k i:Nat),L.length=n→i=P.length→k=P.length+L.length→d.toList=P++(L++x::Q)→(dnL d k i).toList=P++x::(L++Q)
 | 0,L,d,P,Q,x,k,i,hn,hi,hk,h=>by
  rw[List.eq_nil_of_length_eq_zero hn] at h ⊢
  rw[dnL,if_neg (by omega)];exact h
 | n+1,L,d,P,Q,x,k,i,hn,hi,hk,h=>by
  rcases List.eq_nil_or_concat L with rfl | ⟨L',y,rfl⟩
  ·simp at hn
  rw[List.concat_eq_append] at *
  simp at hn hk
  have s:=z1l4 (d:=d) (P:=P++L') (M:=[]) (Q:=Q) (x:=y) (y:=x) (by rw[h];simp) (i:=k - 1) (j:=k) (by simp;omega) (by simp;omega)
  have:=z1qo n L' (swp d k (k - 1)) P (y::Q) x (k - 1) i hn hi (by omega) (by rw[s];simp)
  rw[dnL,if_pos (by omega),this];simp
theorem z1hm (p:Nat→Bool) (i j:Nat) (h:i≤j) (hm:∀ k k',i≤k→k≤k'→k'<j→p k'=true→p k=true) : (∀ k,i≤k→k<bsL p i j→p k=true)∧∀ k,bsL p i j≤k→k<j→p k=false:=by
 fun_induction bsL p i j with
 | case1 i j hlt hp ih =>
  obtain⟨h1,h2⟩:=ih (by omega) fun k k' a b c d=>hm k k' (by omega) b c d
  refine⟨fun k a b=>?_,h2⟩
  by_cases e : k≤(i+j) / 2
  ·exact hm k _ a e (by omega) hp
  ·exact h1 k (by omega) b
 | case2 i j hlt hp ih =>
  obtain⟨h1,h2⟩:=ih (by omega) fun k k' a b c d=>hm k k' a b (by omega) d
  refine⟨h1,fun k a b=>?_⟩
  by_cases e : k<(i+j) / 2
  ·exact h2 k a e
  ·cases hk : p k with
   | false=>rfl
   | true=>exact (hp (hm _ k (by omega) (by omega) b hk)).elim
 | case3 i j hlt=>exact⟨fun k a b=>by omega,fun k a b=>by omega⟩
theorem z1zt {le:α→α→Bool} {d:Array α} {P A Q:List α} (hs:SrtS le A) (hr:∀ a,le a a=true) (h:d.toList=P++(A++Q)) {i j:Nat} (hi:P.length≤i) (hij:i≤j) (hj:j<P.length+A.length) : le d[i]! d[j]! = true:=by
 have g:∀ k,(hk:k<A.length)→d[P.length+k]! = A[k]:=fun k hk=>by
  have e:A=A.take k++A[k]::A.drop (k+1):=by rw[← List.drop_eq_getElem_cons hk,List.take_append_drop]
  refine zda (P:=P++A.take k) (Q:=A.drop (k+1)++Q) ?_ (by rw[List.length_append,List.length_take];omega)
  rw[h,List.append_assoc,show A.take k++A[k]::(A.drop (k+1)++Q)=(A.take k++A[k]::A.drop (k+1))++Q by rw[List.append_assoc,List.cons_append],← e]
 obtain⟨a,rfl⟩ : ∃ a,i=P.length+a:=⟨i - P.length,by omega⟩
 obtain⟨b,rfl⟩ : ∃ b,j=P.length+b:=⟨j - P.length,by omega⟩
 rw[g a (by omega),g b (by omega)]
 by_cases e : a=b
 ·subst e;exact hr _
 ·exact List.pairwise_iff_getElem.1 hs a b (by omega) (by omega) (by omega)
theorem zm5 {d:Array α} {P A Q:List α} (h:d.toList=P++(A++Q)) {x:α} (hx:x∈A) : ∃ i,P.length≤i∧i<P.length+A.length∧d[i]! = x:=by
 obtain⟨k,hk,rfl⟩:=List.mem_iff_getElem.1 hx
 have e:A=A.take k++A[k]::A.drop (k+1):=by rw[← List.drop_eq_getElem_cons hk,List.take_append_drop]
 refine⟨P.length+k,by omega,by omega,zda (P:=P++A.take k) (Q:=A.drop (k+1)++Q) ?_ (by rw[List.length_append,List.length_take];omega)⟩
 rw[h,List.append_assoc,show A.take k++A[k]::(A.drop (k+1)++Q)=(A.take k++A[k]::A.drop (k+1))++Q by rw[List.append_assoc,List.cons_append],← e]
end
end Go.Proofs.YtjfpbchdcbhfgaaGreat.B
namespace Go.Proofs.YtjfpbchdcbhfgaaGreat.B
open Go Go.Sort
set_option linter.unusedVariables false
section
variable {α:Type} [Inhabited α]
omit [Inhabited α] in
theorem z1hn {le:α→α→Bool} {x:α} {B1 B2:List α} (h1:∀ y∈B1,le x y=false) (h2:∀ y∈B2,le x y=true) : [x].merge (B1++B2) le=B1++x::B2:=by
 have e1:=z8t (le:=le) (A1:=[]) (A2:=[x]) (B1:=B1) (B2:=B2) (by simp) (fun y hy z hz=>by rw[List.mem_singleton] at hz;subst hz;exact h1 y hy)
 have e2:=z8t (le:=le) (A1:=[x]) (A2:=[]) (B1:=[]) (B2:=B2) (fun z hz y hy=>by rw[List.mem_singleton] at hz;subst hz;exact h2 y hy) (by simp)
 rw[List.nil_append,List.nil_merge] at e1
 rw[List.append_nil,List.nil_append,List.merge_right,List.nil_merge] at e2
 rw[e1,e2];rfl
omit [Inhabited α] in
theorem z1dt {le:α→α→Bool} {y:α} {A1 A2:List α} (h1:∀ x∈A1,le x y=true) (h2:∀ x∈A2,le x y=false) : (A1++A2).merge [y] le=A1++y::A2:=by
 have e1:=z8t (le:=le) (A1:=A1) (A2:=A2) (B1:=[]) (B2:=[y]) (fun x hx z hz=>by rw[List.mem_singleton] at hz;subst hz;exact h1 x hx) (by simp)
 have e2:=z8t (le:=le) (A1:=[]) (A2:=A2) (B1:=[y]) (B2:=[]) (by simp) (fun z hz x hx=>by rw[List.mem_singleton] at hz;subst hz;exact h2 x hx)
 rw[List.nil_append,List.merge_right] at e1
 rw[List.append_nil,List.nil_append,List.merge_right,List.nil_merge] at e2
 rw[e1,e2];rfl
theorem z1l5 {lt le:α→α→Bool} (hle:∀ x y,le x y=!lt y x) (h:Pre le) : ∀ (f:Nat) (d:Array α) (P A B Q:List α) (a m b:Nat),a=P.length→m=P.length+A.length→b=P.length+A.length+B.length→0<A.length→0<B.length→b - a≤f →
  SrtS le A→SrtS le B→d.toList=P++(A++(B++Q))→(symF lt f d a m b).toList=P++(A.merge B le++Q):=by
 intro f
 induction f with
 | zero=>intro d P A B Q a m b _ _ _ h1 h2 h3;omega
 | succ f ih =>
  intro d P A B Q a m b ha hm hb hA0 hB0 hf sA sB hd
  have ltle:∀ x y,lt x y=!le y x:=fun x y=>by rw[hle];simp
  have hdB:d.toList=(P++A)++(B++Q):=by rw[hd,List.append_assoc]
  have hPA:(P++A).length=m:=by rw[List.length_append];omega
  have oA:∀ i j,a≤i→i≤j→j<m→le d[i]! d[j]! = true:=fun i j h1 h2 h3=>z1zt sA h.refl hd (by omega) h2 (by omega)
  have oB:∀ i j,m≤i→i≤j→j<b→le d[i]! d[j]! = true:=fun i j h1 h2 h3=>z1zt sB h.refl hdB (by omega) h2 (by omega)
  rw[symF]
  by_cases c1 : m - a=1
  ·rw[if_pos c1]
   obtain⟨x,rfl⟩ : ∃ x,A=[x]:=List.length_eq_one_iff.1 (by omega)
   have hx:d[a]! = x:=zda (Q:=B++Q) (by rw[hd];rfl) ha
   obtain⟨q1,q2⟩:=z1hm (fun h=>lt d[h]! d[a]!) m b (by omega) fun k k' u1 u2 u3 u4=>by
    simp only[ltle] at u4 ⊢
    cases e : le d[a]! d[k]! with
    | false=>rfl
    | true=>rw[h.trans _ _ _ e (oB k k' u1 u2 u3)] at u4;simp at u4
   obtain⟨b1,b2⟩:=zvh (fun h=>lt d[h]! d[a]!) m b (by omega)
   generalize bsL (fun h=>lt d[h]! d[a]!) m b=r at q1 q2 b1 b2 ⊢
   have eB:=List.take_append_drop (r - m) B
   have lB:(B.take (r - m)).length=r - m:=by rw[List.length_take];omega
   have lB2:(B.drop (r - m)).length=b - r:=by rw[List.length_drop];omega
   generalize B.take (r - m)=B1 at eB lB
   generalize B.drop (r - m)=B2 at eB lB2
   subst eB
   rw[z1qn B1 d P (B2++Q) x a (r - 1) ha (by simp at hm;omega) (by rw[hd];simp)]
   rw[z1hn]
   ·simp
   ·intro y hy
    obtain⟨i,i1,i2,rfl⟩:=zm5 (P:=P++[x]) (A:=B1) (Q:=B2++Q) (by rw[hd];simp) hy
    have:=q1 i (by omega) (by omega)
    simpa [hx,ltle] using this
   ·intro y hy
    obtain⟨i,i1,i2,rfl⟩:=zm5 (P:=P++[x]++B1) (A:=B2) (Q:=Q) (by rw[hd];simp) hy
    have i3:(P++[x]++B1).length=r:=by simp;simp at hm;omega
    have:=q2 i (by omega) (by omega)
    simpa [hx,ltle] using this
  rw[if_neg c1]
  by_cases c2 : b - m=1
  ·rw[if_pos c2]
   obtain⟨y,rfl⟩ : ∃ y,B=[y]:=List.length_eq_one_iff.1 (by omega)
   have hy:d[m]! = y:=zda (P:=P++A) (Q:=Q) (by rw[hdB];rfl) hPA.symm
   obtain⟨q1,q2⟩:=z1hm (fun h=>!lt d[m]! d[h]!) a m (by omega) fun k k' u1 u2 u3 u4=>by
    simp only[ltle,Bool.not_not] at u4 ⊢
    exact h.trans _ _ _ (oA k k' u1 u2 u3) u4
   obtain⟨b1,b2⟩:=zvh (fun h=>!lt d[m]! d[h]!) a m (by omega)
   generalize bsL (fun h=>!lt d[m]! d[h]!) a m=r at q1 q2 b1 b2 ⊢
   have eA:=List.take_append_drop (r - a) A
   have lA:(A.take (r - a)).length=r - a:=by rw[List.length_take];omega
   have lA2:(A.drop (r - a)).length=m - r:=by rw[List.length_drop];omega
   generalize A.take (r - a)=A1 at eA lA
   generalize A.drop (r - a)=A2 at eA lA2
   subst eA
   rw[z1qo _ A2 d (P++A1) Q y m r rfl (by simp;omega) (by simp;omega) (by rw[hd];simp)]
   rw[z1dt]
   ·simp
   ·intro x hx
    obtain⟨i,i1,i2,rfl⟩:=zm5 (P:=P) (A:=A1) (Q:=A2++([y]++Q)) (by rw[hd];simp) hx
    have:=q1 i (by omega) (by omega)
    simpa [hy,ltle] using this
   ·intro x hx
    obtain⟨i,i1,i2,rfl⟩:=zm5 (P:=P++A1) (A:=A2) (Q:=[y]++Q) (by rw[hd];simp) hx
    have i3:(P++A1).length=r:=by simp;omega
    have:=q2 i (by omega) (by omega)
    simpa [hy,ltle] using this
  rw[if_neg c2]
  simp only
  obtain⟨mid,hmid⟩ : ∃ q,q=(a+b) / 2:=⟨_,rfl⟩
  rw[← hmid]
  obtain⟨lo,hi,hlo⟩ : ∃ lo hi,(mid<m∧lo=mid+m - b∧hi=mid)∨(m≤mid∧lo=a∧hi=m):=by
   by_cases h : mid<m
   ·exact⟨_,_,.inl ⟨h,rfl,rfl⟩⟩
   ·exact⟨_,_,.inr ⟨by omega,rfl,rfl⟩⟩
  have hss:symS lt d a m b=bsL (fun c=>!lt d[mid+m - 1 - c]! d[c]!) lo hi:=by
   unfold symS;rw[← hmid]
   rcases hlo with ⟨h,rfl,rfl⟩ | ⟨h,rfl,rfl⟩
   ·rw[if_pos h,if_pos h]
   ·rw[if_neg (by omega),if_neg (by omega)]
  rw[hss]
  have hloa:a≤lo:=by omega
  have hhim:hi≤m:=by omega
  have hidx:∀ c,lo≤c→c<hi→m≤mid+m - 1 - c∧mid+m - 1 - c<b:=fun c h1 h2=>by omega
  obtain⟨q1,q2⟩:=z1hm (fun c=>!lt d[mid+m - 1 - c]! d[c]!) lo hi (by omega) fun k k' u1 u2 u3 u4=>by
   simp only[ltle,Bool.not_not] at u4 ⊢
   have i1:=hidx k u1 (by omega)
   have i2:=hidx k' (by omega) u3
   exact h.trans _ _ _ (oA k k' (by omega) u2 (by omega)) (h.trans _ _ _ u4 (oB _ _ i2.1 (by omega) i1.2))
  obtain⟨b1,b2⟩:=zvh (fun c=>!lt d[mid+m - 1 - c]! d[c]!) lo hi (by omega)
  generalize bsL (fun c=>!lt d[mid+m - 1 - c]! d[c]!) lo hi=s at q1 q2 b1 b2 ⊢
  simp only[ltle,Bool.not_not] at q1 q2
  obtain⟨e,he⟩ : ∃ e,e=mid+m - s:=⟨_,rfl⟩
  rw[← he]
  have hes:mid+m=e+s:=by omega
  have hem:m≤e:=by omega
  have heb:e≤b:=by omega
  have eA:=List.take_append_drop (s - a) A
  have lA:(A.take (s - a)).length=s - a:=by rw[List.length_take];omega
  have lA2:(A.drop (s - a)).length=m - s:=by rw[List.length_drop];omega
  have eB:=List.take_append_drop (e - m) B
  have lB:(B.take (e - m)).length=e - m:=by rw[List.length_take];omega
  have lB2:(B.drop (e - m)).length=b - e:=by rw[List.length_drop];omega
  generalize A.take (s - a)=A1 at eA lA
  generalize A.drop (s - a)=A2 at eA lA2
  generalize B.take (e - m)=B1 at eB lB
  generalize B.drop (e - m)=B2 at eB lB2
  subst eA;subst eB
  have iA1:∀ x∈A1,∃ i,a≤i∧i<s∧d[i]! = x:=fun x hx=>by
   obtain⟨i,i1,i2,e⟩:=zm5 (P:=P) (A:=A1) (Q:=A2++((B1++B2)++Q)) (by rw[hd];simp) hx
   exact⟨i,by omega,by omega,e⟩
  have iA2:∀ x∈A2,∃ i,s≤i∧i<m∧d[i]! = x:=fun x hx=>by
   obtain⟨i,i1,i2,e⟩:=zm5 (P:=P++A1) (A:=A2) (Q:=(B1++B2)++Q) (by rw[hd];simp) hx
   rw[List.length_append] at i1 i2
   exact⟨i,by omega,by omega,e⟩
  have iB1:∀ x∈B1,∃ i,m≤i∧i<e∧d[i]! = x:=fun x hx=>by
   obtain⟨i,i1,i2,e⟩:=zm5 (P:=P++(A1++A2)) (A:=B1) (Q:=B2++Q) (by rw[hd];simp) hx
   rw[hPA] at i1 i2
   exact⟨i,by omega,by omega,e⟩
  have iB2:∀ x∈B2,∃ i,e≤i∧i<b∧d[i]! = x:=fun x hx=>by
   obtain⟨i,i1,i2,e⟩:=zm5 (P:=P++(A1++A2)++B1) (A:=B2) (Q:=Q) (by rw[hd];simp) hx
   rw[List.length_append,hPA] at i1 i2
   exact⟨i,by omega,by omega,e⟩
  have h12:∀ x∈A1,∀ y∈B2,le x y=true:=fun x hx y hy=>by
   obtain⟨i,i1,i2,rfl⟩:=iA1 x hx
   obtain⟨j,j1,j2,rfl⟩:=iB2 y hy
   have hc:lo<s:=by omega
   have hq:=q1 (s - 1) (by omega) (by omega)
   rw[show mid+m - 1 - (s - 1)=e by omega] at hq
   exact h.trans _ _ _ (oA i (s - 1) i1 (by omega) (by omega)) (h.trans _ _ _ hq (oB e j hem j1 j2))
  have h21:∀ y∈B1,∀ x∈A2,le x y=false:=fun y hy x hx=>by
   obtain⟨i,i1,i2,rfl⟩:=iA2 x hx
   obtain⟨j,j1,j2,rfl⟩:=iB1 y hy
   have hq:=q2 s (Nat.le_refl _) (by omega)
   rw[show mid+m - 1 - s=e - 1 by omega] at hq
   cases hxy : le d[i]! d[j]! with
   | false=>rfl
   | true =>
    have:=h.trans _ _ _ (oA s i (by omega) i1 i2) (h.trans _ _ _ hxy (oB j (e - 1) j1 (by omega) (by omega)))
    rw[hq] at this;simp at this
  rw[z8t h12 h21]
  have sA1:SrtS le A1:=(List.pairwise_append.1 sA).1
  have sA2:SrtS le A2:=(List.pairwise_append.1 sA).2.1
  have sB1:SrtS le B1:=(List.pairwise_append.1 sB).1
  have sB2:SrtS le B2:=(List.pairwise_append.1 sB).2.1
  obtain⟨d1,hd1⟩ : ∃ d1,d1=(if s<m∧m<e then rotF d s m e else d):=⟨_,rfl⟩
  rw[← hd1]
  have t1:d1.toList=P++(A1++(B1++(A2++(B2++Q)))):=by
   rw[hd1]
   by_cases c : s<m∧m<e
   ·rw[if_pos c,z1zs (P:=P++A1) (A:=A2) (B:=B1) (Q:=B2++Q) (by simp;omega) (by simp;omega) (by simp;omega) (by omega) (by omega) (by rw[hd];simp)]
    simp
   ·rw[if_neg c,hd]
    by_cases c3 : s<m
    ·rw[List.eq_nil_of_length_eq_zero (l:=B1) (by omega)];simp
    ·rw[List.eq_nil_of_length_eq_zero (l:=A2) (by omega)];simp
  clear hd1
  obtain⟨d2,hd2⟩ : ∃ d2,d2=(if a<s∧s<mid then symF lt f d1 a s mid else d1):=⟨_,rfl⟩
  rw[← hd2]
  have t2:d2.toList=P++(A1.merge B1 le++(A2++(B2++Q))):=by
   rw[hd2]
   by_cases c : a<s∧s<mid
   ·rw[if_pos c,ih d1 P A1 B1 (A2++(B2++Q)) a s mid ha (by omega) (by omega) (by omega) (by omega) (by omega) sA1 sB1 t1]
   ·rw[if_neg c,t1]
    by_cases c3 : a<s
    ·rw[List.eq_nil_of_length_eq_zero (l:=B1) (by omega)];simp
    ·rw[List.eq_nil_of_length_eq_zero (l:=A1) (by omega)];simp
  clear hd2
  have hml:(A1.merge B1 le).length=A1.length+B1.length:=List.length_merge le A1 B1
  by_cases c : mid<e∧e<b
  ·rw[if_pos c,ih d2 (P++A1.merge B1 le) A2 B2 Q mid e b (by rw[List.length_append];omega) (by rw[List.length_append];omega) (by rw[List.length_append];omega) (by omega) (by omega) (by omega) sA2 sB2 (by rw[t2];simp)]
   simp
  ·rw[if_neg c,t2]
   by_cases c3 : mid<e
   ·rw[List.eq_nil_of_length_eq_zero (l:=B2) (by omega)];simp
   ·rw[List.eq_nil_of_length_eq_zero (l:=A2) (by omega)];simp
end
end Go.Proofs.YtjfpbchdcbhfgaaGreat.B
