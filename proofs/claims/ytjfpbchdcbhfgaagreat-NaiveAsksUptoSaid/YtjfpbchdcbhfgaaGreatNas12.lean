/- Part 12 of the proof: Lscal3 Sscal1 Sscal2n Sevalg Sscal3 Saggspec. -/
import Derived.Lib.ConvBytes
import Derived.Laws.IdiomStrings
import Derived.Test.YtjfpbchdcbhfgaaGreatNas11
set_option linter.unusedVariables false
set_option linter.unusedSimpArgs false
namespace Go.Proofs.YtjfpbchdcbhfgaaGreat
namespace B
open Go Go.RowKit
set_option maxRecDepth 1000000
def zu4 (s:ByteArray) (j:Nat) : UInt8:=s.data.toList.getD j 0
structure RowT (w:World) (s:ByteArray) (f b:Int) (k:Nat) (wr:World) : Prop where
 ext : Ext w wr
 cell : ∀ j,j<s.size→wr.cell? ⟨w.heap.size,j,none⟩=some (.int .u8 ((if j<k then zs3 f b (zu4 s j) else zu4 s j).toNat:Nat))
 fr : ∀ j,j<s.size→wr.frozen? ⟨w.heap.size,j,none⟩=false
theorem z2cp (w:World) (e:TypeId) (s:ByteArray) : Ext w (Lib.bytesWorld w e s):=by
 have h:Ext w ((w.drew.alloc (.cells (Lib.bytesCells w e s) e))):=((Ext.refl w).drew).alloc _;have hs:=Lib.bytesWorld_size w e s;refine⟨rfl,rfl,rfl,by omega,fun k hk=>Lib.bytesWorld_at_old w e s k hk⟩
theorem z297 (w:World) (e:TypeId) (s:ByteArray) (f b:Int) : RowT w s f b 0 (Lib.bytesWorld w e s) where
 ext:=z2cp w e s
 cell j hj:=by
  rw[Lib.bytesWorld_cell w e s j hj,if_neg (by omega)];rfl
 fr j hj:=by
  unfold World.frozen?;simp only[Lib.bytesWorld_at_new];have : s.size≤(Lib.bytesCells w e s).size:=by
   unfold Lib.bytesCells;rw[Array.size_append,Array.size_map];exact y40 _ _
  simp only[Bool.and_eq_false_iff,decide_eq_false_iff_not];omega
theorem RowT.step {w wr:World} {s:ByteArray} {f b:Int} {k:Nat} (h:RowT w s f b k wr) (hk:k<s.size) (v:Value) (hv:v=.int .u8 ((zs3 f b (zu4 s k)).toNat:Nat)) : RowT w s f b (k+1) (wr.setCell ⟨w.heap.size,k,none⟩ v) where
 ext:=h.ext.setCell (y7 _) _
 cell j hj:=by
  by_cases e : j=k
  ·subst e;rw[World.cell?_setCell_same _ _ _ (h.cell j hj),if_pos (by omega),hv]
  ·rw[World.cell?_setCell_other _ _ _ _ (by simp only[ne_eq,Addr.mk.injEq,not_and];omega),h.cell j hj];by_cases hjk : j<k
   ·rw[if_pos hjk,if_pos (by omega)]
   ·rw[if_neg hjk,if_neg (by omega)]
 fr j hj:=by rw[World.frozen?_setCell];exact h.fr j hj
theorem RowT.stay {w wr:World} {s:ByteArray} {f b:Int} {k:Nat} (h:RowT w s f b k wr) (hv:zs3 f b (zu4 s k)=zu4 s k) : RowT w s f b (k+1) wr where
 ext:=h.ext
 cell j hj:=by
  rw[h.cell j hj];by_cases e : j=k
  ·subst e;rw[if_neg (by omega),if_pos (by omega),hv]
  ·by_cases hjk : j<k
   ·rw[if_pos hjk,if_pos (by omega)]
   ·rw[if_neg hjk,if_neg (by omega)]
 fr:=h.fr
theorem z24v (s:ByteArray) (f b:Int) (w:World) (hs:s.size≤2000000) : Calls Tryz.prog 212 #[.string s,.int .u8 f,.int .i64 b] w fun e w'=>e=.returned (.string (zlw s f b))∧Ext w w':=by
 have h9:Tryz.prog.underlying 9=some .string:=by kernel_rfl
 have hB:Tryz.prog.underlying 201=some (.slice 5):=by kernel_rfl
 have h5:Tryz.prog.underlying 5=some (.int .u8):=by kernel_rfl
 have hconv:=Lib.run_convert_string_bytes (P:=Tryz.prog) w 9 201 5 s h9 hB h5;have hst:=Lib.hid (z297 w 5 s f b);generalize Lib.bytesWorld w 5 s=w1 at hconv hst;generalize grownCap w s.size 0 5=cp at hconv
 go_enter Tryz.func212,Tryz.ntmps212
 go_wp2_with fail
 go_loopw [14] (fun i wr=>∃ k : Nat,k≤s.size∧i=.int .i64 k∧RowT w s f b k wr) (fun i _=>s.size - (intOf i).toNat)
 case atStart=>exact⟨0,by omega,rfl,hst.out⟩
 case round =>
  obtain⟨k,hk,rfl,hr⟩:=hrel;by_cases hlt : k<s.size
  ·have e1:=hr.cell k hlt;have e2:=hr.fr k hlt;rw[if_neg (y4d _)] at e1;have HR:=Lib.hid hr;clear hr;generalize hc : zu4 s k=c at e1
   go_wp2_with fail
   ·refine⟨⟨k+1,by omega,by simp,HR.out.step hlt _ ?_⟩,by simp [intOf];omega⟩;rename_i h1 h2;unfold zs3;rw[hc,if_pos ⟨h1,by rw[IntKind.wrap_u8];exact h2⟩,IntKind.wrap_u8];have e:IntKind.i64.wrap ((c.toNat:Int)+b)=wrap64 ((c.toNat:Int)+b):=by rw[IntKind.wrap_i64];unfold wrap64;rfl
    rw[e];generalize wrap64 ((c.toNat:Int)+b)=y;congr 1;have h3:(UInt8.ofNat (y % 256).toNat).toNat=(y % 256).toNat % 256:=UInt8.toNat_ofNat';rw[h3];omega
   ·refine⟨⟨k+1,by omega,by simp,HR.out.stay ?_⟩,by simp [intOf];omega⟩;unfold zs3;rw[hc,if_neg];rintro ⟨_,h⟩;rw[IntKind.wrap_u8] at h;omega
   ·refine⟨⟨k+1,by omega,by simp,HR.out.stay ?_⟩,by simp [intOf];omega⟩;unfold zs3;rw[hc,if_neg];rintro ⟨h,_⟩;omega
  ·have hke:k=s.size:=by omega
   subst hke
   have hback:=run_convert_bytes_back (P:=Tryz.prog) wr 201 9 5 ⟨w.heap.size,0,none⟩ cp (s.toList.map (zs3 f b)) hB h5 h9 (fun j hj=>by
    rw[yu,z57] at hj;have:=hr.cell j hj;rw[if_pos hj] at this;have ea:(⟨w.heap.size,0,none⟩ : Addr).add j=⟨w.heap.size,j,none⟩:=by unfold Addr.add;split<;>simp_all
    rw[ea,this,y3l];congr 4;unfold zu4;rw[yd,y9 (by rw[y1m];exact hj),y43]
    simp only[ByteArray.toList_eq])
   rw[yu,z57] at hback;have hx:=hr.ext;clear hr
   go_wp2_with fail
   go_ret;exact⟨rfl,hx⟩
theorem z1h2 : FnOK 212 zlx:=by
 intro args ob rs os h hob;unfold zlx at h;split at h
 ·rename_i x0 x1 x2;simp only[y6,y8,yl] at h;obtain⟨s,e0,f,e1,b,e2,rfl,rfl,rfl⟩:=h;obtain rfl:=z4j e0;obtain rfl:=z1a e1;obtain rfl:=z1a e2;refine⟨?_,zh Tryz.func212 (by kernel_rfl) (by kernel_rfl)⟩;have hr:=hob _ (yh.2 rfl);intro w St vs hbd hvs hld
  match vs,hvs with
  | [v0,v1,v2],⟨h0,h1,h2,_⟩ =>
   obtain⟨rfl,hs⟩:=ztq h0;obtain⟨rfl,-⟩:=ztr h1;obtain⟨rfl,-⟩:=ztr h2;refine (z24v s f b w hr).mono ?_;rintro e w' ⟨rfl,hx⟩;let gg : G:={ β:=fun _=>0,lb:=fun _=>False,ω:=fun _ _=>none,tk:=fun _=>(none,0) };exact⟨_,rfl,hx,gg,fun _ h=>h,fun b o x _ h=>by simp [gg] at h,fun b o x h=>by simp [gg] at h,⟨rfl,oneC_str.2 (by rw[z12c];exact hs)⟩,fun k o h=>by simp at h⟩
 ·simp at h
end B
namespace B
open Go Go.RowKit
set_option maxRecDepth 100000
noncomputable section
attribute [local irreducible] awp ctxK zx z1d retQ z1o awf ctxF z1l
def z18d (s:ByteArray) : Option (RF Un):=fnF_ z1c5 z239 Tryz.f163 0 [.d] [.d (.v (cs s))]
theorem z20q (s:ByteArray) : z18d s=some (zx6 ({ kind:=(3:Int),n:=(0:Int),s:=s })):=by kernel_rfl
def z99 (s:ByteArray) : Val :=
 ({ kind:=(3:Int),n:=(0:Int),s:=s })
theorem z20r (s:ByteArray) : z18d s=some (zx6 (z99 s)):=by rw[z20q];unfold z99;simp only[z7];repeat (first | rfl | split)
def zy3 : FnC Un:=fnF1 dStr fun s=>([],zx6 (z99 s))
theorem z18e : FnOK 163 zy3:=fnK1 z4j (M:=z1c5) rfl trivial trivial trivial trivial trivial Tryz.func163 fun s=>GiF.r fun _ _=>z20r s
def z1u4 (v:Val) (kind:Int) : Option (RF Un):=fnF_ z1c5 z239 Tryz.f200 0 [.d] [.d (.agg (enc Ty.val v)),.box [.v (.s (.int .i64 kind))]]
theorem z2cq (v:Val) (kind:Int) : z1u4 v kind=some (z8y (v.kind != kind)):=by kernel_rfl
def zly (v:Val) (kind:Int) : Bool:=v.kind != kind
theorem z24x (v:Val) (kind:Int) (_hv:WS .val v) (_hk:WI kind) (_h:True) : z1u4 v kind=some (z8y (zly v kind)):=by
 rw[z2cq];rfl
def z1h3 : List (List (DC Un))→Option (FV Un):=fun dl=>match dl with
 | [b0]=>(bI .i64 b0).bind fun kind=>some (zt (fun v=>True) (fun v=>zly v kind))
 | _=>none
theorem z298 : ClOK 200 z1h3:=by
 refine⟨zh Tryz.func200 (by kernel_rfl) (by kernel_rfl),fun dl φ args ob rs hF hφ hob=>?_⟩;unfold z1h3 at hF;split at hF
 ·simp only[y6,y8] at hF;obtain⟨kind,g0,hE⟩:=hF;subst hE;obtain rfl:=z2jz g0;unfold zt at hφ;split at hφ
  ·simp only[y6,y8,yl] at hφ;obtain⟨v,e0,rfl,rfl⟩:=hφ;simp only[yt,y1l,y16,y10];rw[zo e0];exact Contract.data (z2d (M:=z1c5) rfl (z4m (l1:=[]) (l2:=[]) (l3:=[]) (l4:=[]) (l5:=[]) trivial trivial trivial trivial trivial) Tryz.func200 (by kernel_rfl) z239 0 [.d] (fun hwf=>(z24x v kind (z40 hwf (a:=.d (.agg (enc Ty.val v))) (ye (i:=0) rfl)) (z40 hwf (a:=.box [.v (.s (.int .i64 kind))]) (ye (i:=1) rfl)) (hob _ (ye (i:=0) rfl)))))
  ·simp at hφ
 ·simp at hF
def zzp : Mc Un:=mcF_ [(199,zy1)] [] [(200,z1h3)] [] []
def zvw (l:List Val) (kind:Int) : Option (RF Un):=fnF_ zzp z239 Tryz.f157 0 [.d] [.d (.v (.dat (U:=Un) Ty.val l)),.d (.v (.s (.int .i64 kind)))]
theorem z1m7 (l:List Val) (kind:Int) : zvw l kind=obO ((zt (fun v=>True) fun v=>zly v kind)=zt (z15 (zt (fun v=>True) fun v=>zly v kind)) (z1m (zt (fun v=>True) fun v=>zly v kind))) (obO (zb7 (z15 (zt (fun v=>True) fun v=>zly v kind)) l) (some (z8y (!zjx l (z15 (zt (fun v=>True) fun v=>zly v kind)) (z1m (zt (fun v=>True) fun v=>zly v kind)))))):=by kernel_rfl
def z4r (l:List Val) (kind:Int) : Bool:=l.all fun v=>v.kind == kind
theorem z1bd (l:List Val) (kind:Int) (_hl:WL .val l) (_hk:WI kind) : zvw l kind=some (z8y (z4r l kind)):=by
 rw[z1m7];simp only[zj8,zj7];rw[z6 trivial,z6 (show zb7 _ l from fun _ _=>trivial)];unfold z4r zjx zly;congr 2;clear _hl
 induction l with
 | nil=>rfl
 | cons x l ih=>rw[List.any_cons,y1h,Bool.not_or,ih];simp [bne]
def zzq : FnC Un:=fnF2 (dL .val) (dI .i64) fun l kind=>([],z8y (z4r l kind))
theorem z1m8 : FnOK 157 zzq:=fnK2 zw z1a (M:=zzp) rfl ⟨z20o,trivial⟩ trivial ⟨z298,trivial⟩ trivial trivial Tryz.func157 fun l kind=>GiF.r fun w _=>z1bd l kind (wfA_ w 0) (wfA_ w 1)
def z13x : Mc Un:=mcF_ [(32,zdx)] [] [] [] []
def zzr (n:Int) (ok:Bool) : Option (RF Un):=fnF_ z13x z239 Tryz.f158 0 [.d] [.d (.v (.s (.int .i64 n))),.d (.v (cb ok))]
theorem z1qi (n:Int) (ok:Bool) : zzr n ok=cndO (!ok) (some (zx6 (zeroVal))) (some (zx6 (zd n))):=by kernel_rfl
def z46 (n:Int) (ok:Bool) : Val :=
  if (!ok)=true then
   (zeroVal)
  else
   (zd n)
theorem z1qj (n:Int) (ok:Bool) : zzr n ok=some (zx6 (z46 n ok)):=by rw[z1qi];unfold z46;simp only[z7];repeat (first | rfl | split)
def zqq : FnC Un:=fnF2 (dI .i64) dB fun n ok=>([],zx6 (z46 n ok))
theorem zzs : FnOK 158 zqq:=fnK2 z1a z1j1 (M:=z13x) rfl ⟨zez,trivial⟩ trivial trivial trivial trivial Tryz.func158 fun n ok=>GiF.r fun _ _=>z1qj n ok
def z13y : Mc Un:=mcF_ [(161,zd7),(155,ze9)] [] [] [] []
def zzt (f:Int→Int→Int) (a:Val) (b:Val) : Option (RF Un):=fnF_ z13y z239 Tryz.f165 0 [.d] [.fn (z1g f),.d (.agg (enc Ty.val a)),.d (.agg (enc Ty.val b))]
theorem z1qk (f:Int→Int→Int) (a:Val) (b:Val) : zzt f a b=some (zu1 (z5y (f (z2t a) (z2t b)))):=by kernel_rfl
def z68 (f:Int→Int→Int) (a b:Val) : Val:=z5y (f (z2t a) (z2t b))
theorem z1h4 (f:Int→Int→Int) (a b:Val) (_ha:WS .val a) (_hb:WS .val b) : zzt f a b=some (zu1 (z68 f a b)):=by
 rw[z1qk];rfl
def zqr : FnC Un:=fun args=>match args with
 | [x0,x1,x2]=>(dF x0).bind fun f=>(dS .val x1).bind fun a=>(dS .val x2).bind fun b=>some ([f=(z1g (zy f))],ztz (z68 (zy f) a b),zu0 (z68 (zy f) a b))
 | _=>none
theorem z1ql : FnOK 165 zqr:=by
 intro args ob rs os h hob;unfold zqr at h;split at h
 ·simp only[y6,y8,yl] at h;obtain⟨f,e0,a,e1,b,e2,rfl,rfl,rfl⟩:=h;obtain rfl:=znn e0;obtain rfl:=zo e1;obtain rfl:=zo e2;have hfv0:=hob _ (ye (i:=0) rfl);generalize zy f=pp0 at *;subst hfv0;exact⟨z2d (M:=z13y) rfl (z4m (l1:=[(161,zd7),(155,ze9)]) (l2:=[]) (l3:=[]) (l4:=[]) (l5:=[]) ⟨zhx,zls,trivial⟩ trivial trivial trivial trivial) Tryz.func165 (by kernel_rfl) z239 0 [.d] (fun hwf=>(z1h4 pp0 a b (z40 hwf (a:=.d (.agg (enc Ty.val a))) (ye (i:=1) rfl)) (z40 hwf (a:=.d (.agg (enc Ty.val b))) (ye (i:=2) rfl)))),zh Tryz.func165 (by kernel_rfl) (by kernel_rfl)⟩
 ·simp at h
def zgo : Mc Un:=mcF_ [(164,zbw),(161,zd7),(208,z1u2),(155,ze9)] [] [] [] []
def zn6 : Nat→NS:=nsF_ [(3,{ ts:=bl 25 1844,bs:=bl 25 20,nm:=[(.sl 5,100)] })] false
def z8c (v:Val) (l:List Val) (v0:Int) (v1:List Int) : S Un:=(st 25 25 101 0 [(2,ax 2),(4,ax 4),(5,ao 100),(8,al .val l),(9,ai (↑l.length:Int)),(10,ai v0)] [(2,bg .val v),(4,bg .val zeroVal)] [(100,some ⟨(0:Nat),Ty.int,v1,some (0:Nat),true⟩)])
def zej : S Un→Option (EX Un):=lpF_ zgo zn6 Tryz.f168 [1,1,0,1,2,2] 3
def zvx : Exit→S Un→Option (RF Un):=cxF_ zgo zn6 Tryz.f168 [1,1,0,1,2] [.d]
def zvy (v:Val) (l:List Val) : Option (RF Un):=fnF_ zgo zn6 Tryz.f168 1 [.d] [.d (.agg (enc Ty.val v)),.d (.v (.dat (U:=Un) Ty.val l))]
theorem z1m9 (v:Val) (l:List Val) : zvy v l=(zej (z8c v l (0:Int) ([]))).bind (zb zvx):=by kernel_rfl
theorem zvz (v:Val) (l:List Val) (v0:Int) (v1:List Int) : zej (z8c v l v0 v1)=cndO (decide (v0<(↑l.length:Int))) (obO (0≤v0∧v0<(↑l.length:Int)) (obO ((11:Int)≤(11:Int)∧(11:Int)≤(16:Int)) (obO ((v1.length+[z2t (cmpO (11:Int) v (l.getD v0.toNat zeroVal))].length)*(8:Nat)≤zf) (zej (z8c v l (IntKind.i64.wrap (v0+1)) (v1++[z2t (cmpO (11:Int) v (l.getD v0.toNat zeroVal))])))))) (some (.exit 0,(z8c v l v0 v1))):=lpQ_ (by kernel_rfl)
theorem z18f (v:Val) (l:List Val) (v0:Int) (v1:List Int) : zvx (.exit 0) (z8c v l v0 v1)=some (zx6 (z5y (zzo v1))):=by kernel_rfl
def z83 (v:Val) (l:List Val) : Val:=z5y (zzo (l.map fun x=>z2t (cmpO 11 v x)))
theorem zfp {α β:Type} (f:α→β) : ∀ (l:List α) (o:List β),l.foldl (fun o x=>o++[f x]) o=o++l.map f
 | [],o=>by simp
 | x::l,o=>by rw[yr,zfp f l];simp
theorem z1be (v:Val) (l:List Val) (_hv:WS .val v) (hl:WL .val l) (h:l.length≤2000000) : zvy v l=some (zx6 (z83 v l)):=by
 obtain⟨lp,_⟩:=z1p (e:=.exit 0) (L:=zej) (st:=fun (o:List Int) i=>z8c v l i o) (l:=l) (d:=zeroVal) (g:=fun o x=>o++[z2t (cmpO 11 v x)]) (fun i o=>o.length=i) hl.len
  (fun o i x hi hx hI=>by
   have hI':o.length=i:=hI;refine⟨by show (o++[_]).length=i+1;rw[ya,yg];omega,?_⟩;rw[zvz];simp only[z7,hi,decide_true,if_true,and_true,y5,hx]
   rw[z6 (by omega),z6 (by omega),z6 (by unfold zf;rw[yg];omega)])
  (fun o _=>by rw[zvz];simp [z7]) [] rfl
 rw[zfp,y10] at lp;rw[z1m9];refine (ze lp).trans ?_;rw[z18f];rfl
def zzu : FnC Un:=fnF2 (dS .val) (dL .val) fun v l=>([l.length≤2000000],zx6 (z83 v l))
theorem z1ma : FnOK 168 zzu:=fnK2 zo zw (M:=zgo) rfl ⟨zpx,zhx,z292,zls,trivial⟩ trivial trivial trivial trivial Tryz.func168 fun v l=>GiF.r fun w o=>z1be v l (wfA_ w 0) (wfA_ w 1) (obA_ o 0)
def zgp : Mc Un:=mcF_ [(161,zd7)] [] [] [] []
def zn7 : Nat→NS:=nsF_ [(1,{ ts:=bl 23 5,bs:=bl 23 4,nm:=[],gb:=[2] })] false
def z1v (b2:Val) (v0:List Val) : S Un:=(st 23 23 92 0 [(0,al .val v0),(2,ax 2)] [(2,bg .val b2)] [])
def z4g : S Un→Option (EX Un):=lpF_ zgp zn7 Tryz.f169 [1,0,2,2] 1
def zek : Exit→S Un→Option (RF Un):=cxF_ zgp zn7 Tryz.f169 [1,0,2] [.d]
def zw0 (l:List Val) : Option (RF Un):=fnF_ zgp zn7 Tryz.f169 0 [.d] [.d (.v (.dat (U:=Un) Ty.val l))]
theorem z1mb (l:List Val) : zw0 l=(z4g (z1v zeroVal l)).bind (zb zek):=by kernel_rfl
theorem zel (b2:Val) (v0:List Val) : z4g (z1v b2 v0)=cndO (decide ((↑v0.length:Int) > (1:Int))) (obO ((0:Int)≤(0:Int)∧(0:Int)<(↑v0.length:Int)) (cndO (z2t (v0.getD 0 zeroVal) == 2) (obO ((0:Int)≤(1:Int)∧(1:Int)<(↑v0.length:Int)) (some (.ret,(z1v (v0.getD 1 zeroVal) v0)))) (obO ((0:Int)≤(2:Int)∧(2:Int)≤(↑v0.length:Int)) (z4g (z1v b2 (List.drop 2 v0)))))) (some (.exit 0,(z1v b2 v0))):=lpQ_ (by kernel_rfl)
theorem z14z (b2:Val) (v0:List Val) : zek .ret (z1v b2 v0)=some (zx6 (b2)):=by kernel_rfl
theorem zpy (b2:Val) (v0:List Val) : zek (.exit 0) (z1v b2 v0)=cndO ((↑v0.length:Int) == (1:Int)) (obO ((0:Int)≤(0:Int)∧(0:Int)<(↑v0.length:Int)) (some (zx6 (v0.getD 0 zeroVal)))) (some (zx6 (zeroVal))):=by kernel_rfl
def zu5 : List Val→Val
 | []=>zeroVal
 | [x]=>x
 | c::v::r=>if z2t c=2 then v else zu5 r
def zlz (l:List Val) : Val:=zu5 l
theorem z299 : ∀ (n:Nat) (l:List Val),l.length≤n→(z4g (z1v zeroVal l)).bind (zb zek)=some (zx6 (zu5 l)):=by
 intro n
 induction n using Nat.strongRecOn with
 | ind n ih =>
  intro l hn
  match l,hn with
  | [],_ =>
   have e:z4g (z1v zeroVal [])=some (.exit 0,z1v zeroVal []):=by rw[zel];rfl
   rw[ze e,zpy];rfl
  | [x],_ =>
   have e:z4g (z1v zeroVal [x])=some (.exit 0,z1v zeroVal [x]):=by rw[zel];rfl
   rw[ze e,zpy,z7,if_pos (by simp),z6 (by simp)];rfl
  | c::v::r,hn =>
   simp only[yn] at hn;have hg0:(c::v::r).getD 0 zeroVal=c:=rfl;have hg1:(c::v::r).getD 1 zeroVal=v:=rfl;have hd:List.drop 2 (c::v::r)=r:=rfl;have hl:((c::v::r).length:Int)=(r.length:Int)+2:=by simp only[yn];omega
   by_cases h : z2t c=2
   ·have e:z4g (z1v zeroVal (c::v::r))=some (.ret,z1v v (c::v::r)):=by
     rw[zel,hg0,hg1,hl,z7,if_pos (by simp;omega),z6 (by omega),z7,if_pos (by simpa using h),z6 (by omega)]
    rw[ze e,z14z];simp only[zu5];rw[if_pos h]
   ·have e:z4g (z1v zeroVal (c::v::r))=z4g (z1v zeroVal r):=by
     rw[zel,hg0,hg1,hl,hd,z7,if_pos (by simp;omega),z6 (by omega),z7,if_neg (by simpa using h),z6 (by omega)]
    rw[e,ih r.length (by omega) r (y7 _)];simp only[zu5];rw[if_neg h]
theorem z1bf (l:List Val) (_hl:WL .val l) : zw0 l=some (zx6 (zlz l)):=by
 rw[z1mb];exact z299 _ l (y7 _)
def zzv : FnC Un:=fnF1 (dL .val) fun l=>([],zx6 (zlz l))
theorem z1mc : FnOK 169 zzv:=fnK1 zw (M:=zgp) rfl ⟨zhx,trivial⟩ trivial trivial trivial trivial Tryz.func169 fun l=>GiF.r fun w _=>z1bf l (wfA_ w 0)
def z1md (v:Val) : Option (RF Un):=fnF_ z1c5 z239 Tryz.f210 0 [.d] [.d (.agg (enc Ty.val v))]
theorem z29a (v:Val) : z1md v=some (z1e2 (v.kind != 0)):=by kernel_rfl
def zea (v:Val) : Bool :=
 (v.kind != (0:Int))
theorem z29b (v:Val) : z1md v=some (z1e2 (zea v)):=by rw[z29a];unfold zea;simp only[z7];repeat (first | rfl | split)
def zw1 : FnC Un:=fun args=>match args with
 | [x0]=>(dS .val x0).bind fun v=>some ([],zsy (zea v),zsz (zea v))
 | _=>none
theorem z29c : FnOK 210 zw1:=by
 intro args ob rs os h hob;unfold zw1 at h;split at h
 ·simp only[y6,y8,yl] at h;obtain⟨v,e0,rfl,rfl,rfl⟩:=h;obtain rfl:=zo e0;exact⟨z2d (M:=z1c5) rfl (z4m (l1:=[]) (l2:=[]) (l3:=[]) (l4:=[]) (l5:=[]) trivial trivial trivial trivial trivial) Tryz.func210 (by kernel_rfl) z239 0 [.d] (fun hwf=>(z29b v)),zh Tryz.func210 (by kernel_rfl) (by kernel_rfl)⟩
 ·simp at h
def z2k : FV Un:=zt (fun v=>True) (fun v=>zea v)
theorem z24y : FvOK 210 z2k:=by
 refine⟨zh Tryz.func210 (by kernel_rfl) (by kernel_rfl),fun args ob rs h hob=>?_⟩;unfold z2k zt at h;split at h
 ·simp only[y6,y8,yl] at h;obtain⟨v,e0,rfl,rfl⟩:=h;simp only[yt,y1l];rw[zo e0];refine Contract.data (z29c _ ([]) _ _ (?_ : zw1 _=some _) (by simp)).1;unfold zw1;simp only[zyq];rfl
 ·simp at h
def zw2 : Mc Un:=mcF_ [(209,zhy),(152,z8b),(159,z17y),(158,zqq),(211,zbg),(32,zdx),(212,zlx),(163,zy3)] [(210,z2k)] [] [] []
def zu6 (name:ByteArray) (l:List Val) : Option (RF Un):=fnF_ zw2 z239 Tryz.f170 0 [.d] [.d (.v (cs name)),.d (.v (.dat (U:=Un) Ty.val l))]
def zd8 (name:ByteArray) (l:List Val) : Option (RF Un):=obO ((0:Int)≤(0:Int)∧(0:Int)<(↑l.length:Int)) (cndO ((l.getD 0 zeroVal).kind != 3) (some (zx6 (zeroVal))) (cndO (name.toList == (ByteArray.mk #[108,101,110,103,116,104]).toList) (obO ((0:Int)≤(0:Int)∧(0:Int)<(↑l.length:Int)) (some (zx6 (zd (↑(l.getD 0 zeroVal).s.size:Int))))) (cndO (name.toList == (ByteArray.mk #[108,111,119,101,114]).toList) (obO ((0:Int)≤(0:Int)∧(0:Int)<(↑l.length:Int)) (obO ((l.getD 0 zeroVal).s.size≤(2000000:Nat)) (some (zx6 (z99 (zlw (l.getD 0 zeroVal).s (65:Int) (32:Int))))))) (cndO (name.toList == (ByteArray.mk #[117,112,112,101,114]).toList) (obO ((0:Int)≤(0:Int)∧(0:Int)<(↑l.length:Int)) (obO ((l.getD 0 zeroVal).s.size≤(2000000:Nat)) (some (zx6 (z99 (zlw (l.getD 0 zeroVal).s (97:Int) (-32:Int))))))) (some (zx6 (zeroVal)))))))
def zd9 (name:ByteArray) (l:List Val) : Option (RF Un):=cndO ((↑l.length:Int) != (1:Int)) (some (zx6 (zeroVal))) (cndO (name.toList == (ByteArray.mk #[97,98,115]).toList) (obO ((0:Int)≤(0:Int)∧(0:Int)<(↑l.length:Int)) (cndO ((l.getD 0 zeroVal).kind == 2) (obO ((0:Int)≤(0:Int)∧(0:Int)<(↑l.length:Int)) (cndO (decide ((l.getD 0 zeroVal).n<0)) (some (zx6 (z46 (zch (l.getD 0 zeroVal).n).fst (zch (l.getD 0 zeroVal).n).snd))) (some (zx6 (z46 (l.getD 0 zeroVal).n (z1q (l.getD 0 zeroVal).n)))))) (zd8 name l))) (zd8 name l))
theorem z1h5 (name:ByteArray) (l:List Val) : zu6 name l=cndO (name.toList == (ByteArray.mk #[99,111,97,108,101,115,99,101]).toList) (obO (z2k=zt (z15 z2k) (z1m z2k)) (obO (zb7 (z15 z2k) l) (cndO (decide (z3b l (z15 z2k) (z1m z2k)≥0)) (obO (0≤z3b l (z15 z2k) (z1m z2k)∧z3b l (z15 z2k) (z1m z2k)<(↑l.length:Int)) (some (zx6 (l.getD (z3b l (z15 z2k) (z1m z2k)).toNat zeroVal)))) (some (zx6 (zeroVal)))))) (cndO (name.toList == (ByteArray.mk #[110,117,108,108,105,102]).toList) (cndO ((↑l.length:Int) == (2:Int)) (obO ((0:Int)≤(0:Int)∧(0:Int)<(↑l.length:Int)) (obO ((0:Int)≤(1:Int)∧(1:Int)<(↑l.length:Int)) (cndO (!(z18 (l.getD 0 zeroVal) (l.getD 1 zeroVal)).snd) (obO ((0:Int)≤(0:Int)∧(0:Int)<(↑l.length:Int)) (some (zx6 (l.getD 0 zeroVal)))) (cndO ((z18 (l.getD 0 zeroVal) (l.getD 1 zeroVal)).fst != 0) (obO ((0:Int)≤(0:Int)∧(0:Int)<(↑l.length:Int)) (some (zx6 (l.getD 0 zeroVal)))) (some (zx6 (zeroVal))))))) (zd9 name l)) (zd9 name l)):=by kernel_rfl
def txts (l:List Val) : Prop:=l.length≤2000000∧∀ x∈l,x.s.size≤2000000
def nmB (name:ByteArray) (x:ByteArray) : Bool:=name.toList == x.toList
def z1an (name:ByteArray) (x:Val) : Val :=
 if x.kind≠3 then zeroVal
 else if nmB name ⟨#[108,101,110,103,116,104]⟩=true then zd (x.s.size:Int)
 else if nmB name ⟨#[108,111,119,101,114]⟩=true then z99 (zlw x.s 65 32)
 else if nmB name ⟨#[117,112,112,101,114]⟩=true then z99 (zlw x.s 97 (-32))
 else zeroVal
def z1ao (name:ByteArray) (l:List Val) : Val :=
 if l.length≠1 then zeroVal
 else if nmB name ⟨#[97,98,115]⟩=true∧(l.getD 0 zeroVal).kind=2 then (if (l.getD 0 zeroVal).n<0 then z46 (zch (l.getD 0 zeroVal).n).1 (zch (l.getD 0 zeroVal).n).2 else z46 (l.getD 0 zeroVal).n (z1q (l.getD 0 zeroVal).n))
 else z1an name (l.getD 0 zeroVal)
def z20v (l:List Val) : Val:=if 0≤z3b l (fun _=>True) zea then l.getD (z3b l (fun _=>True) zea).toNat zeroVal else zeroVal
def z8i (name:ByteArray) (l:List Val) : Val :=
 if nmB name ⟨#[99,111,97,108,101,115,99,101]⟩=true then z20v l
 else if nmB name ⟨#[110,117,108,108,105,102]⟩=true∧l.length=2 then (if (z18 (l.getD 0 zeroVal) (l.getD 1 zeroVal)).2=true∧(z18 (l.getD 0 zeroVal) (l.getD 1 zeroVal)).1=0 then zeroVal else l.getD 0 zeroVal)
 else z1ao name l
theorem z20w (s:List Val) (o:Val→Prop) (f:Val→Bool) : z3b s o f<(s.length:Int)∨z3b s o f=-1:=by
 unfold z3b;cases h : s.findIdx? f with
 | none=>exact .inr rfl
 | some i =>
  obtain⟨h1,_,_⟩:=y2k.1 h;exact .inl (by show (i:Int)<_;omega)
theorem z1mf {β:Type} (x y:Option β) : cndO false x y=y:=rfl
theorem z1mg {β:Type} (x y:Option β) : cndO true x y=x:=rfl
theorem z2cr (name:ByteArray) (l:List Val) (hl:l.length=1) (h:txts l) : zd8 name l=some (zx6 (z1an name (l.getD 0 zeroVal))):=by
 have hm:(l.getD 0 zeroVal).s.size≤2000000:=h.2 _ (by rw[yd,y9 (by omega)];exact y21 _);unfold zd8 z1an nmB;generalize l.getD 0 zeroVal=x at hm;have p0:∀ y : Option (RF Un),obO ((0:Int)≤(0:Int)∧(0:Int)<(l.length:Int)) y=y:=fun y=>z6 (by omega);have p1:∀ y : Option (RF Un),obO (x.s.size≤2000000) y=y:=fun y=>z6 hm;simp only[p0,p1];generalize (name.toList == (ByteArray.mk #[108,101,110,103,116,104]).toList)=q1;generalize (name.toList == (ByteArray.mk #[108,111,119,101,114]).toList)=q2;generalize (name.toList == (ByteArray.mk #[117,112,112,101,114]).toList)=q3;by_cases h3 : x.kind=3
 ·have e3:(x.kind != 3)=false:=by simp [h3]
  rw[e3,z1mf,if_neg (fun e=>e h3)];cases q1<;>cases q2<;>cases q3<;>rfl
 ·have e3:(x.kind != 3)=true:=by simp [h3]
  rw[e3,z1mg,if_pos h3]
theorem z2cs (name:ByteArray) (l:List Val) (h:txts l) : zd9 name l=some (zx6 (z1ao name l)):=by
 unfold zd9 z1ao;by_cases hl : l.length=1
 ·have e0:((l.length:Int) != 1)=false:=by rw[hl];rfl
  rw[e0,z1mf,if_neg (fun e=>e hl),z2cr name l hl h];have hb:(name.toList == (ByteArray.mk #[97,98,115]).toList)=nmB name ⟨#[97,98,115]⟩:=rfl;rw[hb];cases nmB name ⟨#[97,98,115]⟩
  ·rw[z1mf,if_neg (fun e=>by simp at e)]
  ·rw[z1mg,z6 (by omega)];by_cases hk : (l.getD 0 zeroVal).kind=2
   ·have ek:((l.getD 0 zeroVal).kind == 2)=true:=by rw[hk];rfl
    rw[ek,z1mg,z6 (by omega),if_pos ⟨rfl,hk⟩,z7];by_cases hn : (l.getD 0 zeroVal).n<0
    ·rw[if_pos (decide_eq_true hn),if_pos hn]
    ·rw[if_neg (fun e=>hn (of_decide_eq_true e)),if_neg hn]
   ·have ek:((l.getD 0 zeroVal).kind == 2)=false:=by rw[beq_eq_false_iff_ne];exact hk
    rw[ek,z1mf,if_neg (fun e=>hk e.2)]
 ·have e0:((l.length:Int) != 1)=true:=by simp;omega
  rw[e0,z1mg,if_pos hl]
theorem z18g (name:ByteArray) (l:List Val) (_hn:WStr name) (_hl:WL .val l) (h:txts l) : zu6 name l=some (zx6 (z8i name l)):=by
 have o1:z15 z2k=fun _=>True:=by unfold z2k;exact zj8 _ _
 have o2:z1m z2k=zea:=by unfold z2k;exact zj7 _ _
 have o3:z2k=zt (z15 z2k) (z1m z2k):=by rw[o1,o2];rfl
 rw[z1h5,z6 o3,o1,o2,z6 (show zb7 _ l from fun _ _=>trivial),z2cs name l h];unfold z8i z20v;have hb:(name.toList == (ByteArray.mk #[99,111,97,108,101,115,99,101]).toList)=nmB name ⟨#[99,111,97,108,101,115,99,101]⟩:=rfl;have hb2:(name.toList == (ByteArray.mk #[110,117,108,108,105,102]).toList)=nmB name ⟨#[110,117,108,108,105,102]⟩:=rfl;rw[hb,hb2];generalize nmB name ⟨#[99,111,97,108,101,115,99,101]⟩=q1;generalize nmB name ⟨#[110,117,108,108,105,102]⟩=q2;cases q1
 ·rw[z7,if_neg (by decide),if_neg (by decide)];cases q2
  ·rw[z7,if_neg (by decide),if_neg (fun e=>by simp at e)]
  ·rw[z7,if_pos rfl,z7];by_cases h2 : l.length=2
   ·rw[if_pos (by simp;omega),if_pos ⟨rfl,h2⟩,z6 (by omega),z6 (by omega),z6 (by omega)];cases (z18 (l.getD 0 zeroVal) (l.getD 1 zeroVal)).2
    ·rw[if_neg (fun e=>by simp at e)];rfl
    ·simp only[z7,y46,bne_iff_ne,ne_eq];by_cases h5 : (z18 (l.getD 0 zeroVal) (l.getD 1 zeroVal)).1=0
     ·rw[if_neg (by decide),if_neg (fun e=>e h5),if_pos ⟨trivial,h5⟩]
     ·rw[if_neg (by decide),if_pos h5,if_neg (fun e=>h5 e.2)]
   ·rw[if_neg (by simp;omega),if_neg (fun e=>h2 e.2)]
 ·rw[z7,if_pos rfl,if_pos rfl,z7];have hlt:=z20w l (fun _=>True) zea;by_cases h3 : 0≤z3b l (fun _=>True) zea
  ·rw[if_pos (decide_eq_true h3),if_pos h3,z6 (by omega)]
  ·rw[if_neg (fun e=>h3 (of_decide_eq_true e)),if_neg h3]
def zw3 : FnC Un:=fnF2 dStr (dL .val) fun name l=>([txts l],zx6 (z8i name l))
theorem z1h6 : FnOK 170 zw3:=fnK2 z4j zw (M:=zw2) rfl ⟨z189,zjg,z1ls,zzs,zay,zez,z1h2,z18e,trivial⟩ ⟨z24y,trivial⟩ trivial trivial trivial Tryz.func170 fun name l=>GiF.r fun w o=>z18g name l (wfA_ w 0) (wfA_ w 1) (obA_ o 0)
end
end B
namespace B
open Go Go.RowKit
set_option maxRecDepth 100000
noncomputable section
attribute [local irreducible] awp ctxK zx z1d retQ z1o awf ctxF z1l
def z18h (op:Int) (name:ByteArray) (l:List Val) : Val :=
 if op=3 then (if z4r l 2=true then z46 (zch (l.getD 0 zeroVal).n).1 (zch (l.getD 0 zeroVal).n).2 else zeroVal)
 else if op=4 then z5y (zzn (z2t (l.getD 0 zeroVal)))
 else if op=19 then z1i ((l.getD 0 zeroVal).kind == 0)
 else if op=5∨op=6∨op=7∨op=8∨op=9 then (if z4r l 2=true then z46 (twoN op (l.getD 0 zeroVal).n (l.getD 1 zeroVal).n).1 (twoN op (l.getD 0 zeroVal).n (l.getD 1 zeroVal).n).2 else zeroVal)
 else if op=10 then (if z4r l 3=true then (if (l.getD 0 zeroVal).s.size+(l.getD 1 zeroVal).s.size≤100 then z99 ((l.getD 0 zeroVal).s++(l.getD 1 zeroVal).s) else zeroVal) else zeroVal)
 else if op=11∨op=12∨op=13∨op=14∨op=15∨op=16 then cmpO op (l.getD 0 zeroVal) (l.getD 1 zeroVal)
 else if op=17 then z68 zjw (l.getD 0 zeroVal) (l.getD 1 zeroVal)
 else if op=18 then z68 z6n (l.getD 0 zeroVal) (l.getD 1 zeroVal)
 else if op=20 then (if z4r l 3=true then z1i (zlu (l.getD 0 zeroVal).s (l.getD 1 zeroVal).s) else zeroVal)
 else if op=21 then z83 (l.getD 0 zeroVal) (l.drop 1)
 else if op=22 then z68 zjw (cmpO 16 (l.getD 0 zeroVal) (l.getD 1 zeroVal)) (cmpO 14 (l.getD 0 zeroVal) (l.getD 2 zeroVal))
 else if op=23 then zlz l
 else if op=24 then z8i name l
 else zeroVal
def cntN (op:Int) : Int×Bool:=if op=3∨op=4∨op=19 then (1,false) else if op=22 then (3,false) else if op=21∨op=23 then (2,true) else if op=24 then (0,true) else (2,false)
def zw4 (op:Int) : Option (RF Un):=fnF_ z1c5 z23e Tryz.f156 0 [.d,.d] [.d (.v (.s (.int .i64 op)))]
theorem z1mh (op:Int) : zw4 op=cndO (op == 3) (some (zl2 ((1:Int),false))) (cndO (op == 4) (some (zl2 ((1:Int),false))) (cndO (op == 19) (some (zl2 ((1:Int),false))) (cndO (op == 22) (some (zl2 ((3:Int),false))) (cndO (op == 21) (some (zl2 ((2:Int),true))) (cndO (op == 23) (some (zl2 ((2:Int),true))) (cndO (op == 24) (some (zl2 ((0:Int),true))) (some (zl2 ((2:Int),false))))))))):=by kernel_rfl
def za2 (op:Int) : Int×Bool:=cntN op
theorem z1bg (op:Int) (_h:WI op) : zw4 op=some (zl2 (za2 op)):=by
 rw[z1mh];unfold za2 cntN;simp only[z7,y1g,beq_iff_eq];grind
def zzx : FnC Un:=fnF1 (dI .i64) fun op=>([],zl2 (za2 op))
theorem z1mi : FnOK 156 zzx:=fnK1 z1a (M:=z1c5) rfl trivial trivial trivial trivial trivial Tryz.func156 fun op=>GiF.r fun w _=>z1bg op (wfA_ w 0)
def zzy : Mc Un:=mcF_ [(156,zzx),(157,zzq),(159,z17y),(158,zqq),(161,zd7),(160,z1tv),(155,ze9),(39,z82),(162,zu2),(163,zy3),(164,zbw),(165,zqr),(167,z187),(168,zzu),(169,zzv),(170,zw3)] [(166,z6y),(153,zd6)] [] [] []
def zw5 (op:Int) (l:List Val):=z46 (twoN op (l.getD 0 zeroVal).n (l.getD 1 zeroVal).n).fst (twoN op (l.getD 0 zeroVal).n (l.getD 1 zeroVal).n).snd
def zw6 (l:List Val):=z68 (zy z6y) (l.getD 0 zeroVal) (l.getD 1 zeroVal)
def zw7 (l:List Val):=z68 (zy zd6) (l.getD 0 zeroVal) (l.getD 1 zeroVal)
def zw8 (l:List Val):=z68 (zy z6y) (cmpO (16:Int) (l.getD 0 zeroVal) (l.getD 1 zeroVal)) (cmpO (14:Int) (l.getD 0 zeroVal) (l.getD 2 zeroVal))
def zw9 (op:Int) (name:ByteArray) (l:List Val) : Option (RF Un):=fnF_ zzy z23e Tryz.f120 0 [.d] [.d (.v (.s (.int .i64 op))),.d (.v (cs name)),.d (.v (.dat (U:=Un) Ty.val l))]
def z8d (op:Int) (l:List Val) : Option (RF Un):=cndO (z4r l (2:Int)) (obO (5≤op∧op≤9) (obO ((0:Int)≤(0:Int)∧(0:Int)<(↑l.length:Int)) (obO ((0:Int)≤(1:Int)∧(1:Int)<(↑l.length:Int)) (some (zx6 (zw5 op l)))))) (some (zx6 (zeroVal)))
def z6o (op:Int) (l:List Val) : Option (RF Un):=obO ((0:Int)≤(0:Int)∧(0:Int)<(↑l.length:Int)) (obO ((0:Int)≤(1:Int)∧(1:Int)<(↑l.length:Int)) (obO (11≤op∧op≤16) (some (zx6 (cmpO op (l.getD 0 zeroVal) (l.getD 1 zeroVal))))))
def zem (op:Int) (name:ByteArray) (l:List Val) : Option (RF Un):=cndO (op == 3) (cndO (z4r l (2:Int)) (obO ((0:Int)≤(0:Int)∧(0:Int)<(↑l.length:Int)) (some (zx6 (z46 (zch (l.getD 0 zeroVal).n).fst (zch (l.getD 0 zeroVal).n).snd)))) (some (zx6 (zeroVal)))) (cndO (op == 4) (obO ((0:Int)≤(0:Int)∧(0:Int)<(↑l.length:Int)) (some (zx6 (z5y (zzn (z2t (l.getD 0 zeroVal))))))) (cndO (op == 19) (obO ((0:Int)≤(0:Int)∧(0:Int)<(↑l.length:Int)) (some (zx6 (z1i ((l.getD 0 zeroVal).kind == 0))))) (cndO (op == 5) (z8d op l) (cndO (op == 6) (z8d op l) (cndO (op == 7) (z8d op l) (cndO (op == 8) (z8d op l) (cndO (op == 9) (z8d op l) (cndO (op == 10) (cndO (z4r l (3:Int)) (obO ((0:Int)≤(0:Int)∧(0:Int)<(↑l.length:Int)) (obO ((0:Int)≤(1:Int)∧(1:Int)<(↑l.length:Int)) (cndO (decide (IntKind.i64.wrap ((↑(l.getD 0 zeroVal).s.size:Int)+(↑(l.getD 1 zeroVal).s.size:Int))≤100)) (obO ((0:Int)≤(0:Int)∧(0:Int)<(↑l.length:Int)) (obO ((0:Int)≤(1:Int)∧(1:Int)<(↑l.length:Int)) (obO ((l.getD 0 zeroVal).s.size+(l.getD 1 zeroVal).s.size≤(9223372036854775807:Nat)) (some (zx6 (z99 ((l.getD 0 zeroVal).s++(l.getD 1 zeroVal).s))))))) (some (zx6 (zeroVal)))))) (some (zx6 (zeroVal)))) (cndO (op == 11) (z6o op l) (cndO (op == 12) (z6o op l) (cndO (op == 13) (z6o op l) (cndO (op == 14) (z6o op l) (cndO (op == 15) (z6o op l) (cndO (op == 16) (z6o op l) (cndO (op == 17) (obO ((0:Int)≤(0:Int)∧(0:Int)<(↑l.length:Int)) (obO ((0:Int)≤(1:Int)∧(1:Int)<(↑l.length:Int)) (obO (z6y=z1g (zy z6y)) (some (zx6 (zw6 l)))))) (cndO (op == 18) (obO ((0:Int)≤(0:Int)∧(0:Int)<(↑l.length:Int)) (obO ((0:Int)≤(1:Int)∧(1:Int)<(↑l.length:Int)) (obO (zd6=z1g (zy zd6)) (some (zx6 (zw7 l)))))) (cndO (op == 20) (cndO (z4r l (3:Int)) (obO ((0:Int)≤(0:Int)∧(0:Int)<(↑l.length:Int)) (obO ((0:Int)≤(1:Int)∧(1:Int)<(↑l.length:Int)) (obO ((l.getD 0 zeroVal).s.size≤(2000000:Nat)) (obO ((l.getD 1 zeroVal).s.size≤(2000000:Nat)) (some (zx6 (z1i (zlu (l.getD 0 zeroVal).s (l.getD 1 zeroVal).s)))))))) (some (zx6 (zeroVal)))) (cndO (op == 21) (obO ((0:Int)≤(0:Int)∧(0:Int)<(↑l.length:Int)) (obO ((0:Int)≤(1:Int)∧(1:Int)≤(↑l.length:Int)) (obO ((List.drop 1 l).length≤(2000000:Nat)) (some (zx6 (z83 (l.getD 0 zeroVal) (List.drop 1 l))))))) (cndO (op == 22) (obO ((0:Int)≤(0:Int)∧(0:Int)<(↑l.length:Int)) (obO ((0:Int)≤(1:Int)∧(1:Int)<(↑l.length:Int)) (obO ((11:Int)≤(16:Int)∧(16:Int)≤(16:Int)) (obO ((0:Int)≤(0:Int)∧(0:Int)<(↑l.length:Int)) (obO ((0:Int)≤(2:Int)∧(2:Int)<(↑l.length:Int)) (obO ((11:Int)≤(14:Int)∧(14:Int)≤(16:Int)) (obO (z6y=z1g (zy z6y)) (some (zx6 (zw8 l)))))))))) (cndO (op == 23) (some (zx6 (zlz l))) (cndO (op == 24) (obO (txts l) (some (zx6 (z8i name l)))) (some (zx6 (zeroVal))))))))))))))))))))))))
theorem z1mj (op:Int) (name:ByteArray) (l:List Val) : zw9 op name l=cndO (decide ((↑l.length:Int)<(za2 op).fst)) (some (zx6 (zeroVal))) (cndO (!(za2 op).snd) (cndO (decide ((↑l.length:Int) > (za2 op).fst)) (some (zx6 (zeroVal))) (zem op name l)) (zem op name l)):=by kernel_rfl
def z1j (op:Int) (name:ByteArray) (l:List Val) : Val:=if (l.length:Int)<(cntN op).1∨((cntN op).2=false∧(l.length:Int) > (cntN op).1) then zeroVal else z18h op name l
theorem z18i (op:Int) (name:ByteArray) (l:List Val) (h:txts l) (hn:¬ ((l.length:Int)<(cntN op).1∨((cntN op).2=false∧(l.length:Int) > (cntN op).1))) : zem op name l=some (zx6 (z18h op name l)):=by
 have hlen:=h.1;have ht:∀ i,i<l.length→(l.getD i zeroVal).s.size≤2000000:=fun i hi=>h.2 _ (by grind);have hvA:z6y=z1g (zy z6y):=by rfl
 have hfA:zy z6y=zjw:=by rfl
 have hvO:zd6=z1g (zy zd6):=by rfl
 have hfO:zy zd6=z6n:=by rfl
 unfold zem z18h;simp only[zyw];simp only[z7,y1g,beq_iff_eq];by_cases h3 : op=3
 ·have hc:l.length=1:=by have : cntN 3=(1,false):=rfl;grind
  grind [z6]
 rw[if_neg h3,if_neg h3];by_cases h4 : op=4
 ·have hc:l.length=1:=by have : cntN 4=(1,false):=rfl;grind
  simp_all [if_pos,z6]
 rw[if_neg h4,if_neg h4];by_cases h19 : op=19
 ·have hc:l.length=1:=by have : cntN 19=(1,false):=rfl;grind
  simp_all [if_pos,z6]
 by_cases h5 : op=5∨op=6∨op=7∨op=8∨op=9
 ·have hc:l.length=2:=by
   have : cntN op=(2,false):=by unfold cntN;grind
   grind
  grind [z8d,zw5,z7,z6]
 rw[if_neg (by omega),if_neg h5];by_cases h10 : op=10
 ·have hc:l.length=2:=by have : cntN 10=(2,false):=rfl;grind
  have a0:=ht 0 (by omega);have a1:=ht 1 (by omega);rw[if_pos h10,if_pos h10];split
  ·rw[z6 (by omega),z6 (by omega),z1s (by omega)];by_cases hs : (l.getD 0 zeroVal).s.size+(l.getD 1 zeroVal).s.size≤100
   ·rw[if_pos (by grind),if_pos hs,z6 (by omega),z6 (by omega),z6 (by omega)]
   grind
  rfl
 by_cases h11 : op=11∨op=12∨op=13∨op=14∨op=15∨op=16
 ·have hc:l.length=2:=by
   have : cntN op=(2,false):=by unfold cntN;grind
   grind
  grind [z6o,z6]
 by_cases h17 : op=17
 ·have hc:l.length=2:=by have : cntN 17=(2,false):=rfl;grind
  simp_all [if_pos,z6,zw6]
 by_cases h18 : op=18
 ·have hc:l.length=2:=by have : cntN 18=(2,false):=rfl;grind
  simp_all [if_pos,z6,zw7]
 by_cases h20 : op=20
 ·have hc:l.length=2:=by have : cntN 20=(2,false):=rfl;grind
  grind [z6]
 by_cases h21 : op=21
 ·have hc:2≤l.length:=by have : cntN 21=(2,true):=rfl;grind
  grind [z6,List.length_drop]
 by_cases h22 : op=22
 ·have hc:l.length=3:=by have : cntN 22=(3,false):=rfl;grind
  simp_all [if_pos,z6,trans,zw8]
 by_cases h23 : op=23
 ·grind
 by_cases h24 : op=24
 all_goals simp_all [if_pos,z6,if_neg]
theorem z1bh (op:Int) (name:ByteArray) (l:List Val) (_ho:WI op) (_hn:WStr name) (_hl:WL .val l) (h:txts l) : zw9 op name l=some (zx6 (z1j op name l)):=by
 rw[z1mj];unfold z1j za2;by_cases h1 : (l.length:Int)<(cntN op).1
 ·simp_all [z7,if_pos,decide_eq_true]
 by_cases h2 : (cntN op).2=false∧(l.length:Int) > (cntN op).1
 ·simp_all [if_pos,z7,decide_eq_true]
 ·rw[if_neg (fun e=>e.elim h1 h2),z18i op name l h (fun e=>e.elim h1 h2)]
  all_goals simp_all [z7,if_pos,if_neg,of_decide_eq_true]
def zn8 : FnC Un:=fnF3 (dI .i64) dStr (dL .val) fun op name l=>([txts l],zx6 (z1j op name l))
theorem zwa : FnOK 120 zn8:=fnK3 z1a z4j zw (M:=zzy) rfl ⟨z1mi,z1m8,z1ls,zzs,zhx,z28v,zls,zit,z1w7,z18e,zpx,z1ql,z1w4,z1ma,z1mc,z1h6,trivial⟩ ⟨z24l,z28z,trivial⟩ trivial trivial trivial Tryz.func120 fun op name l=>GiF.r fun w o=>z1bh op name l (wfA_ w 0) (wfA_ w 1) (wfA_ w 2) (obA_ o 0)
end
end B
namespace B
open Go Go.RowKit
set_option maxRecDepth 100000
noncomputable section
attribute [local irreducible] awp ctxK zx z1d retQ z1o awf ctxF z1l
def colV (depth at_:Int) (env:List (List Val)) : Val:=if 0≤depth∧depth<(env.length:Int)∧0≤at_∧at_<((env.getD depth.toNat []).length:Int) then (env.getD depth.toNat []).getD at_.toNat zeroVal else zeroVal
mutual
def zwb (ap:Int→ByteArray→List Val→Val) (env:List (List Val)) : Term→Val
 | .mk op v depth at_ name kids _ _=>if op=1 then v else if op=2 then colV depth at_ env else if op=26∨op=27∨op=28 then zeroVal else ap op name (zhz ap env kids)
def zhz (ap:Int→ByteArray→List Val→Val) (env:List (List Val)) : List Term→List Val
 | []=>[]
 | t::l=>zwb ap env t::zhz ap env l
end
theorem z12d (ap:Int→ByteArray→List Val→Val) (env:List (List Val)) (t:Term) : zwb ap env t=if t.op=1 then t.v else if t.op=2 then colV t.depth t.at_ env else if t.op=26∨t.op=27∨t.op=28 then zeroVal else ap t.op t.name (zhz ap env t.kids):=by cases t;simp only[zwb];rfl
theorem z12e (ap:Int→ByteArray→List Val→Val) (env:List (List Val)) : ∀ l : List Term,zhz ap env l=l.map (zwb ap env)
 | []=>rfl
 | t::l=>by simp only[zhz,yt,z12e ap env l]
end
end B
namespace B
open Go Go.RowKit
set_option maxRecDepth 100000
noncomputable section
attribute [local irreducible] awp ctxK zx z1d retQ z1o awf ctxF z1l
def z10 (v:Val) : Prop:=v.s.size≤2000000
mutual
def strT : Term→Prop
 | .mk _ v _ _ _ kids _ _=>v.s.size≤2000000∧zs4 kids
def zs4 : List Term→Prop
 | []=>True
 | t::l=>strT t∧zs4 l
end
theorem z1ap (t:Term) : strT t↔(t.v.s.size≤2000000∧zs4 t.kids):=by cases t;simp only[strT,Term.v_mk,Term.kids_mk]
theorem strTs_mem : ∀ {l:List Term},zs4 l↔∀ t∈l,strT t
 | []=>by simp [zs4]
 | t::l=>by simp only[zs4,yf,forall_eq_or_imp,strTs_mem (l:=l)]
def z5o (env:List (List Val)) : Prop:=∀ r∈env,∀ v∈r,z10 v
theorem z3d : z10 zeroVal:=yb _
theorem zwc (n:Int) : z10 (zd n):=yb _
theorem z1mk (n:Int) (b:Bool) : z10 (z46 n b):=by
 unfold z46;split
 ·exact z3d
 ·exact zwc n
theorem z1ml (b:Bool) : z10 (z1i b):=by rw[zvv];exact yb _
theorem zwd (a:Int) : z10 (z5y a):=by
 unfold z5y
 repeat' split
 all_goals exact yb _
theorem z2ct (op:Int) (a b:Val) : z10 (cmpO op a b):=by
 unfold cmpO;split
 ·exact yb _
 ·exact z3d
theorem zgq {l:List Val} (h:∀ x∈l,z10 x) (i:Nat) : z10 (l.getD i zeroVal):=by
 rw[yd];cases e : l[i]? with
 | none=>exact z3d
 | some v=>exact h v (ye e)
theorem z1e5 : ∀ (l:List Val),(∀ x∈l,z10 x)→z10 (zu5 l)
 | [],_=>z3d
 | [x],h=>h x (by simp)
 | c::v::r,h=>by
  simp only[zu5];split
  ·exact h v (by simp)
  ·exact z1e5 r fun x hx=>h x (by simp [hx])
theorem z1ua {c:Prop} [Decidable c] {a b:Val} (ha:c→z10 a) (hb:¬ c→z10 b) : z10 (if c then a else b):=by split<;>simp_all
theorem z20x (name:ByteArray) {l:List Val} (h:∀ x∈l,z10 x) : z10 (z8i name l):=by
 have g:=zgq h;have gt:∀ (x:Val) f b,z10 x→z10 (z99 (zlw x.s f b)):=fun x f b hx=>by
  show (zlw x.s f b).size≤2000000;rw[z12c];exact hx
 unfold z8i z20v z1ao z1an
 repeat' split
 all_goals first | exact z3d | exact g _ | exact z1mk _ _ | exact zwc _ | exact gt _ _ _ (g _)
theorem z1e6 (op:Int) (name:ByteArray) {l:List Val} (h:∀ x∈l,z10 x) : z10 (z1j op name l):=by
 have g:=zgq h;unfold z1j;split
 ·exact z3d
 unfold z18h
 repeat' (first | refine z1ua (fun _=>?_) (fun _=>?_) | exact z3d | exact z1mk _ _ | exact z1ml _ | exact z2ct _ _ _ | exact zwd _ | (unfold z68;exact zwd _) | (unfold z83;exact zwd _) | exact z1e5 l h | exact z20x name h)
 all_goals first
  | exact g _
  | (show (zlw _ _ _).size≤2000000;rw[z12c];exact g _)
  | (rename_i hs;show (_++_ : ByteArray).size≤2000000;rw[ByteArray.size_append];omega)
theorem z2cu {env:List (List Val)} (h:z5o env) (d a:Int) : z10 (colV d a env):=by
 unfold colV;split
 ·rename_i hc;have hm:env.getD d.toNat []∈env:=by
   rw[yd,y9 (by omega)];exact y21 _
  exact zgq (h _ hm) _
 ·exact z3d
mutual
theorem z1mm {env:List (List Val)} (h:z5o env) : ∀ t : Term,strT t→z10 (zwb z1j env t)
 | .mk op v depth at_ name kids _ _,ht=>by
  simp only[strT] at ht;simp only[zwb];split
  ·exact ht.1
  ·split
   ·exact z2cu h _ _
   ·split
    ·exact z3d
    ·exact z1e6 _ _ (zy4 h kids ht.2)
theorem zy4 {env:List (List Val)} (h:z5o env) : ∀ l : List Term,zs4 l→∀ x∈zhz z1j env l,z10 x
 | [],_=>by simp [zhz]
 | t::l,ht=>by
  simp only[zs4] at ht;simp only[zhz,yf,forall_eq_or_imp];exact⟨z1mm h t ht.1,zy4 h l ht.2⟩
end
def z37 (t:Term) (env:List (List Val)) : Val:=zwb z1j env t
def zn9 (m:Nat) : FnC Un:=fnF2 (dS .term) (dL .row) fun t env=>z2l (t.ht) m ([t.sz≤2000000,strT t,z5o env],zx6 (z37 t env))
def ziv (m:Nat) : Mc Un:=mcF_ [(117,zn9 m),(120,zn8)] [] [] [] []
def zqs : Nat→NS:=nsF_ [(14,{ ts:=bl 81 32281802128991715382,bs:=bl 81 20,nm:=[(.sl 5,324)],cs:=true })] true
def z6p (t:Term) (env:List (List Val)) (v0:Int) (v1:List Val) : S Un:=(st 81 81 325 0 [(1,al .row env),(2,ax 2),(4,ax 4),(5,ao 324),(62,al .term t.kids),(63,ai (↑t.kids.length:Int)),(64,ai v0)] [(2,bg .term t),(4,bg .val zeroVal)] [(324,some ⟨(0:Nat),Ty.val,v1,some (0:Nat),true⟩)])
def zb8 (m:Nat) : S Un→Option (EX Un):=lpF_ (ziv m) zqs Tryz.f117 [1,1,1,0,1,2,2] 14
def zm0 (m:Nat) : Exit→S Un→Option (RF Un):=cxF_ (ziv m) zqs Tryz.f117 [1,1,1,0,1,2] [.d]
def zzz (m:Nat) (t:Term) (env:List (List Val)) : Option (RF Un):=fnF_ (ziv m) zqs Tryz.f117 1 [.d] [.d (.agg (enc Ty.term t)),.d (.v (.dat (U:=Un) Ty.row env))]
theorem z1qo (m:Nat) (t:Term) (env:List (List Val)) : zzz m t env=cndO (t.op == 1) (some (zx6 (t.v))) (cndO (t.op == 2) (cndO (decide (t.depth≥0)) (cndO (decide (t.depth<(↑env.length:Int))) (cndO (decide (t.at_≥0)) (obO (0≤t.depth∧t.depth<(↑env.length:Int)) (cndO (decide (t.at_<(↑(List.length (env.getD t.depth.toNat [])):Int))) (obO (0≤t.depth∧t.depth<(↑env.length:Int)) (obO (0≤t.at_∧t.at_<(↑(List.length (env.getD t.depth.toNat [])):Int)) (some (zx6 (List.getD (env.getD t.depth.toNat []) t.at_.toNat zeroVal))))) (some (zx6 (zeroVal))))) (some (zx6 (zeroVal)))) (some (zx6 (zeroVal)))) (some (zx6 (zeroVal)))) (cndO (t.op == 26) (some (zx6 (zeroVal))) (cndO (t.op == 27) (some (zx6 (zeroVal))) (cndO (t.op == 28) (some (zx6 (zeroVal))) (obO ((0:Int)≤(0:Int)∧(0:Int)≤(↑t.kids.length:Int)∧(↑t.kids.length:Int).toNat*(32:Nat)≤zf) ((zb8 m (z6p t env (0:Int) ([]))).bind (zb (zm0 m)))))))):=by kernel_rfl
theorem zwe (m:Nat) (t:Term) (env:List (List Val)) (v0:Int) (v1:List Val) : zb8 m (z6p t env v0 v1)=cndO (decide (v0<(↑t.kids.length:Int))) (obO (0≤v0∧v0<(↑t.kids.length:Int)) (obO ((Term.ids (t.kids.getD v0.toNat za)).ht<m) (obO ((Term.ids (t.kids.getD v0.toNat za)).sz≤(2000000:Nat)) (obO (strT (Term.ids (t.kids.getD v0.toNat za))) (obO (z5o env) (obO ((v1.length+[(z37 (Term.ids (t.kids.getD v0.toNat za)) env)].length)*(32:Nat)≤zf) (zb8 m (z6p t env (IntKind.i64.wrap (v0+1)) (v1++[(z37 (Term.ids (t.kids.getD v0.toNat za)) env)]))))))))) (some (.exit 1,(z6p t env v0 v1))):=lpQ_ (by kernel_rfl)
theorem z18j (m:Nat) (t:Term) (env:List (List Val)) (v0:Int) (v1:List Val) : zm0 m (.exit 1) (z6p t env v0 v1)=obO (txts v1) (some (zx6 (z1j t.op t.name v1))):=by kernel_rfl
theorem z2cv (m:Nat) (t:Term) (env:List (List Val)) (ht:WS .term t) (hm:t.ht<m+1) (h1:t.sz≤2000000) (h2:strT t) (h3:z5o env) :
  (zb8 m (z6p t env (0:Int) [])).bind (zb (zm0 m))=some (zx6 (z1j t.op t.name (zhz z1j env t.kids))):=by
 have hk:WL .term t.kids:=ht.term_kids;have hsz:=t.sz_eq;have hlen:=z5s t.kids;have hst:=(z1ap t).1 h2
 obtain⟨lp,_⟩:=z1p (e:=.exit 1) (L:=zb8 m) (st:=fun (o:List Val) i=>z6p t env i o) (l:=t.kids) (d:=za) (g:=fun o x=>o++[z37 x env]) (fun i o=>o.length=i) hk.len
  (fun o i x hi hx hI=>by
   have hI':o.length=i:=hI;have hmem:x∈t.kids:=by rw[← hx,yd,y9 (by omega)];exact y21 _
   refine⟨by show (o++[_]).length=i+1;rw[ya,yg];omega,?_⟩;have hht:=Term.ht_kid hmem;have hxs:=zj9 hmem;rw[zwe];simp only[z7,hi,decide_true,if_true,and_true,y5,hx,Term.ids_eq]
   rw[z6 (by omega),z6 (by omega),z6 (by omega),z6 (strTs_mem.1 hst.2 x hmem),z6 h3,z6 (by unfold zf;rw[yg];omega)])
  (fun o _=>by rw[zwe];simp [z7]) [] rfl
 rw[zfp,y10] at lp;have he:t.kids.map (fun x=>z37 x env)=zhz z1j env t.kids:=(z12e _ _ _).symm;rw[he] at lp;refine (ze lp).trans ?_;rw[z18j,z6];refine⟨by rw[z12e,yu];omega,zy4 h3 t.kids hst.2⟩
theorem z1h7 (m:Nat) (t:Term) (env:List (List Val)) (ht:WS .term t) (_he:WL .row env) (hm:t.ht<m+1) (h1:t.sz≤2000000) (h2:strT t) (h3:z5o env) : zzz m t env=some (zx6 (z37 t env)):=by
 have hlen:=z5s t.kids;have hsz:=t.sz_eq;rw[z1qo,z2cv m t env ht hm h1 h2 h3];have e:z37 t env=zwb z1j env t:=rfl;rw[e,z12d];simp only[zyw];simp only[z7,y1g,beq_iff_eq,decide_eq_true_eq];by_cases c1 : t.op=1
 ·rw[if_pos c1,if_pos c1]
 rw[if_neg c1,if_neg c1];by_cases c2 : t.op=2
 ·rw[if_pos c2,if_pos c2];unfold colV;by_cases d1 : t.depth≥0
  ·rw[if_pos d1];by_cases d2 : t.depth<(env.length:Int)
   ·rw[if_pos d2];by_cases d3 : t.at_≥0
    ·rw[if_pos d3,z6 ⟨d1,d2⟩];by_cases d4 : t.at_<((env.getD t.depth.toNat []).length:Int)
     ·rw[if_pos d4,if_pos ⟨d1,d2,d3,d4⟩,z6 ⟨d1,d2⟩,z6 ⟨d3,d4⟩]
     ·rw[if_neg d4,if_neg (fun e=>d4 e.2.2.2)]
    ·rw[if_neg d3,if_neg (fun e=>d3 e.2.2.1)]
   ·rw[if_neg d2,if_neg (fun e=>d2 e.2.1)]
  ·rw[if_neg d1,if_neg (fun e=>d1 e.1)]
 rw[if_neg c2,if_neg c2];by_cases c3 : t.op=26∨t.op=27∨t.op=28
 ·rw[if_pos (by omega),if_pos c3]
 ·rw[if_neg (by omega),if_neg c3,z6 (by unfold zf;omega)]
abbrev z26b (m:Nat) : Prop:=FnOK 117 (zn9 m)
theorem z1mn (m:Nat) (hG:z26b m) : FnOK 117 (zn9 (m+1)):=fnK2 zo zw (M:=(ziv m)) rfl ⟨hG,zwa,trivial⟩ trivial trivial trivial trivial Tryz.func117 fun t env=>GiF.r fun w o=>z1h7 m t env (wfA_ w 0) (wfA_ w 1) (obA_ o 0) (obA_ o 1) (obA_ o 2) (obA_ o 3)
theorem z1e7 : ∀ m,z26b m
 | 0=>fnZ2
 | m+1=>z1mn m (z1e7 m)
def z143 : FnC Un:=fnF2 (dS .term) (dL .row) fun t env=>([t.sz≤2000000,strT t,z5o env],zx6 (z37 t env))
theorem z1qp : FnOK 117 z143:=fnA2 fun m=>(z1e7 m)
end
end B
namespace B
open Go Go.RowKit
set_option maxRecDepth 100000
noncomputable section
attribute [local irreducible] awp ctxK zx z1d retQ z1o awf ctxF z1l
def zeb : ByteArray:=⟨#[99,111,117,110,116]⟩
def nmSum : ByteArray:=⟨#[115,117,109]⟩
def zm1 : ByteArray:=⟨#[109,105,110]⟩
def zov : ByteArray:=⟨#[109,97,120]⟩
def zfq : ByteArray:=⟨#[114,111,119,115]⟩
def zpz : ByteArray:=⟨#[]⟩
def numV (n:Int) : Val:=⟨2,n,⟨#[]⟩⟩
open Classical in
def cntV (nm:ByteArray) (v:Val) : Bool:=decide (v.kind≠0) && z7q v && (decide (nm≠nmSum) || decide (v.kind=2))
open Classical in
def addU (acc:List Val) (v:Val) : List Val:=if v∈acc then acc else acc++[v]
theorem z20y : (ByteArray.mk #[99,111,117,110,116])=zeb:=rfl
theorem z1mo : (ByteArray.mk #[115,117,109])=nmSum:=rfl
theorem z20z : (ByteArray.mk #[109,105,110])=zm1:=rfl
theorem z210 : (ByteArray.mk #[109,97,120])=zov:=rfl
theorem z1qq : (ByteArray.mk #[114,111,119,115])=zfq:=rfl
theorem z2ht : (ByteArray.mk #[])=zpz:=rfl
theorem z100 (a b:ByteArray) : (a.toList == b.toList)=true↔a=b:=by grind [z1sx]
open Classical in
theorem z2fb (a b:ByteArray) : (a.toList == b.toList)=decide (a=b):=by
 grind [decide_eq_true,z100,decide_eq_false]
theorem z18k (a b:Int) : cmpI b a=- cmpI a b:=by grind [cmpI]
theorem z1ub : ∀ a b : List UInt8,cmpL b a=- cmpL a b
 | [],[]=>rfl
 | [],_::_=>rfl
 | _::_,[]=>rfl
 | a::l,b::r=>by
  simp only[cmpL];by_cases h : a=b
  ·subst h;simp;exact z1ub l r
  ·rw[if_neg h,if_neg (Ne.symm h)];exact z18k _ _
theorem zk1 (a b:Val) : ordV b a=- ordV a b:=by
 unfold ordV;by_cases h : a.kind=b.kind
 ·rw[if_pos h,if_pos h.symm];by_cases h2 : a.n=b.n
  ·rw[if_pos h2,if_pos h2.symm];exact z1ub _ _
  ·rw[if_neg h2,if_neg (Ne.symm h2)];exact z18k _ _
 ·rw[if_neg h,if_neg (Ne.symm h)];exact z18k _ _
theorem zbp {a b:Int} : cmpI a b<0↔a<b:=by grind [cmpI]
theorem z1mp : ∀ {a b c:List UInt8},cmpL a b<0→cmpL b c<0→cmpL a c<0
 | [],[],_,h,_=>by omega
 | [],_::_,[],_,h=>by grind [cmpL]
 | [],_::_,_::_,_,_=>by simp [cmpL]
 | _::_,[],_,h,_=>by grind [cmpL]
 | _::_,_::_,[],_,h=>by grind [cmpL]
 | a::l,b::r,c::t,h1,h2=>by
  simp only[cmpL] at h1 h2 ⊢;by_cases e1 : a=b
  ·subst e1;by_cases e2 : a=c
   ·subst e2;simp at h1 h2 ⊢;exact z1mp h1 h2
   grind
  ·rw[if_neg e1] at h1;by_cases e2 : b=c
   ·grind
   ·rw[if_neg e2] at h2;rw[zbp] at h1 h2;have : a≠c:=by grind
    rw[if_neg this,zbp];omega
theorem zm2 {a b c:Val} (h1:ordV a b<0) (h2:ordV b c<0) : ordV a c<0:=by
 unfold ordV at h1 h2 ⊢;by_cases k1 : a.kind=b.kind
 ·rw[if_pos k1] at h1;by_cases k2 : b.kind=c.kind
  ·rw[if_pos k2] at h2;rw[if_pos (k1.trans k2)];by_cases n1 : a.n=b.n
   ·rw[if_pos n1] at h1;by_cases n2 : b.n=c.n
    ·rw[if_pos n2] at h2;rw[if_pos (n1.trans n2)];exact z1mp h1 h2
    grind
   ·rw[if_neg n1,zbp] at h1;by_cases n2 : b.n=c.n
    ·simp_all [if_neg,zbp]
    ·rw[if_neg n2,zbp] at h2;rw[if_neg (by omega),zbp];omega
  grind
 ·rw[if_neg k1,zbp] at h1;by_cases k2 : b.kind=c.kind
  ·simp_all [if_neg,zbp]
  ·rw[if_neg k2,zbp] at h2;rw[if_neg (by omega),zbp];omega
theorem z1uc (a:Val) : ordV a a=0:=ordV_zero.2 rfl
def bigM : Int:=1000000000000000
open Classical in
def zi0 (a:Agg) : Acc :=
 if a.name=zeb then (if a.t=[] then ⟨zfq,false,0,0,0,zeroVal,[]⟩ else ⟨a.name,a.distinct,0,0,0,zeroVal,[]⟩)
 else if a.name=nmSum∨a.name=zm1∨a.name=zov then ⟨a.name,a.distinct,0,0,0,zeroVal,[]⟩
 else ⟨zpz,a.distinct,0,0,0,zeroVal,[]⟩
open Classical in
def zna (nm:ByteArray) (v:Val) : Bool:=decide (nm=zfq) || cntV nm v
open Classical in
def zb9 (x:Acc) (v:Val) : Acc :=
 if x.name=nmSum then ⟨x.name,x.distinct,x.n+1,x.hi+(x.lo+v.n).tdiv bigM,(x.lo+v.n).tmod bigM,x.v,x.l⟩
 else if x.name=zm1 then ⟨x.name,x.distinct,x.n+1,x.hi,x.lo,if x.n+1=1∨ordV v x.v<0 then v else x.v,x.l⟩
 else if x.name=zov then ⟨x.name,x.distinct,x.n+1,x.hi,x.lo,if x.n+1=1∨ordV v x.v > 0 then v else x.v,x.l⟩
 else ⟨x.name,x.distinct,x.n+1,x.hi,x.lo,x.v,x.l⟩
def posV (l:List Val) (v:Val) : Nat:=(l.takeWhile fun x=>ordV x v<0).length
open Classical in
def insV (l:List Val) (v:Val) : List Val:=if v∈l then l else l.take (posV l v)++v::l.drop (posV l v)
def zow (x:Acc) (v:Val) : Acc :=
 if zna x.name v=true then (if x.distinct=true then ⟨x.name,x.distinct,x.n,x.hi,x.lo,x.v,insV x.l v⟩ else zb9 x v) else x
def z1mq (x:Acc) : Val:=if x.n=0∨x.hi < -1∨x.hi > 1 then zeroVal else if inN (x.hi*bigM+x.lo) then numV (x.hi*bigM+x.lo) else zeroVal
open Classical in
def endA (x:Acc) : Val :=
 if x.name=zeb∨x.name=zfq then numV x.n else if x.name=nmSum then z1mq x else if x.name=zm1∨x.name=zov then x.v else zeroVal
def z18l (x:Acc) : Val:=endA (x.l.foldl zb9 x)
def runA (a:Agg) (l:List Val) : Val:=z18l (l.foldl zow (zi0 a))
theorem z29d {v:Val} (h:z7q v=true) (hk:v.kind=2) : -bigM≤v.n∧v.n≤bigM:=by
 simp_all [z7q,inN,bigM]
theorem z2fc {v:Val} (h:cntV nmSum v=true) : -bigM≤v.n∧v.n≤bigM:=by
 unfold cntV at h;simp at h;exact z29d h.1.2 h.2
theorem z2kb : zeb≠nmSum∧zeb≠zm1∧zeb≠zov∧zeb≠zfq∧nmSum≠zm1∧nmSum≠zov∧nmSum≠zfq∧zm1≠zov∧zm1≠zfq∧zov≠zfq∧zpz≠zeb∧zpz≠nmSum∧zpz≠zm1∧zpz≠zov∧zpz≠zfq:=by
 simp [zeb,nmSum,zm1,zov,zfq,zpz]
theorem z2js {n:Int} : n.tdiv bigM*bigM+n.tmod bigM=n:=by rw[Int.mul_comm];exact Int.mul_tdiv_add_tmod n bigM
theorem z2fd (n:Int) : -bigM<n.tmod bigM∧n.tmod bigM<bigM:=by
 have hb:(0:Int)<bigM:=by decide
 refine⟨?_,Int.tmod_lt_of_pos n hb⟩;have:=Int.tmod_lt_of_pos (-n) hb;rw[Int.neg_tmod] at this;omega
theorem z2fe {n:Int} (h1:-2*bigM<n) (h2:n<2*bigM) : -1≤n.tdiv bigM∧n.tdiv bigM≤1:=by
 unfold bigM at *;grind
theorem z1e8 (x:Acc) (v:Val) : (zb9 x v).l=x.l∧(zb9 x v).distinct=x.distinct∧(zb9 x v).name=x.name:=by
 unfold zb9;grind
theorem z26c (l:List Val) (v:Val) : posV l v≤l.length:=(y4s _).length_le
theorem z2ff (l:List Val) (v u:Val) : u∈insV l v↔u∈l∨u=v:=by
 unfold insV;split
 ·grind
 ·rw[yc,yf];have : u∈l↔u∈l.take (posV l v)∨u∈l.drop (posV l v):=by rw[← yc,y1s]
  rw[this];constructor
  ·rintro (h | h | h);exact .inl (.inl h);exact .inr h;exact .inl (.inr h)
  ·rintro ((h | h) | h);exact .inl h;exact .inr (.inr h);exact .inr (.inl h)
theorem z144 {p:Val→Bool} : ∀ (l:List Val),∀ u∈l.takeWhile p,p u=true
 | [],u,h=>by simp at h
 | a::l,u,h=>by
  rw[y3q] at h;split at h
  ·rcases yf.1 h with rfl | h
   ·omega
   ·exact z144 l u h
  grind
theorem z101 {p:Val→Bool} : ∀ (l:List Val) {y:Val} {r:List Val},l.dropWhile p=y::r→p y=false
 | [],y,r,h=>by simp at h
 | a::l,y,r,h=>by
  rw[y3c] at h;split at h
  ·exact z101 l h
  grind
theorem z12f {l:List Val} {v:Val} : ∀ u∈l.take (posV l v),ordV u v<0:=by
 grind [posV,ordV,List.takeWhile_append_dropWhile,decide,List.take_left,z144]
theorem z12g {l:List Val} (h:l.Pairwise fun a b=>ordV a b<0) {v:Val} : ∀ u∈l.drop (posV l v),¬ ordV u v<0:=by
 have e:l.drop (posV l v)=l.dropWhile fun x=>ordV x v<0:=by
  grind [posV,List.takeWhile_append_dropWhile,decide,ordV,List.drop_left]
 have hp:(l.dropWhile fun x=>ordV x v<0).Pairwise fun a b=>ordV a b<0:=h.sublist (List.dropWhile_sublist _);cases hd : l.dropWhile fun x=>ordV x v<0 with
 | nil=>grind
 | cons y r =>
  have hy:¬ ordV y v<0:=by
   grind [z101]
  all_goals grind [List.pairwise_cons,zm2]
theorem z24z {l:List Val} (h:l.Pairwise fun a b=>ordV a b<0) (v:Val) : (insV l v).Pairwise fun a b=>ordV a b<0:=by
 unfold insV;split
 ·omega
 ·have hs:∀ u∈l.drop (posV l v),ordV v u<0:=fun u hu=>by
   have h1:=z12g h u hu;grind [ordV,ordV_zero,List.mem_of_mem_drop,zk1]
  rw[y28];refine⟨h.sublist (List.take_sublist _ _),y2i.2 ⟨hs,h.sublist (List.drop_sublist _ _)⟩,fun a ha b hb=>?_⟩;rcases yf.1 hb with rfl | hb
  ·exact z12f a ha
  ·exact zm2 (z12f a ha) (hs b hb)
theorem z250 (l:List Val) (v:Val) : (insV l v).length≤l.length+1:=by
 grind [insV,z26c]
theorem z12h {nm:ByteArray} {v:Val} (h:zna nm v=true) (hs:nm=nmSum) : -bigM≤v.n∧v.n≤bigM:=by
 simp_all [zna,y1g,decide_eq_true_eq,z2kb,z2fc]
end
end B
end Go.Proofs.YtjfpbchdcbhfgaaGreat
