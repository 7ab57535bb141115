/- Part 12 of the proof: Lscal3 Sscal1 Sscal2n Sevalg Sscal3 Saggspec. -/
import Derived.Lib.ConvBytes
import Derived.Laws.IdiomStrings
import Derived.Test.YtjfpbchdcbhfgaaGreatNgr11
set_option linter.unusedVariables false
set_option linter.unusedSimpArgs false
namespace Go.Proofs.YtjfpbchdcbhfgaaGreat
namespace B
open Go Go.RowKit
set_option maxRecDepth 1000000
def zu6(s:ByteArray)(j:Nat):UInt8:=s.data.toList.getD j 0
structure RowT(w:World)(s:ByteArray)(f b:Int)(k:Nat)(wr:World):Prop where
 ext:Ext w wr
 cell:∀j,j<s.size→wr.cell? ⟨w.heap.size,j,none⟩=some (.int .u8 ((if j<k then zs5 f b (zu6 s j)else zu6 s j).toNat:Nat))
 fr:∀j,j<s.size→wr.frozen? ⟨w.heap.size,j,none⟩=false
theorem z2cx(w:World)(e:TypeId)(s:ByteArray):Ext w (Lib.bytesWorld w e s):=by
 have h:Ext w ((w.drew.alloc (.cells (Lib.bytesCells w e s) e))):=((Ext.refl w).drew).alloc _;have hs:=Lib.bytesWorld_size w e s;refine⟨rfl,rfl,rfl,by omega,fun k hk=>Lib.bytesWorld_at_old w e s k hk⟩
theorem z29c(w:World)(e:TypeId)(s:ByteArray)(f b:Int):RowT w s f b 0 (Lib.bytesWorld w e s) where
 ext:=z2cx w e s
 cell j hj:=by
  rw[Lib.bytesWorld_cell w e s j hj,if_neg (by omega)];rfl
 fr j hj:=by
  unfold World.frozen?;simp only[Lib.bytesWorld_at_new];have:s.size≤(Lib.bytesCells w e s).size:=by
   unfold Lib.bytesCells;rw[Array.size_append,Array.size_map];exact y41 _ _
  simp only[Bool.and_eq_false_iff,decide_eq_false_iff_not];omega
theorem RowT.step{w wr:World}{s:ByteArray}{f b:Int}{k:Nat}(h:RowT w s f b k wr)(hk:k<s.size)(v:Value)(hv:v=.int .u8 ((zs5 f b (zu6 s k)).toNat:Nat)):RowT w s f b (k+1) (wr.setCell ⟨w.heap.size,k,none⟩ v) where
 ext:=h.ext.setCell (y6 _) _
 cell j hj:=by
  by_cases e:j=k
  ·subst e;rw[World.cell?_setCell_same _ _ _ (h.cell j hj),if_pos (by omega),hv]
  ·rw[World.cell?_setCell_other _ _ _ _ (by simp only[ne_eq,Addr.mk.injEq,not_and];omega),h.cell j hj];by_cases hjk:j<k
   ·rw[if_pos hjk,if_pos (by omega)]
   ·rw[if_neg hjk,if_neg (by omega)]
 fr j hj:=by rw[World.frozen?_setCell];exact h.fr j hj
theorem RowT.stay{w wr:World}{s:ByteArray}{f b:Int}{k:Nat}(h:RowT w s f b k wr)(hv:zs5 f b (zu6 s k)=zu6 s k):RowT w s f b (k+1) wr where
 ext:=h.ext
 cell j hj:=by
  rw[h.cell j hj];by_cases e:j=k
  ·subst e;rw[if_neg (by omega),if_pos (by omega),hv]
  ·by_cases hjk:j<k
   ·rw[if_pos hjk,if_pos (by omega)]
   ·rw[if_neg hjk,if_neg (by omega)]
 fr:=h.fr
theorem z24x(s:ByteArray)(f b:Int)(w:World)(hs:s.size≤2000000):Calls Tryz.prog 212 #[.string s,.int .u8 f,.int .i64 b] w fun e w'=>e=.returned (.string (zlv s f b))∧Ext w w':=by
 have h9:Tryz.prog.underlying 9=some .string:=by kernel_rfl
 have hB:Tryz.prog.underlying 201=some (.slice 5):=by kernel_rfl
 have h5:Tryz.prog.underlying 5=some (.int .u8):=by kernel_rfl
 have hconv:=Lib.run_convert_string_bytes (P:=Tryz.prog) w 9 201 5 s h9 hB h5;have hst:=Lib.hid (z29c w 5 s f b);generalize Lib.bytesWorld w 5 s=w1 at hconv hst;generalize grownCap w s.size 0 5=cp at hconv
 go_enter Tryz.func212,Tryz.ntmps212
 go_wp2_with fail
 go_loopw [14] (fun i wr=>∃k:Nat,k≤s.size∧i=.int .i64 k∧RowT w s f b k wr) (fun i _=>s.size- (intOf i).toNat)
 case atStart=>exact⟨0,by omega,rfl,hst.out⟩
 case round=>
  obtain⟨k,hk,rfl,hr⟩:=hrel;by_cases hlt:k<s.size
  ·have e1:=hr.cell k hlt;have e2:=hr.fr k hlt;rw[if_neg (y4d _)]at e1;have HR:=Lib.hid hr;clear hr;generalize hc:zu6 s k=c at e1
   go_wp2_with fail
   ·refine⟨⟨k+1,by omega,by simp,HR.out.step hlt _ ?_⟩,by simp[intOf];omega⟩;rename_i h1 h2;unfold zs5;rw[hc,if_pos ⟨h1,by rw[IntKind.wrap_u8];exact h2⟩,IntKind.wrap_u8];have e:IntKind.i64.wrap ((c.toNat:Int)+b)=wrap64 ((c.toNat:Int)+b):=by rw[IntKind.wrap_i64];unfold wrap64;rfl
    rw[e];generalize wrap64 ((c.toNat:Int)+b)=y;congr 1;have h3:(UInt8.ofNat (y % 256).toNat).toNat=(y % 256).toNat % 256:=UInt8.toNat_ofNat';rw[h3];omega
   ·refine⟨⟨k+1,by omega,by simp,HR.out.stay ?_⟩,by simp[intOf];omega⟩;unfold zs5;rw[hc,if_neg];rintro⟨_,h⟩;rw[IntKind.wrap_u8]at h;omega
   ·refine⟨⟨k+1,by omega,by simp,HR.out.stay ?_⟩,by simp[intOf];omega⟩;unfold zs5;rw[hc,if_neg];rintro⟨h,_⟩;omega
  ·have hke:k=s.size:=by omega
   subst hke
   have hback:=run_convert_bytes_back (P:=Tryz.prog) wr 201 9 5 ⟨w.heap.size,0,none⟩ cp (s.toList.map (zs5 f b)) hB h5 h9 (fun j hj=>by
    rw[yq,z58]at hj;have:=hr.cell j hj;rw[if_pos hj]at this;have ea:(⟨w.heap.size,0,none⟩:Addr).add j=⟨w.heap.size,j,none⟩:=by unfold Addr.add;split<;>simp_all
    rw[ea,this,y3b];congr 4;unfold zu6;rw[yd,y9 (by rw[y1l];exact hj),y44]
    simp only[ByteArray.toList_eq])
   rw[yq,z58]at hback;have hx:=hr.ext;clear hr
   go_wp2_with fail
   go_ret;exact⟨rfl,hx⟩
theorem z1gx:FnOK 212 zlw:=by
 intro args ob rs os h hob;unfold zlw at h;split at h
 ·rename_i x0 x1 x2;simp only[y7,y8,ym]at h;obtain⟨s,e0,f,e1,b,e2,rfl,rfl,rfl⟩:=h;obtain rfl:=z4l e0;obtain rfl:=z1a e1;obtain rfl:=z1a e2;refine⟨?_,zj Tryz.func212 (by kernel_rfl) (by kernel_rfl)⟩;have hr:=hob _ (yi.2 rfl);intro w St vs hbd hvs hld
  match vs,hvs with
  |[v0,v1,v2],⟨h0,h1,h2,_⟩=>
   obtain⟨rfl,hs⟩:=zts h0;obtain⟨rfl,-⟩:=ztt h1;obtain⟨rfl,-⟩:=ztt h2;refine(z24x s f b w hr).mono ?_;rintro e w' ⟨rfl,hx⟩;let gg:G:={β:=fun _=>0,lb:=fun _=>False,ω:=fun _ _=>none,tk:=fun _=>(none,0)};exact⟨_,rfl,hx,gg,fun _ h=>h,fun b o x _ h=>by simp[gg]at h,fun b o x h=>by simp[gg]at h,⟨rfl,oneC_str.2 (by rw[z128];exact hs)⟩,fun k o h=>by simp at h⟩
 ·simp at h
end B
namespace B
open Go Go.RowKit
set_option maxRecDepth 100000
noncomputable section
attribute [local irreducible] awp ctxK zx z1f retQ z1l awf ctxF z1k
def z18a(s:ByteArray):Option (RF Un):=fnF_ z1bz z23b Tryz.f163 0 [.d] [.d (.v (cs s))]
theorem z20n(s:ByteArray):z18a s=some (zx1 ({kind:=(3:Int),n:=(0:Int),s:=s})):=by kernel_rfl
def z9a(s:ByteArray):Val:=
 ({kind:=(3:Int),n:=(0:Int),s:=s})
theorem z20o(s:ByteArray):z18a s=some (zx1 (z9a s)):=by rw[z20n];unfold z9a;simp only[z8];repeat(first|rfl|split)
def zxz:FnC Un:=fnF1 dStr fun s=>([],zx1 (z9a s))
theorem z18b:FnOK 163 zxz:=fnK1 z4l (M:=z1bz) rfl trivial trivial trivial trivial trivial Tryz.func163 fun s=>GiF.r fun _ _=>z20o s
def z1u4(v:Val)(kind:Int):Option (RF Un):=fnF_ z1bz z23b Tryz.f200 0 [.d] [.d (.agg (enc Ty.val v)),.box [.v (.s (.int .i64 kind))]]
theorem z2cy(v:Val)(kind:Int):z1u4 v kind=some (z8z (v.kind !=kind)):=by kernel_rfl
def zlx(v:Val)(kind:Int):Bool:=v.kind !=kind
theorem z24z(v:Val)(kind:Int)(_hv:WS .val v)(_hk:WI kind)(_h:True):z1u4 v kind=some (z8z (zlx v kind)):=by
 rw[z2cy];rfl
def z1gy:List (List (DC Un))→Option (FV Un):=fun dl=>match dl with
 |[b0]=>(bI .i64 b0).bind fun kind=>some (zw (fun v=>True) (fun v=>zlx v kind))
 |_=>none
theorem z29d:ClOK 200 z1gy:=by
 refine⟨zj Tryz.func200 (by kernel_rfl) (by kernel_rfl),fun dl φ args ob rs hF hφ hob=>?_⟩;unfold z1gy at hF;split at hF
 ·simp only[y7,y8]at hF;obtain⟨kind,g0,hE⟩:=hF;subst hE;obtain rfl:=z2k6 g0;unfold zw at hφ;split at hφ
  ·simp only[y7,y8,ym]at hφ;obtain⟨v,e0,rfl,rfl⟩:=hφ;simp only[yr,y1m,y16,yz];rw[zr e0];exact Contract.data (z2f (M:=z1bz) rfl (z4o (l1:=[]) (l2:=[]) (l3:=[]) (l4:=[]) (l5:=[]) trivial trivial trivial trivial trivial) Tryz.func200 (by kernel_rfl) z23b 0 [.d] (fun hwf=>(z24z v kind (z42 hwf (a:=.d (.agg (enc Ty.val v))) (ye (i:=0) rfl)) (z42 hwf (a:=.box [.v (.s (.int .i64 kind))]) (ye (i:=1) rfl)) (hob _ (ye (i:=0) rfl)))))
  ·simp at hφ
 ·simp at hF
def zzl:Mc Un:=mcF_ [(199,zxx)] [] [(200,z1gy)] [] []
def zvt(l:List Val)(kind:Int):Option (RF Un):=fnF_ zzl z23b Tryz.f157 0 [.d] [.d (.v (.dat (U:=Un) Ty.val l)),.d (.v (.s (.int .i64 kind)))]
theorem z1m3(l:List Val)(kind:Int):zvt l kind=obO ((zw (fun v=>True) fun v=>zlx v kind)=zw (z18 (zw (fun v=>True) fun v=>zlx v kind)) (z1m (zw (fun v=>True) fun v=>zlx v kind))) (obO (zb9 (z18 (zw (fun v=>True) fun v=>zlx v kind)) l) (some (z8z (!zju l (z18 (zw (fun v=>True) fun v=>zlx v kind)) (z1m (zw (fun v=>True) fun v=>zlx v kind)))))):=by kernel_rfl
def z4t(l:List Val)(kind:Int):Bool:=l.all fun v=>v.kind==kind
theorem z1b7(l:List Val)(kind:Int)(_hl:WL .val l)(_hk:WI kind):zvt l kind=some (z8z (z4t l kind)):=by
 rw[z1m3];simp only[zj4,zj3];rw[z6 trivial,z6 (show zb9 _ l from fun _ _=>trivial)];unfold z4t zju zlx;congr 2;clear _hl
 induction l with
 |nil=>rfl
 |cons x l ih=>rw[List.any_cons,y1i,Bool.not_or,ih];simp[bne]
def zzm:FnC Un:=fnF2 (dL .val) (dI .i64) fun l kind=>([],z8z (z4t l kind))
theorem z1m4:FnOK 157 zzm:=fnK2 z11 z1a (M:=zzl) rfl ⟨z20l,trivial⟩ trivial ⟨z29d,trivial⟩ trivial trivial Tryz.func157 fun l kind=>GiF.r fun w _=>z1b7 l kind (wfA_ w 0) (wfA_ w 1)
def z13v:Mc Un:=mcF_ [(32,z8y)] [] [] [] []
def zzn(n:Int)(ok:Bool):Option (RF Un):=fnF_ z13v z23b Tryz.f158 0 [.d] [.d (.v (.s (.int .i64 n))),.d (.v (cb ok))]
theorem z1qg(n:Int)(ok:Bool):zzn n ok=cndO (!ok) (some (zx1 (z7))) (some (zx1 (zd n))):=by kernel_rfl
def z48(n:Int)(ok:Bool):Val:=
  if(!ok)=true then
   (z7)
  else
   (zd n)
theorem z1qh(n:Int)(ok:Bool):zzn n ok=some (zx1 (z48 n ok)):=by rw[z1qg];unfold z48;simp only[z8];repeat(first|rfl|split)
def zqr:FnC Un:=fnF2 (dI .i64) dB fun n ok=>([],zx1 (z48 n ok))
theorem zzo:FnOK 158 zqr:=fnK2 z1a z1iu (M:=z13v) rfl ⟨zc4,trivial⟩ trivial trivial trivial trivial Tryz.func158 fun n ok=>GiF.r fun _ _=>z1qh n ok
def z13w:Mc Un:=mcF_ [(161,zde),(155,zeb)] [] [] [] []
def zzp(f:Int→Int→Int)(a:Val)(b:Val):Option (RF Un):=fnF_ z13w z23b Tryz.f165 0 [.d] [.fn (z1h f),.d (.agg (enc Ty.val a)),.d (.agg (enc Ty.val b))]
theorem z1qi(f:Int→Int→Int)(a:Val)(b:Val):zzp f a b=some (zu3 (z60 (f (z3v a) (z3v b)))):=by kernel_rfl
def z69(f:Int→Int→Int)(a b:Val):Val:=z60 (f (z3v a) (z3v b))
theorem z1gz(f:Int→Int→Int)(a b:Val)(_ha:WS .val a)(_hb:WS .val b):zzp f a b=some (zu3 (z69 f a b)):=by
 rw[z1qi];rfl
def zqs:FnC Un:=fun args=>match args with
 |[x0,x1,x2]=>(dF x0).bind fun f=>(dS .val x1).bind fun a=>(dS .val x2).bind fun b=>some ([f=(z1h (z12 f))],zu1 (z69 (z12 f) a b),zu2 (z69 (z12 f) a b))
 |_=>none
theorem z1qj:FnOK 165 zqs:=by
 intro args ob rs os h hob;unfold zqs at h;split at h
 ·simp only[y7,y8,ym]at h;obtain⟨f,e0,a,e1,b,e2,rfl,rfl,rfl⟩:=h;obtain rfl:=znm e0;obtain rfl:=zr e1;obtain rfl:=zr e2;have hfv0:=hob _ (ye (i:=0) rfl);generalize z12 f=pp0 at*;subst hfv0;exact⟨z2f (M:=z13w) rfl (z4o (l1:=[(161,zde),(155,zeb)]) (l2:=[]) (l3:=[]) (l4:=[]) (l5:=[]) ⟨zhu,zlr,trivial⟩ trivial trivial trivial trivial) Tryz.func165 (by kernel_rfl) z23b 0 [.d] (fun hwf=>(z1gz pp0 a b (z42 hwf (a:=.d (.agg (enc Ty.val a))) (ye (i:=1) rfl)) (z42 hwf (a:=.d (.agg (enc Ty.val b))) (ye (i:=2) rfl)))),zj Tryz.func165 (by kernel_rfl) (by kernel_rfl)⟩
 ·simp at h
def zgm:Mc Un:=mcF_ [(164,zbz),(161,zde),(208,z1u2),(155,zeb)] [] [] [] []
def zn6:Nat→NS:=nsF_ [(3,{ts:=bl 25 1844,bs:=bl 25 20,nm:=[(.sl 5,100)]})] false
def z8a(v:Val)(l:List Val)(v0:Int)(v1:List Int):S Un:=(st 25 25 101 0 [(2,ax 2),(4,ax 4),(5,ao 100),(8,al .val l),(9,ai (↑l.length:Int)),(10,ai v0)] [(2,bg .val v),(4,bg .val z7)] [(100,some ⟨(0:Nat),Ty.int,v1,some (0:Nat),true⟩)])
def zei:S Un→Option (EX Un):=lpF_ zgm zn6 Tryz.f168 [1,1,0,1,2,2] 3
def zvu:Exit→S Un→Option (RF Un):=cxF_ zgm zn6 Tryz.f168 [1,1,0,1,2] [.d]
def zvv(v:Val)(l:List Val):Option (RF Un):=fnF_ zgm zn6 Tryz.f168 1 [.d] [.d (.agg (enc Ty.val v)),.d (.v (.dat (U:=Un) Ty.val l))]
theorem z1m5(v:Val)(l:List Val):zvv v l=(zei (z8a v l (0:Int) ([]))).bind (ze zvu):=by kernel_rfl
theorem zvw(v:Val)(l:List Val)(v0:Int)(v1:List Int):zei (z8a v l v0 v1)=cndO (decide (v0<(↑l.length:Int))) (obO (0≤v0∧v0<(↑l.length:Int)) (obO ((11:Int)≤(11:Int)∧(11:Int)≤(16:Int)) (obO ((v1.length+[z3v (cmpO (11:Int) v (l.getD v0.toNat z7))].length)*(8:Nat)≤zi) (zei (z8a v l (IntKind.i64.wrap (v0+1)) (v1++[z3v (cmpO (11:Int) v (l.getD v0.toNat z7))])))))) (some (.exit 0,(z8a v l v0 v1))):=lpQ_ (by kernel_rfl)
theorem z18c(v:Val)(l:List Val)(v0:Int)(v1:List Int):zvu (.exit 0) (z8a v l v0 v1)=some (zx1 (z60 (z1ad v1))):=by kernel_rfl
def zfn(v:Val)(l:List Val):Val:=z60 (z1ad (l.map fun x=>z3v (cmpO 11 v x)))
theorem zfo{α β:Type}(f:α→β):∀(l:List α)(o:List β),l.foldl (fun o x=>o++[f x]) o=o++l.map f
 |[],o=>by simp
 |x::l,o=>by rw[yu,zfo f l];simp
theorem z1b8(v:Val)(l:List Val)(_hv:WS .val v)(hl:WL .val l)(h:l.length≤2000000):zvv v l=some (zx1 (zfn v l)):=by
 obtain⟨lp,_⟩:=z1p (e:=.exit 0) (L:=zei) (st:=fun(o:List Int) i=>z8a v l i o) (l:=l) (d:=z7) (g:=fun o x=>o++[z3v (cmpO 11 v x)]) (fun i o=>o.length=i) hl.len
  (fun o i x hi hx hI=>by
   have hI':o.length=i:=hI;refine⟨by show(o++[_]).length=i+1;rw[yb,yg];omega,?_⟩;rw[zvw];simp only[z8,hi,decide_true,if_true,and_true,y5,hx]
   rw[z6 (by omega),z6 (by omega),z6 (by unfold zi;rw[yg];omega)])
  (fun o _=>by rw[zvw];simp[z8]) [] rfl
 rw[zfo,yz]at lp;rw[z1m5];refine(zg lp).trans ?_;rw[z18c];rfl
def zzq:FnC Un:=fnF2 (dS .val) (dL .val) fun v l=>([l.length≤2000000],zx1 (zfn v l))
theorem z1m6:FnOK 168 zzq:=fnK2 zr z11 (M:=zgm) rfl ⟨zpv,zhu,z297,zlr,trivial⟩ trivial trivial trivial trivial Tryz.func168 fun v l=>GiF.r fun w o=>z1b8 v l (wfA_ w 0) (wfA_ w 1) (obA_ o 0)
def zgn:Mc Un:=mcF_ [(161,zde)] [] [] [] []
def zn7:Nat→NS:=nsF_ [(1,{ts:=bl 23 5,bs:=bl 23 4,nm:=[],gb:=[2]})] false
def z1v(b2:Val)(v0:List Val):S Un:=(st 23 23 92 0 [(0,al .val v0),(2,ax 2)] [(2,bg .val b2)] [])
def z4j:S Un→Option (EX Un):=lpF_ zgn zn7 Tryz.f169 [1,0,2,2] 1
def zej:Exit→S Un→Option (RF Un):=cxF_ zgn zn7 Tryz.f169 [1,0,2] [.d]
def zvx(l:List Val):Option (RF Un):=fnF_ zgn zn7 Tryz.f169 0 [.d] [.d (.v (.dat (U:=Un) Ty.val l))]
theorem z1m7(l:List Val):zvx l=(z4j (z1v z7 l)).bind (ze zej):=by kernel_rfl
theorem zek(b2:Val)(v0:List Val):z4j (z1v b2 v0)=cndO (decide ((↑v0.length:Int)>(1:Int))) (obO ((0:Int)≤(0:Int)∧(0:Int)<(↑v0.length:Int)) (cndO (z3v (v0.getD 0 z7)==2) (obO ((0:Int)≤(1:Int)∧(1:Int)<(↑v0.length:Int)) (some (.ret,(z1v (v0.getD 1 z7) v0)))) (obO ((0:Int)≤(2:Int)∧(2:Int)≤(↑v0.length:Int)) (z4j (z1v b2 (List.drop 2 v0)))))) (some (.exit 0,(z1v b2 v0))):=lpQ_ (by kernel_rfl)
theorem z14w(b2:Val)(v0:List Val):zej .ret (z1v b2 v0)=some (zx1 (b2)):=by kernel_rfl
theorem zpw(b2:Val)(v0:List Val):zej (.exit 0) (z1v b2 v0)=cndO ((↑v0.length:Int)==(1:Int)) (obO ((0:Int)≤(0:Int)∧(0:Int)<(↑v0.length:Int)) (some (zx1 (v0.getD 0 z7)))) (some (zx1 (z7))):=by kernel_rfl
def zu7:List Val→Val
 |[]=>z7
 |[x]=>x
 |c::v::r=>if z3v c=2 then v else zu7 r
def zly(l:List Val):Val:=zu7 l
theorem z29e:∀(n:Nat)(l:List Val),l.length≤n→(z4j (z1v z7 l)).bind (ze zej)=some (zx1 (zu7 l)):=by
 intro n
 induction n using Nat.strongRecOn with
 |ind n ih=>
  intro l hn
  match l,hn with
  |[],_=>
   have e:z4j (z1v z7 [])=some (.exit 0,z1v z7 []):=by rw[zek];rfl
   rw[zg e,zpw];rfl
  |[x],_=>
   have e:z4j (z1v z7 [x])=some (.exit 0,z1v z7 [x]):=by rw[zek];rfl
   rw[zg e,zpw,z8,if_pos (by simp),z6 (by simp)];rfl
  |c::v::r,hn=>
   simp only[yt]at hn;have hg0:(c::v::r).getD 0 z7=c:=rfl;have hg1:(c::v::r).getD 1 z7=v:=rfl;have hd:List.drop 2 (c::v::r)=r:=rfl;have hl:((c::v::r).length:Int)=(r.length:Int)+2:=by simp only[yt];omega
   by_cases h:z3v c=2
   ·have e:z4j (z1v z7 (c::v::r))=some (.ret,z1v v (c::v::r)):=by
     rw[zek,hg0,hg1,hl,z8,if_pos (by simp;omega),z6 (by omega),z8,if_pos (by simpa using h),z6 (by omega)]
    rw[zg e,z14w];simp only[zu7];rw[if_pos h]
   ·have e:z4j (z1v z7 (c::v::r))=z4j (z1v z7 r):=by
     rw[zek,hg0,hg1,hl,hd,z8,if_pos (by simp;omega),z6 (by omega),z8,if_neg (by simpa using h),z6 (by omega)]
    rw[e,ih r.length (by omega) r (y6 _)];simp only[zu7];rw[if_neg h]
theorem z1b9(l:List Val)(_hl:WL .val l):zvx l=some (zx1 (zly l)):=by
 rw[z1m7];exact z29e _ l (y6 _)
def zzr:FnC Un:=fnF1 (dL .val) fun l=>([],zx1 (zly l))
theorem z1m8:FnOK 169 zzr:=fnK1 z11 (M:=zgn) rfl ⟨zhu,trivial⟩ trivial trivial trivial trivial Tryz.func169 fun l=>GiF.r fun w _=>z1b9 l (wfA_ w 0)
def z1m9(v:Val):Option (RF Un):=fnF_ z1bz z23b Tryz.f210 0 [.d] [.d (.agg (enc Ty.val v))]
theorem z29f(v:Val):z1m9 v=some (z1dw (v.kind !=0)):=by kernel_rfl
def zec(v:Val):Bool:=
 (v.kind !=(0:Int))
theorem z29g(v:Val):z1m9 v=some (z1dw (zec v)):=by rw[z29f];unfold zec;simp only[z8];repeat(first|rfl|split)
def zvy:FnC Un:=fun args=>match args with
 |[x0]=>(dS .val x0).bind fun v=>some ([],zt1 (zec v),zt2 (zec v))
 |_=>none
theorem z29h:FnOK 210 zvy:=by
 intro args ob rs os h hob;unfold zvy at h;split at h
 ·simp only[y7,y8,ym]at h;obtain⟨v,e0,rfl,rfl,rfl⟩:=h;obtain rfl:=zr e0;exact⟨z2f (M:=z1bz) rfl (z4o (l1:=[]) (l2:=[]) (l3:=[]) (l4:=[]) (l5:=[]) trivial trivial trivial trivial trivial) Tryz.func210 (by kernel_rfl) z23b 0 [.d] (fun hwf=>(z29g v)),zj Tryz.func210 (by kernel_rfl) (by kernel_rfl)⟩
 ·simp at h
def z2l:FV Un:=zw (fun v=>True) (fun v=>zec v)
theorem z250:FvOK 210 z2l:=by
 refine⟨zj Tryz.func210 (by kernel_rfl) (by kernel_rfl),fun args ob rs h hob=>?_⟩;unfold z2l zw at h;split at h
 ·simp only[y7,y8,ym]at h;obtain⟨v,e0,rfl,rfl⟩:=h;simp only[yr,y1m];rw[zr e0];refine Contract.data (z29h _ ([]) _ _ (?_:zvy _=some _) (by simp)).1;unfold zvy;simp only[zyn];rfl
 ·simp at h
def zvz:Mc Un:=mcF_ [(209,zhv),(152,z89),(159,z17v),(158,zqr),(211,zbj),(32,z8y),(212,zlw),(163,zxz)] [(210,z2l)] [] [] []
def zu8(name:ByteArray)(l:List Val):Option (RF Un):=fnF_ zvz z23b Tryz.f170 0 [.d] [.d (.v (cs name)),.d (.v (.dat (U:=Un) Ty.val l))]
def zdf(name:ByteArray)(l:List Val):Option (RF Un):=obO ((0:Int)≤(0:Int)∧(0:Int)<(↑l.length:Int)) (cndO ((l.getD 0 z7).kind !=3) (some (zx1 (z7))) (cndO (name.toList==(ByteArray.mk #[108,101,110,103,116,104]).toList) (obO ((0:Int)≤(0:Int)∧(0:Int)<(↑l.length:Int)) (some (zx1 (zd (↑(l.getD 0 z7).s.size:Int))))) (cndO (name.toList==(ByteArray.mk #[108,111,119,101,114]).toList) (obO ((0:Int)≤(0:Int)∧(0:Int)<(↑l.length:Int)) (obO ((l.getD 0 z7).s.size≤(2000000:Nat)) (some (zx1 (z9a (zlv (l.getD 0 z7).s (65:Int) (32:Int))))))) (cndO (name.toList==(ByteArray.mk #[117,112,112,101,114]).toList) (obO ((0:Int)≤(0:Int)∧(0:Int)<(↑l.length:Int)) (obO ((l.getD 0 z7).s.size≤(2000000:Nat)) (some (zx1 (z9a (zlv (l.getD 0 z7).s (97:Int) (-32:Int))))))) (some (zx1 (z7)))))))
def zdg(name:ByteArray)(l:List Val):Option (RF Un):=cndO ((↑l.length:Int) !=(1:Int)) (some (zx1 (z7))) (cndO (name.toList==(ByteArray.mk #[97,98,115]).toList) (obO ((0:Int)≤(0:Int)∧(0:Int)<(↑l.length:Int)) (cndO ((l.getD 0 z7).kind ==2) (obO ((0:Int)≤(0:Int)∧(0:Int)<(↑l.length:Int)) (cndO (decide ((l.getD 0 z7).n<0)) (some (zx1 (z48 (zcn (l.getD 0 z7).n).fst (zcn (l.getD 0 z7).n).snd))) (some (zx1 (z48 (l.getD 0 z7).n (z1q (l.getD 0 z7).n)))))) (zdf name l))) (zdf name l))
theorem z1h0(name:ByteArray)(l:List Val):zu8 name l=cndO (name.toList==(ByteArray.mk #[99,111,97,108,101,115,99,101]).toList) (obO (z2l=zw (z18 z2l) (z1m z2l)) (obO (zb9 (z18 z2l) l) (cndO (decide (z3e l (z18 z2l) (z1m z2l)≥0)) (obO (0≤z3e l (z18 z2l) (z1m z2l)∧z3e l (z18 z2l) (z1m z2l)<(↑l.length:Int)) (some (zx1 (l.getD (z3e l (z18 z2l) (z1m z2l)).toNat z7)))) (some (zx1 (z7)))))) (cndO (name.toList==(ByteArray.mk #[110,117,108,108,105,102]).toList) (cndO ((↑l.length:Int)==(2:Int)) (obO ((0:Int)≤(0:Int)∧(0:Int)<(↑l.length:Int)) (obO ((0:Int)≤(1:Int)∧(1:Int)<(↑l.length:Int)) (cndO (!(z1t (l.getD 0 z7) (l.getD 1 z7)).snd) (obO ((0:Int)≤(0:Int)∧(0:Int)<(↑l.length:Int)) (some (zx1 (l.getD 0 z7)))) (cndO ((z1t (l.getD 0 z7) (l.getD 1 z7)).fst !=0) (obO ((0:Int)≤(0:Int)∧(0:Int)<(↑l.length:Int)) (some (zx1 (l.getD 0 z7)))) (some (zx1 (z7))))))) (zdg name l)) (zdg name l)):=by kernel_rfl
def txts(l:List Val):Prop:=l.length≤2000000∧∀x∈l,x.s.size≤2000000
def nmB(name:ByteArray)(x:ByteArray):Bool:=name.toList==x.toList
def z1af(name:ByteArray)(x:Val):Val:=
 if x.kind≠3 then z7
 else if nmB name ⟨#[108,101,110,103,116,104]⟩=true then zd (x.s.size:Int)
 else if nmB name ⟨#[108,111,119,101,114]⟩=true then z9a (zlv x.s 65 32)
 else if nmB name ⟨#[117,112,112,101,114]⟩=true then z9a (zlv x.s 97 (-32))
 else z7
def z1ag(name:ByteArray)(l:List Val):Val:=
 if l.length≠1 then z7
 else if nmB name ⟨#[97,98,115]⟩=true∧(l.getD 0 z7).kind=2 then(if(l.getD 0 z7).n<0 then z48 (zcn (l.getD 0 z7).n).1 (zcn (l.getD 0 z7).n).2 else z48 (l.getD 0 z7).n (z1q (l.getD 0 z7).n))
 else z1af name (l.getD 0 z7)
def z20s(l:List Val):Val:=if 0≤z3e l (fun _=>True) zec then l.getD (z3e l (fun _=>True) zec).toNat z7 else z7
def z8h(name:ByteArray)(l:List Val):Val:=
 if nmB name ⟨#[99,111,97,108,101,115,99,101]⟩=true then z20s l
 else if nmB name ⟨#[110,117,108,108,105,102]⟩=true∧l.length=2 then(if(z1t (l.getD 0 z7) (l.getD 1 z7)).2=true∧(z1t (l.getD 0 z7) (l.getD 1 z7)).1=0 then z7 else l.getD 0 z7)
 else z1ag name l
theorem z20t(s:List Val)(o:Val→Prop)(f:Val→Bool):z3e s o f<(s.length:Int)∨z3e s o f=-1:=by
 unfold z3e;cases h:s.findIdx? f with
 |none=>exact .inr rfl
 |some i=>
  obtain⟨h1,_,_⟩:=y2f.1 h;exact .inl (by show(i:Int)<_;omega)
theorem z1mb{β:Type}(x y:Option β):cndO false x y=y:=rfl
theorem z1mc{β:Type}(x y:Option β):cndO true x y=x:=rfl
theorem z2cz(name:ByteArray)(l:List Val)(hl:l.length=1)(h:txts l):zdf name l=some (zx1 (z1af name (l.getD 0 z7))):=by
 have hm:(l.getD 0 z7).s.size≤2000000:=h.2 _ (by rw[yd,y9 (by omega)];exact y21 _);unfold zdf z1af nmB;generalize l.getD 0 z7=x at hm;have p0:∀y:Option (RF Un),obO ((0:Int)≤(0:Int)∧(0:Int)<(l.length:Int)) y=y:=fun y=>z6 (by omega);have p1:∀y:Option (RF Un),obO (x.s.size≤2000000) y=y:=fun y=>z6 hm;simp only[p0,p1];generalize(name.toList==(ByteArray.mk #[108,101,110,103,116,104]).toList)=q1;generalize(name.toList==(ByteArray.mk #[108,111,119,101,114]).toList)=q2;generalize(name.toList==(ByteArray.mk #[117,112,112,101,114]).toList)=q3;by_cases h3:x.kind=3
 ·have e3:(x.kind !=3)=false:=by simp[h3]
  rw[e3,z1mb,if_neg (fun e=>e h3)];cases q1<;>cases q2<;>cases q3<;>rfl
 ·have e3:(x.kind !=3)=true:=by simp[h3]
  rw[e3,z1mc,if_pos h3]
theorem z2d0(name:ByteArray)(l:List Val)(h:txts l):zdg name l=some (zx1 (z1ag name l)):=by
 unfold zdg z1ag;by_cases hl:l.length=1
 ·have e0:((l.length:Int) !=1)=false:=by rw[hl];rfl
  rw[e0,z1mb,if_neg (fun e=>e hl),z2cz name l hl h];have hb:(name.toList==(ByteArray.mk #[97,98,115]).toList)=nmB name ⟨#[97,98,115]⟩:=rfl;rw[hb];cases nmB name ⟨#[97,98,115]⟩
  ·rw[z1mb,if_neg (fun e=>by simp at e)]
  ·rw[z1mc,z6 (by omega)];by_cases hk:(l.getD 0 z7).kind=2
   ·have ek:((l.getD 0 z7).kind ==2)=true:=by rw[hk];rfl
    rw[ek,z1mc,z6 (by omega),if_pos ⟨rfl,hk⟩,z8];by_cases hn:(l.getD 0 z7).n<0
    ·rw[if_pos (decide_eq_true hn),if_pos hn]
    ·rw[if_neg (fun e=>hn (of_decide_eq_true e)),if_neg hn]
   ·have ek:((l.getD 0 z7).kind ==2)=false:=by rw[beq_eq_false_iff_ne];exact hk
    rw[ek,z1mb,if_neg (fun e=>hk e.2)]
 ·have e0:((l.length:Int) !=1)=true:=by simp;omega
  rw[e0,z1mc,if_pos hl]
theorem z18d(name:ByteArray)(l:List Val)(_hn:WStr name)(_hl:WL .val l)(h:txts l):zu8 name l=some (zx1 (z8h name l)):=by
 have o1:z18 z2l=fun _=>True:=by unfold z2l;exact zj4 _ _
 have o2:z1m z2l=zec:=by unfold z2l;exact zj3 _ _
 have o3:z2l=zw (z18 z2l) (z1m z2l):=by rw[o1,o2];rfl
 rw[z1h0,z6 o3,o1,o2,z6 (show zb9 _ l from fun _ _=>trivial),z2d0 name l h];unfold z8h z20s;have hb:(name.toList==(ByteArray.mk #[99,111,97,108,101,115,99,101]).toList)=nmB name ⟨#[99,111,97,108,101,115,99,101]⟩:=rfl;have hb2:(name.toList==(ByteArray.mk #[110,117,108,108,105,102]).toList)=nmB name ⟨#[110,117,108,108,105,102]⟩:=rfl;rw[hb,hb2];generalize nmB name ⟨#[99,111,97,108,101,115,99,101]⟩=q1;generalize nmB name ⟨#[110,117,108,108,105,102]⟩=q2;cases q1
 ·rw[z8,if_neg (by decide),if_neg (by decide)];cases q2
  ·rw[z8,if_neg (by decide),if_neg (fun e=>by simp at e)]
  ·rw[z8,if_pos rfl,z8];by_cases h2:l.length=2
   ·rw[if_pos (by simp;omega),if_pos ⟨rfl,h2⟩,z6 (by omega),z6 (by omega),z6 (by omega)];cases(z1t (l.getD 0 z7) (l.getD 1 z7)).2
    ·rw[if_neg (fun e=>by simp at e)];rfl
    ·simp only[z8,y48,bne_iff_ne,ne_eq];by_cases h5:(z1t (l.getD 0 z7) (l.getD 1 z7)).1=0
     ·rw[if_neg (by decide),if_neg (fun e=>e h5),if_pos ⟨trivial,h5⟩]
     ·rw[if_neg (by decide),if_pos h5,if_neg (fun e=>h5 e.2)]
   ·rw[if_neg (by simp;omega),if_neg (fun e=>h2 e.2)]
 ·rw[z8,if_pos rfl,if_pos rfl,z8];have hlt:=z20t l (fun _=>True) zec;by_cases h3:0≤z3e l (fun _=>True) zec
  ·rw[if_pos (decide_eq_true h3),if_pos h3,z6 (by omega)]
  ·rw[if_neg (fun e=>h3 (of_decide_eq_true e)),if_neg h3]
def zw0:FnC Un:=fnF2 dStr (dL .val) fun name l=>([txts l],zx1 (z8h name l))
theorem z1h1:FnOK 170 zw0:=fnK2 z4l z11 (M:=zvz) rfl ⟨z186,zjc,z1lo,zzo,zb1,zc4,z1gx,z18b,trivial⟩ ⟨z250,trivial⟩ trivial trivial trivial Tryz.func170 fun name l=>GiF.r fun w o=>z18d name l (wfA_ w 0) (wfA_ w 1) (obA_ o 0)
end
end B
namespace B
open Go Go.RowKit
set_option maxRecDepth 100000
noncomputable section
attribute [local irreducible] awp ctxK zx z1f retQ z1l awf ctxF z1k
def z1md(op:Int)(name:ByteArray)(l:List Val):Val:=
 if op=3 then(if z4t l 2=true then z48 (zcn (l.getD 0 z7).n).1 (zcn (l.getD 0 z7).n).2 else z7)
 else if op=4 then z60 (zzk (z3v (l.getD 0 z7)))
 else if op=19 then z2y ((l.getD 0 z7).kind ==0)
 else if op=5∨op=6∨op=7∨op=8∨op=9 then(if z4t l 2=true then z48 (twoN op (l.getD 0 z7).n (l.getD 1 z7).n).1 (twoN op (l.getD 0 z7).n (l.getD 1 z7).n).2 else z7)
 else if op=10 then(if z4t l 3=true then(if(l.getD 0 z7).s.size+(l.getD 1 z7).s.size≤100 then z9a ((l.getD 0 z7).s++(l.getD 1 z7).s)else z7)else z7)
 else if op=11∨op=12∨op=13∨op=14∨op=15∨op=16 then cmpO op (l.getD 0 z7) (l.getD 1 z7)
 else if op=17 then z69 zjt (l.getD 0 z7) (l.getD 1 z7)
 else if op=18 then z69 z8p (l.getD 0 z7) (l.getD 1 z7)
 else if op=20 then(if z4t l 3=true then z2y (zlt (l.getD 0 z7).s (l.getD 1 z7).s)else z7)
 else if op=21 then zfn (l.getD 0 z7) (l.drop 1)
 else if op=22 then z69 zjt (cmpO 16 (l.getD 0 z7) (l.getD 1 z7)) (cmpO 14 (l.getD 0 z7) (l.getD 2 z7))
 else if op=23 then zly l
 else if op=24 then z8h name l
 else z7
def cntN(op:Int):Int×Bool:=if op=3∨op=4∨op=19 then(1,false)else if op=22 then(3,false)else if op=21∨op=23 then(2,true)else if op=24 then(0,true)else(2,false)
def zw1(op:Int):Option (RF Un):=fnF_ z1bz z23g Tryz.f156 0 [.d,.d] [.d (.v (.s (.int .i64 op)))]
theorem z1me(op:Int):zw1 op=cndO (op==3) (some (zl1 ((1:Int),false))) (cndO (op==4) (some (zl1 ((1:Int),false))) (cndO (op==19) (some (zl1 ((1:Int),false))) (cndO (op==22) (some (zl1 ((3:Int),false))) (cndO (op==21) (some (zl1 ((2:Int),true))) (cndO (op==23) (some (zl1 ((2:Int),true))) (cndO (op==24) (some (zl1 ((0:Int),true))) (some (zl1 ((2:Int),false))))))))):=by kernel_rfl
def za3(op:Int):Int×Bool:=cntN op
theorem z1ba(op:Int)(_h:WI op):zw1 op=some (zl1 (za3 op)):=by
 rw[z1me];unfold za3 cntN;simp only[z8,y1f,beq_iff_eq];grind
def zzt:FnC Un:=fnF1 (dI .i64) fun op=>([],zl1 (za3 op))
theorem z1mf:FnOK 156 zzt:=fnK1 z1a (M:=z1bz) rfl trivial trivial trivial trivial trivial Tryz.func156 fun op=>GiF.r fun w _=>z1ba op (wfA_ w 0)
def zzu:Mc Un:=mcF_ [(156,zzt),(157,zzm),(159,z17v),(158,zqr),(161,zde),(160,z1tv),(155,zeb),(39,zcp),(162,zu4),(163,zxz),(164,zbz),(165,zqs),(167,z184),(168,zzq),(169,zzr),(170,zw0)] [(166,z6y),(153,zdd)] [] [] []
def zw2(op:Int)(l:List Val):=z48 (twoN op (l.getD 0 z7).n (l.getD 1 z7).n).fst (twoN op (l.getD 0 z7).n (l.getD 1 z7).n).snd
def zw3(l:List Val):=z69 (z12 z6y) (l.getD 0 z7) (l.getD 1 z7)
def zw4(l:List Val):=z69 (z12 zdd) (l.getD 0 z7) (l.getD 1 z7)
def zw5(l:List Val):=z69 (z12 z6y) (cmpO (16:Int) (l.getD 0 z7) (l.getD 1 z7)) (cmpO (14:Int) (l.getD 0 z7) (l.getD 2 z7))
def zw6(op:Int)(name:ByteArray)(l:List Val):Option (RF Un):=fnF_ zzu z23g Tryz.f120 0 [.d] [.d (.v (.s (.int .i64 op))),.d (.v (cs name)),.d (.v (.dat (U:=Un) Ty.val l))]
def z8b(op:Int)(l:List Val):Option (RF Un):=cndO (z4t l (2:Int)) (obO (5≤op∧op≤9) (obO ((0:Int)≤(0:Int)∧(0:Int)<(↑l.length:Int)) (obO ((0:Int)≤(1:Int)∧(1:Int)<(↑l.length:Int)) (some (zx1 (zw2 op l)))))) (some (zx1 (z7)))
def z6o(op:Int)(l:List Val):Option (RF Un):=obO ((0:Int)≤(0:Int)∧(0:Int)<(↑l.length:Int)) (obO ((0:Int)≤(1:Int)∧(1:Int)<(↑l.length:Int)) (obO (11≤op∧op≤16) (some (zx1 (cmpO op (l.getD 0 z7) (l.getD 1 z7))))))
def zel(op:Int)(name:ByteArray)(l:List Val):Option (RF Un):=cndO (op==3) (cndO (z4t l (2:Int)) (obO ((0:Int)≤(0:Int)∧(0:Int)<(↑l.length:Int)) (some (zx1 (z48 (zcn (l.getD 0 z7).n).fst (zcn (l.getD 0 z7).n).snd)))) (some (zx1 (z7)))) (cndO (op==4) (obO ((0:Int)≤(0:Int)∧(0:Int)<(↑l.length:Int)) (some (zx1 (z60 (zzk (z3v (l.getD 0 z7))))))) (cndO (op==19) (obO ((0:Int)≤(0:Int)∧(0:Int)<(↑l.length:Int)) (some (zx1 (z2y ((l.getD 0 z7).kind ==0))))) (cndO (op==5) (z8b op l) (cndO (op==6) (z8b op l) (cndO (op==7) (z8b op l) (cndO (op==8) (z8b op l) (cndO (op==9) (z8b op l) (cndO (op==10) (cndO (z4t l (3:Int)) (obO ((0:Int)≤(0:Int)∧(0:Int)<(↑l.length:Int)) (obO ((0:Int)≤(1:Int)∧(1:Int)<(↑l.length:Int)) (cndO (decide (IntKind.i64.wrap ((↑(l.getD 0 z7).s.size:Int)+(↑(l.getD 1 z7).s.size:Int))≤100)) (obO ((0:Int)≤(0:Int)∧(0:Int)<(↑l.length:Int)) (obO ((0:Int)≤(1:Int)∧(1:Int)<(↑l.length:Int)) (obO ((l.getD 0 z7).s.size+(l.getD 1 z7).s.size≤(9223372036854775807:Nat)) (some (zx1 (z9a ((l.getD 0 z7).s++(l.getD 1 z7).s))))))) (some (zx1 (z7)))))) (some (zx1 (z7)))) (cndO (op==11) (z6o op l) (cndO (op==12) (z6o op l) (cndO (op==13) (z6o op l) (cndO (op==14) (z6o op l) (cndO (op==15) (z6o op l) (cndO (op==16) (z6o op l) (cndO (op==17) (obO ((0:Int)≤(0:Int)∧(0:Int)<(↑l.length:Int)) (obO ((0:Int)≤(1:Int)∧(1:Int)<(↑l.length:Int)) (obO (z6y=z1h (z12 z6y)) (some (zx1 (zw3 l)))))) (cndO (op==18) (obO ((0:Int)≤(0:Int)∧(0:Int)<(↑l.length:Int)) (obO ((0:Int)≤(1:Int)∧(1:Int)<(↑l.length:Int)) (obO (zdd=z1h (z12 zdd)) (some (zx1 (zw4 l)))))) (cndO (op==20) (cndO (z4t l (3:Int)) (obO ((0:Int)≤(0:Int)∧(0:Int)<(↑l.length:Int)) (obO ((0:Int)≤(1:Int)∧(1:Int)<(↑l.length:Int)) (obO ((l.getD 0 z7).s.size≤(2000000:Nat)) (obO ((l.getD 1 z7).s.size≤(2000000:Nat)) (some (zx1 (z2y (zlt (l.getD 0 z7).s (l.getD 1 z7).s)))))))) (some (zx1 (z7)))) (cndO (op==21) (obO ((0:Int)≤(0:Int)∧(0:Int)<(↑l.length:Int)) (obO ((0:Int)≤(1:Int)∧(1:Int)≤(↑l.length:Int)) (obO ((List.drop 1 l).length≤(2000000:Nat)) (some (zx1 (zfn (l.getD 0 z7) (List.drop 1 l))))))) (cndO (op==22) (obO ((0:Int)≤(0:Int)∧(0:Int)<(↑l.length:Int)) (obO ((0:Int)≤(1:Int)∧(1:Int)<(↑l.length:Int)) (obO ((11:Int)≤(16:Int)∧(16:Int)≤(16:Int)) (obO ((0:Int)≤(0:Int)∧(0:Int)<(↑l.length:Int)) (obO ((0:Int)≤(2:Int)∧(2:Int)<(↑l.length:Int)) (obO ((11:Int)≤(14:Int)∧(14:Int)≤(16:Int)) (obO (z6y=z1h (z12 z6y)) (some (zx1 (zw5 l)))))))))) (cndO (op==23) (some (zx1 (zly l))) (cndO (op==24) (obO (txts l) (some (zx1 (z8h name l)))) (some (zx1 (z7))))))))))))))))))))))))
theorem z1mg(op:Int)(name:ByteArray)(l:List Val):zw6 op name l=cndO (decide ((↑l.length:Int)<(za3 op).fst)) (some (zx1 (z7))) (cndO (!(za3 op).snd) (cndO (decide ((↑l.length:Int)>(za3 op).fst)) (some (zx1 (z7))) (zel op name l)) (zel op name l)):=by kernel_rfl
def z1y(op:Int)(name:ByteArray)(l:List Val):Val:=if(l.length:Int)<(cntN op).1∨((cntN op).2=false∧(l.length:Int)>(cntN op).1)then z7 else z1md op name l
theorem z18e(op:Int)(name:ByteArray)(l:List Val)(h:txts l)(hn:¬((l.length:Int)<(cntN op).1∨((cntN op).2=false∧(l.length:Int)>(cntN op).1))):zel op name l=some (zx1 (z1md op name l)):=by
 have hlen:=h.1;have ht:∀i,i<l.length→(l.getD i z7).s.size≤2000000:=fun i hi=>h.2 _ (by grind);have hvA:z6y=z1h (z12 z6y):=by rfl
 have hfA:z12 z6y=zjt:=by rfl
 have hvO:zdd=z1h (z12 zdd):=by rfl
 have hfO:z12 zdd=z8p:=by rfl
 unfold zel z1md;simp only[zyt];simp only[z8,y1f,beq_iff_eq];by_cases h3:op=3
 ·have hc:l.length=1:=by have:cntN 3=(1,false):=rfl;grind
  grind[z6]
 rw[if_neg h3,if_neg h3];by_cases h4:op=4
 ·have hc:l.length=1:=by have:cntN 4=(1,false):=rfl;grind
  simp_all[if_pos,z6]
 rw[if_neg h4,if_neg h4];by_cases h19:op=19
 ·have hc:l.length=1:=by have:cntN 19=(1,false):=rfl;grind
  simp_all[if_pos,z6]
 by_cases h5:op=5∨op=6∨op=7∨op=8∨op=9
 ·have hc:l.length=2:=by
   have:cntN op=(2,false):=by unfold cntN;grind
   grind
  grind[z8b,zw2,z8,z6]
 rw[if_neg (by omega),if_neg h5];by_cases h10:op=10
 ·have hc:l.length=2:=by have:cntN 10=(2,false):=rfl;grind
  have a0:=ht 0 (by omega);have a1:=ht 1 (by omega);rw[if_pos h10,if_pos h10];split
  ·rw[z6 (by omega),z6 (by omega),z1u (by omega)];by_cases hs:(l.getD 0 z7).s.size+(l.getD 1 z7).s.size≤100
   ·rw[if_pos (by grind),if_pos hs,z6 (by omega),z6 (by omega),z6 (by omega)]
   grind
  rfl
 by_cases h11:op=11∨op=12∨op=13∨op=14∨op=15∨op=16
 ·have hc:l.length=2:=by
   have:cntN op=(2,false):=by unfold cntN;grind
   grind
  grind[z6o,z6]
 by_cases h17:op=17
 ·have hc:l.length=2:=by have:cntN 17=(2,false):=rfl;grind
  simp_all[if_pos,z6,zw3]
 by_cases h18:op=18
 ·have hc:l.length=2:=by have:cntN 18=(2,false):=rfl;grind
  simp_all[if_pos,z6,zw4]
 by_cases h20:op=20
 ·have hc:l.length=2:=by have:cntN 20=(2,false):=rfl;grind
  grind[z6]
 by_cases h21:op=21
 ·have hc:2≤l.length:=by have:cntN 21=(2,true):=rfl;grind
  grind[z6,List.length_drop]
 by_cases h22:op=22
 ·have hc:l.length=3:=by have:cntN 22=(3,false):=rfl;grind
  simp_all[if_pos,z6,trans,zw5]
 by_cases h23:op=23
 ·grind
 by_cases h24:op=24
 all_goals simp_all[if_pos,z6,if_neg]
theorem z1bb(op:Int)(name:ByteArray)(l:List Val)(_ho:WI op)(_hn:WStr name)(_hl:WL .val l)(h:txts l):zw6 op name l=some (zx1 (z1y op name l)):=by
 rw[z1mg];unfold z1y za3;by_cases h1:(l.length:Int)<(cntN op).1
 ·simp_all[z8,if_pos,decide_eq_true]
 by_cases h2:(cntN op).2=false∧(l.length:Int)>(cntN op).1
 ·simp_all[if_pos,z8,decide_eq_true]
 ·rw[if_neg (fun e=>e.elim h1 h2),z18e op name l h (fun e=>e.elim h1 h2)]
  all_goals simp_all[z8,if_pos,if_neg,of_decide_eq_true]
def zn8:FnC Un:=fnF3 (dI .i64) dStr (dL .val) fun op name l=>([txts l],zx1 (z1y op name l))
theorem zw7:FnOK 120 zn8:=fnK3 z1a z4l z11 (M:=zzu) rfl ⟨z1mf,z1m4,z1lo,zzo,zhu,z290,zlr,zqq,z1w7,z18b,zpv,z1qj,z1w4,z1m6,z1m8,z1h1,trivial⟩ ⟨z24n,z294,trivial⟩ trivial trivial trivial Tryz.func120 fun op name l=>GiF.r fun w o=>z1bb op name l (wfA_ w 0) (wfA_ w 1) (wfA_ w 2) (obA_ o 0)
end
end B
namespace B
open Go Go.RowKit
set_option maxRecDepth 100000
noncomputable section
attribute [local irreducible] awp ctxK zx z1f retQ z1l awf ctxF z1k
def colV(depth at_:Int)(env:List (List Val)):Val:=if 0≤depth∧depth<(env.length:Int)∧0≤at_∧at_<((env.getD depth.toNat []).length:Int)then(env.getD depth.toNat []).getD at_.toNat z7 else z7
mutual
def zw8(ap:Int→ByteArray→List Val→Val)(env:List (List Val)):Term→Val
 | .mk op v depth at_ name kids _ _=>if op=1 then v else if op=2 then colV depth at_ env else if op=26∨op=27∨op=28 then z7 else ap op name (zhw ap env kids)
def zhw(ap:Int→ByteArray→List Val→Val)(env:List (List Val)):List Term→List Val
 |[]=>[]
 |t::l=>zw8 ap env t::zhw ap env l
end
theorem z20u(ap:Int→ByteArray→List Val→Val)(env:List (List Val))(t:Term):zw8 ap env t=if t.op=1 then t.v else if t.op=2 then colV t.depth t.at_ env else if t.op=26∨t.op=27∨t.op=28 then z7 else ap t.op t.name (zhw ap env t.kids):=by cases t;simp only[zw8];rfl
theorem z129(ap:Int→ByteArray→List Val→Val)(env:List (List Val)):∀l:List Term,zhw ap env l=l.map (zw8 ap env)
 |[]=>rfl
 |t::l=>by simp only[zhw,yr,z129 ap env l]
end
end B
namespace B
open Go Go.RowKit
set_option maxRecDepth 100000
noncomputable section
attribute [local irreducible] awp ctxK zx z1f retQ z1l awf ctxF z1k
def z17(v:Val):Prop:=v.s.size≤2000000
mutual
def strT:Term→Prop
 | .mk _ v _ _ _ kids _ _=>v.s.size≤2000000∧zs6 kids
def zs6:List Term→Prop
 |[]=>True
 |t::l=>strT t∧zs6 l
end
theorem z1ah(t:Term):strT t↔(t.v.s.size≤2000000∧zs6 t.kids):=by cases t;simp only[strT,Term.v_mk,Term.kids_mk]
theorem strTs_mem:∀{l:List Term},zs6 l↔∀t∈l,strT t
 |[]=>by simp[zs6]
 |t::l=>by simp only[zs6,yf,forall_eq_or_imp,strTs_mem (l:=l)]
def z5p(env:List (List Val)):Prop:=∀r∈env,∀v∈r,z17 v
theorem z3g:z17 z7:=ya _
theorem zw9(n:Int):z17 (zd n):=ya _
theorem z1mh(n:Int)(b:Bool):z17 (z48 n b):=by
 unfold z48;split
 ·exact z3g
 ·exact zw9 n
theorem z1mi(b:Bool):z17 (z2y b):=by rw[zvs];exact ya _
theorem zwa(a:Int):z17 (z60 a):=by
 unfold z60
 repeat' split
 all_goals exact ya _
theorem z2d1(op:Int)(a b:Val):z17 (cmpO op a b):=by
 unfold cmpO;split
 ·exact ya _
 ·exact z3g
theorem zs7{l:List Val}(h:∀x∈l,z17 x)(i:Nat):z17 (l.getD i z7):=by
 rw[yd];cases e:l[i]? with
 |none=>exact z3g
 |some v=>exact h v (ye e)
theorem z1dz:∀(l:List Val),(∀x∈l,z17 x)→z17 (zu7 l)
 |[],_=>z3g
 |[x],h=>h x (by simp)
 |c::v::r,h=>by
  simp only[zu7];split
  ·exact h v (by simp)
  ·exact z1dz r fun x hx=>h x (by simp[hx])
theorem z1ua{c:Prop}[Decidable c]{a b:Val}(ha:c→z17 a)(hb:¬c→z17 b):z17 (if c then a else b):=by split<;>simp_all
theorem z20v(name:ByteArray){l:List Val}(h:∀x∈l,z17 x):z17 (z8h name l):=by
 have g:=zs7 h;have gt:∀(x:Val) f b,z17 x→z17 (z9a (zlv x.s f b)):=fun x f b hx=>by
  show(zlv x.s f b).size≤2000000;rw[z128];exact hx
 unfold z8h z20s z1ag z1af
 repeat' split
 all_goals first|exact z3g|exact g _|exact z1mh _ _|exact zw9 _|exact gt _ _ _ (g _)
theorem z1e0(op:Int)(name:ByteArray){l:List Val}(h:∀x∈l,z17 x):z17 (z1y op name l):=by
 have g:=zs7 h;unfold z1y;split
 ·exact z3g
 unfold z1md
 repeat' (first|refine z1ua (fun _=>?_) (fun _=>?_)|exact z3g|exact z1mh _ _|exact z1mi _|exact z2d1 _ _ _|exact zwa _|(unfold z69;exact zwa _)|(unfold zfn;exact zwa _)|exact z1dz l h|exact z20v name h)
 all_goals first
  |exact g _
  |(show(zlv _ _ _).size≤2000000;rw[z128];exact g _)
  |(rename_i hs;show(_++_:ByteArray).size≤2000000;rw[ByteArray.size_append];omega)
theorem z2d2{env:List (List Val)}(h:z5p env)(d a:Int):z17 (colV d a env):=by
 unfold colV;split
 ·rename_i hc;have hm:env.getD d.toNat []∈env:=by
   rw[yd,y9 (by omega)];exact y21 _
  exact zs7 (h _ hm) _
 ·exact z3g
mutual
theorem z1mj{env:List (List Val)}(h:z5p env):∀t:Term,strT t→z17 (zw8 z1y env t)
 | .mk op v depth at_ name kids _ _,ht=>by
  simp only[strT]at ht;simp only[zw8];split
  ·exact ht.1
  ·split
   ·exact z2d2 h _ _
   ·split
    ·exact z3g
    ·exact z1e0 _ _ (zy0 h kids ht.2)
theorem zy0{env:List (List Val)}(h:z5p env):∀l:List Term,zs6 l→∀x∈zhw z1y env l,z17 x
 |[],_=>by simp[zhw]
 |t::l,ht=>by
  simp only[zs6]at ht;simp only[zhw,yf,forall_eq_or_imp];exact⟨z1mj h t ht.1,zy0 h l ht.2⟩
end
def z4a(t:Term)(env:List (List Val)):Val:=zw8 z1y env t
def zn9(m:Nat):FnC Un:=fnF2 (dS .term) (dL .row) fun t env=>z2m (t.ht) m ([t.sz≤2000000,strT t,z5p env],zx1 (z4a t env))
def zir(m:Nat):Mc Un:=mcF_ [(117,zn9 m),(120,zn8)] [] [] [] []
def zqt:Nat→NS:=nsF_ [(14,{ts:=bl 81 32281802128991715382,bs:=bl 81 20,nm:=[(.sl 5,324)],cs:=true})] true
def z6p(t:Term)(env:List (List Val))(v0:Int)(v1:List Val):S Un:=(st 81 81 325 0 [(1,al .row env),(2,ax 2),(4,ax 4),(5,ao 324),(62,al .term t.kids),(63,ai (↑t.kids.length:Int)),(64,ai v0)] [(2,bg .term t),(4,bg .val z7)] [(324,some ⟨(0:Nat),Ty.val,v1,some (0:Nat),true⟩)])
def zba(m:Nat):S Un→Option (EX Un):=lpF_ (zir m) zqt Tryz.f117 [1,1,1,0,1,2,2] 14
def zlz(m:Nat):Exit→S Un→Option (RF Un):=cxF_ (zir m) zqt Tryz.f117 [1,1,1,0,1,2] [.d]
def zzv(m:Nat)(t:Term)(env:List (List Val)):Option (RF Un):=fnF_ (zir m) zqt Tryz.f117 1 [.d] [.d (.agg (enc Ty.term t)),.d (.v (.dat (U:=Un) Ty.row env))]
theorem z1qm(m:Nat)(t:Term)(env:List (List Val)):zzv m t env=cndO (t.op==1) (some (zx1 (t.v))) (cndO (t.op==2) (cndO (decide (t.depth≥0)) (cndO (decide (t.depth<(↑env.length:Int))) (cndO (decide (t.at_≥0)) (obO (0≤t.depth∧t.depth<(↑env.length:Int)) (cndO (decide (t.at_<(↑(List.length (env.getD t.depth.toNat [])):Int))) (obO (0≤t.depth∧t.depth<(↑env.length:Int)) (obO (0≤t.at_∧t.at_<(↑(List.length (env.getD t.depth.toNat [])):Int)) (some (zx1 (List.getD (env.getD t.depth.toNat []) t.at_.toNat z7))))) (some (zx1 (z7))))) (some (zx1 (z7)))) (some (zx1 (z7)))) (some (zx1 (z7)))) (cndO (t.op==26) (some (zx1 (z7))) (cndO (t.op==27) (some (zx1 (z7))) (cndO (t.op==28) (some (zx1 (z7))) (obO ((0:Int)≤(0:Int)∧(0:Int)≤(↑t.kids.length:Int)∧(↑t.kids.length:Int).toNat*(32:Nat)≤zi) ((zba m (z6p t env (0:Int) ([]))).bind (ze (zlz m)))))))):=by kernel_rfl
theorem zwb(m:Nat)(t:Term)(env:List (List Val))(v0:Int)(v1:List Val):zba m (z6p t env v0 v1)=cndO (decide (v0<(↑t.kids.length:Int))) (obO (0≤v0∧v0<(↑t.kids.length:Int)) (obO ((Term.ids (t.kids.getD v0.toNat zb)).ht<m) (obO ((Term.ids (t.kids.getD v0.toNat zb)).sz≤(2000000:Nat)) (obO (strT (Term.ids (t.kids.getD v0.toNat zb))) (obO (z5p env) (obO ((v1.length+[(z4a (Term.ids (t.kids.getD v0.toNat zb)) env)].length)*(32:Nat)≤zi) (zba m (z6p t env (IntKind.i64.wrap (v0+1)) (v1++[(z4a (Term.ids (t.kids.getD v0.toNat zb)) env)]))))))))) (some (.exit 1,(z6p t env v0 v1))):=lpQ_ (by kernel_rfl)
theorem z18f(m:Nat)(t:Term)(env:List (List Val))(v0:Int)(v1:List Val):zlz m (.exit 1) (z6p t env v0 v1)=obO (txts v1) (some (zx1 (z1y t.op t.name v1))):=by kernel_rfl
theorem z2d3(m:Nat)(t:Term)(env:List (List Val))(ht:WS .term t)(hm:t.ht<m+1)(h1:t.sz≤2000000)(h2:strT t)(h3:z5p env):
  (zba m (z6p t env (0:Int) [])).bind (ze (zlz m))=some (zx1 (z1y t.op t.name (zhw z1y env t.kids))):=by
 have hk:WL .term t.kids:=ht.term_kids;have hsz:=t.sz_eq;have hlen:=z5t t.kids;have hst:=(z1ah t).1 h2
 obtain⟨lp,_⟩:=z1p (e:=.exit 1) (L:=zba m) (st:=fun(o:List Val) i=>z6p t env i o) (l:=t.kids) (d:=zb) (g:=fun o x=>o++[z4a x env]) (fun i o=>o.length=i) hk.len
  (fun o i x hi hx hI=>by
   have hI':o.length=i:=hI;have hmem:x∈t.kids:=by rw[←hx,yd,y9 (by omega)];exact y21 _
   refine⟨by show(o++[_]).length=i+1;rw[yb,yg];omega,?_⟩;have hht:=Term.ht_kid hmem;have hxs:=zj5 hmem;rw[zwb];simp only[z8,hi,decide_true,if_true,and_true,y5,hx,Term.ids_eq]
   rw[z6 (by omega),z6 (by omega),z6 (by omega),z6 (strTs_mem.1 hst.2 x hmem),z6 h3,z6 (by unfold zi;rw[yg];omega)])
  (fun o _=>by rw[zwb];simp[z8]) [] rfl
 rw[zfo,yz]at lp;have he:t.kids.map (fun x=>z4a x env)=zhw z1y env t.kids:=(z129 _ _ _).symm;rw[he]at lp;refine(zg lp).trans ?_;rw[z18f,z6];refine⟨by rw[z129,yq];omega,zy0 h3 t.kids hst.2⟩
theorem z1h2(m:Nat)(t:Term)(env:List (List Val))(ht:WS .term t)(_he:WL .row env)(hm:t.ht<m+1)(h1:t.sz≤2000000)(h2:strT t)(h3:z5p env):zzv m t env=some (zx1 (z4a t env)):=by
 have hlen:=z5t t.kids;have hsz:=t.sz_eq;rw[z1qm,z2d3 m t env ht hm h1 h2 h3];have e:z4a t env=zw8 z1y env t:=rfl;rw[e,z20u];simp only[zyt];simp only[z8,y1f,beq_iff_eq,decide_eq_true_eq];by_cases c1:t.op=1
 ·rw[if_pos c1,if_pos c1]
 rw[if_neg c1,if_neg c1];by_cases c2:t.op=2
 ·rw[if_pos c2,if_pos c2];unfold colV;by_cases d1:t.depth≥0
  ·rw[if_pos d1];by_cases d2:t.depth<(env.length:Int)
   ·rw[if_pos d2];by_cases d3:t.at_≥0
    ·rw[if_pos d3,z6 ⟨d1,d2⟩];by_cases d4:t.at_<((env.getD t.depth.toNat []).length:Int)
     ·rw[if_pos d4,if_pos ⟨d1,d2,d3,d4⟩,z6 ⟨d1,d2⟩,z6 ⟨d3,d4⟩]
     ·rw[if_neg d4,if_neg (fun e=>d4 e.2.2.2)]
    ·rw[if_neg d3,if_neg (fun e=>d3 e.2.2.1)]
   ·rw[if_neg d2,if_neg (fun e=>d2 e.2.1)]
  ·rw[if_neg d1,if_neg (fun e=>d1 e.1)]
 rw[if_neg c2,if_neg c2];by_cases c3:t.op=26∨t.op=27∨t.op=28
 ·rw[if_pos (by omega),if_pos c3]
 ·rw[if_neg (by omega),if_neg c3,z6 (by unfold zi;omega)]
abbrev z26g(m:Nat):Prop:=FnOK 117 (zn9 m)
theorem z1mk(m:Nat)(hG:z26g m):FnOK 117 (zn9 (m+1)):=fnK2 zr z11 (M:=(zir m)) rfl ⟨hG,zw7,trivial⟩ trivial trivial trivial trivial Tryz.func117 fun t env=>GiF.r fun w o=>z1h2 m t env (wfA_ w 0) (wfA_ w 1) (obA_ o 0) (obA_ o 1) (obA_ o 2) (obA_ o 3)
theorem z1e1:∀m,z26g m
 |0=>fnZ2
 |m+1=>z1mk m (z1e1 m)
def z141:FnC Un:=fnF2 (dS .term) (dL .row) fun t env=>([t.sz≤2000000,strT t,z5p env],zx1 (z4a t env))
theorem z1qn:FnOK 117 z141:=fnA2 fun m=>(z1e1 m)
end
end B
namespace B
open Go Go.RowKit
set_option maxRecDepth 100000
noncomputable section
attribute [local irreducible] awp ctxK zx z1f retQ z1l awf ctxF z1k
def z78:ByteArray:=⟨#[99,111,117,110,116]⟩
def nmSum:ByteArray:=⟨#[115,117,109]⟩
def zm0:ByteArray:=⟨#[109,105,110]⟩
def zou:ByteArray:=⟨#[109,97,120]⟩
def zbb:ByteArray:=⟨#[114,111,119,115]⟩
def zpx:ByteArray:=⟨#[]⟩
def numV(n:Int):Val:=⟨2,n,⟨#[]⟩⟩
open Classical in
def cntV(nm:ByteArray)(v:Val):Bool:=decide (v.kind≠0)&&z7o v&&(decide (nm≠nmSum)||decide (v.kind=2))
open Classical in
def addU(acc:List Val)(v:Val):List Val:=if v∈acc then acc else acc++[v]
theorem z20w:(ByteArray.mk #[99,111,117,110,116])=z78:=rfl
theorem z1ml:(ByteArray.mk #[115,117,109])=nmSum:=rfl
theorem z20x:(ByteArray.mk #[109,105,110])=zm0:=rfl
theorem z20y:(ByteArray.mk #[109,97,120])=zou:=rfl
theorem z1qo:(ByteArray.mk #[114,111,119,115])=zbb:=rfl
theorem z2i0:(ByteArray.mk #[])=zpx:=rfl
theorem zzw(a b:ByteArray):(a.toList==b.toList)=true↔a=b:=by grind[z1sx]
open Classical in
theorem z2fi(a b:ByteArray):(a.toList==b.toList)=decide (a=b):=by
 grind[decide_eq_true,zzw,decide_eq_false]
theorem z18g(a b:Int):cmpI b a=- cmpI a b:=by grind[cmpI]
theorem z1ub:∀a b:List UInt8,cmpL b a=- cmpL a b
 |[],[]=>rfl
 |[],_::_=>rfl
 |_::_,[]=>rfl
 |a::l,b::r=>by
  simp only[cmpL];by_cases h:a=b
  ·subst h;simp;exact z1ub l r
  ·rw[if_neg h,if_neg (Ne.symm h)];exact z18g _ _
theorem zjy(a b:Val):ordV b a=- ordV a b:=by
 unfold ordV;by_cases h:a.kind=b.kind
 ·rw[if_pos h,if_pos h.symm];by_cases h2:a.n=b.n
  ·rw[if_pos h2,if_pos h2.symm];exact z1ub _ _
  ·rw[if_neg h2,if_neg (Ne.symm h2)];exact z18g _ _
 ·rw[if_neg h,if_neg (Ne.symm h)];exact z18g _ _
theorem zbs{a b:Int}:cmpI a b<0↔a<b:=by grind[cmpI]
theorem z1mm:∀{a b c:List UInt8},cmpL a b<0→cmpL b c<0→cmpL a c<0
 |[],[],_,h,_=>by omega
 |[],_::_,[],_,h=>by grind[cmpL]
 |[],_::_,_::_,_,_=>by simp[cmpL]
 |_::_,[],_,h,_=>by grind[cmpL]
 |_::_,_::_,[],_,h=>by grind[cmpL]
 |a::l,b::r,c::t,h1,h2=>by
  simp only[cmpL]at h1 h2 ⊢;by_cases e1:a=b
  ·subst e1;by_cases e2:a=c
   ·subst e2;simp at h1 h2 ⊢;exact z1mm h1 h2
   grind
  ·rw[if_neg e1]at h1;by_cases e2:b=c
   ·grind
   ·rw[if_neg e2]at h2;rw[zbs]at h1 h2;have:a≠c:=by grind
    rw[if_neg this,zbs];omega
theorem zm1{a b c:Val}(h1:ordV a b<0)(h2:ordV b c<0):ordV a c<0:=by
 unfold ordV at h1 h2 ⊢;by_cases k1:a.kind=b.kind
 ·rw[if_pos k1]at h1;by_cases k2:b.kind=c.kind
  ·rw[if_pos k2]at h2;rw[if_pos (k1.trans k2)];by_cases n1:a.n=b.n
   ·rw[if_pos n1]at h1;by_cases n2:b.n=c.n
    ·rw[if_pos n2]at h2;rw[if_pos (n1.trans n2)];exact z1mm h1 h2
    grind
   ·rw[if_neg n1,zbs]at h1;by_cases n2:b.n=c.n
    ·simp_all[if_neg,zbs]
    ·rw[if_neg n2,zbs]at h2;rw[if_neg (by omega),zbs];omega
  grind
 ·rw[if_neg k1,zbs]at h1;by_cases k2:b.kind=c.kind
  ·simp_all[if_neg,zbs]
  ·rw[if_neg k2,zbs]at h2;rw[if_neg (by omega),zbs];omega
theorem z1uc(a:Val):ordV a a=0:=ordV_zero.2 rfl
def bigM:Int:=1000000000000000
open Classical in
def zdw(a:Agg):Acc:=
 if a.name=z78 then(if a.t=[]then⟨zbb,false,0,0,0,z7,[]⟩else⟨a.name,a.distinct,0,0,0,z7,[]⟩)
 else if a.name=nmSum∨a.name=zm0∨a.name=zou then⟨a.name,a.distinct,0,0,0,z7,[]⟩
 else⟨zpx,a.distinct,0,0,0,z7,[]⟩
open Classical in
def zjz(nm:ByteArray)(v:Val):Bool:=decide (nm=zbb)||cntV nm v
open Classical in
def za4(x:Acc)(v:Val):Acc:=
 if x.name=nmSum then⟨x.name,x.distinct,x.n+1,x.hi+(x.lo+v.n).tdiv bigM,(x.lo+v.n).tmod bigM,x.v,x.l⟩
 else if x.name=zm0 then⟨x.name,x.distinct,x.n+1,x.hi,x.lo,if x.n+1=1∨ordV v x.v<0 then v else x.v,x.l⟩
 else if x.name=zou then⟨x.name,x.distinct,x.n+1,x.hi,x.lo,if x.n+1=1∨ordV v x.v>0 then v else x.v,x.l⟩
 else⟨x.name,x.distinct,x.n+1,x.hi,x.lo,x.v,x.l⟩
def posV(l:List Val)(v:Val):Nat:=(l.takeWhile fun x=>ordV x v<0).length
open Classical in
def insV(l:List Val)(v:Val):List Val:=if v∈l then l else l.take (posV l v)++v::l.drop (posV l v)
def zgo(x:Acc)(v:Val):Acc:=
 if zjz x.name v=true then(if x.distinct=true then⟨x.name,x.distinct,x.n,x.hi,x.lo,x.v,insV x.l v⟩else za4 x v)else x
def z1mn(x:Acc):Val:=if x.n=0∨x.hi< -1∨x.hi>1 then z7 else if inN (x.hi*bigM+x.lo)then numV (x.hi*bigM+x.lo)else z7
open Classical in
def endA(x:Acc):Val:=
 if x.name=z78∨x.name=zbb then numV x.n else if x.name=nmSum then z1mn x else if x.name=zm0∨x.name=zou then x.v else z7
def zzx(x:Acc):Val:=endA (x.l.foldl za4 x)
def runA(a:Agg)(l:List Val):Val:=zzx (l.foldl zgo (zdw a))
theorem z29i{v:Val}(h:z7o v=true)(hk:v.kind=2): -bigM≤v.n∧v.n≤bigM:=by
 simp_all[z7o,inN,bigM]
theorem z2fj{v:Val}(h:cntV nmSum v=true): -bigM≤v.n∧v.n≤bigM:=by
 unfold cntV at h;simp at h;exact z29i h.1.2 h.2
theorem z2ki:z78≠nmSum∧z78≠zm0∧z78≠zou∧z78≠zbb∧nmSum≠zm0∧nmSum≠zou∧nmSum≠zbb∧zm0≠zou∧zm0≠zbb∧zou≠zbb∧zpx≠z78∧zpx≠nmSum∧zpx≠zm0∧zpx≠zou∧zpx≠zbb:=by
 simp[z78,nmSum,zm0,zou,zbb,zpx]
theorem z2jz{n:Int}:n.tdiv bigM*bigM+n.tmod bigM=n:=by rw[Int.mul_comm];exact Int.mul_tdiv_add_tmod n bigM
theorem z2fk(n:Int): -bigM<n.tmod bigM∧n.tmod bigM<bigM:=by
 have hb:(0:Int)<bigM:=by decide
 refine⟨?_,Int.tmod_lt_of_pos n hb⟩;have:=Int.tmod_lt_of_pos (-n) hb;rw[Int.neg_tmod]at this;omega
theorem z2fl{n:Int}(h1:-2*bigM<n)(h2:n<2*bigM): -1≤n.tdiv bigM∧n.tdiv bigM≤1:=by
 unfold bigM at*;grind
theorem z1e2(x:Acc)(v:Val):(za4 x v).l=x.l∧(za4 x v).distinct=x.distinct∧(za4 x v).name=x.name:=by
 unfold za4;grind
theorem z26h(l:List Val)(v:Val):posV l v≤l.length:=(y4s _).length_le
theorem z2fm(l:List Val)(v u:Val):u∈insV l v↔u∈l∨u=v:=by
 unfold insV;split
 ·grind
 ·rw[yc,yf];have:u∈l↔u∈l.take (posV l v)∨u∈l.drop (posV l v):=by rw[←yc,y1o]
  rw[this];constructor
  ·rintro(h|h|h);exact .inl (.inl h);exact .inr h;exact .inl (.inr h)
  ·rintro((h|h)|h);exact .inl h;exact .inr (.inr h);exact .inr (.inl h)
theorem z142{p:Val→Bool}:∀(l:List Val),∀u∈l.takeWhile p,p u=true
 |[],u,h=>by simp at h
 |a::l,u,h=>by
  rw[y3q]at h;split at h
  ·rcases yf.1 h with rfl|h
   ·omega
   ·exact z142 l u h
  grind
theorem zzy{p:Val→Bool}:∀(l:List Val){y:Val}{r:List Val},l.dropWhile p=y::r→p y=false
 |[],y,r,h=>by simp at h
 |a::l,y,r,h=>by
  rw[y3e]at h;split at h
  ·exact zzy l h
  grind
theorem z12a{l:List Val}{v:Val}:∀u∈l.take (posV l v),ordV u v<0:=by
 grind[posV,ordV,List.takeWhile_append_dropWhile,decide,List.take_left,z142]
theorem z12b{l:List Val}(h:l.Pairwise fun a b=>ordV a b<0){v:Val}:∀u∈l.drop (posV l v),¬ordV u v<0:=by
 have e:l.drop (posV l v)=l.dropWhile fun x=>ordV x v<0:=by
  grind[posV,List.takeWhile_append_dropWhile,decide,ordV,List.drop_left]
 have hp:(l.dropWhile fun x=>ordV x v<0).Pairwise fun a b=>ordV a b<0:=h.sublist (List.dropWhile_sublist _);cases hd:l.dropWhile fun x=>ordV x v<0 with
 |nil=>grind
 |cons y r=>
  have hy:¬ordV y v<0:=by
   grind[zzy]
  all_goals grind[List.pairwise_cons,zm1]
theorem z251{l:List Val}(h:l.Pairwise fun a b=>ordV a b<0)(v:Val):(insV l v).Pairwise fun a b=>ordV a b<0:=by
 unfold insV;split
 ·omega
 ·have hs:∀u∈l.drop (posV l v),ordV v u<0:=fun u hu=>by
   have h1:=z12b h u hu;grind[ordV,ordV_zero,List.mem_of_mem_drop,zjy]
  rw[y25];refine⟨h.sublist (List.take_sublist _ _),y2i.2 ⟨hs,h.sublist (List.drop_sublist _ _)⟩,fun a ha b hb=>?_⟩;rcases yf.1 hb with rfl|hb
  ·exact z12a a ha
  ·exact zm1 (z12a a ha) (hs b hb)
theorem z252(l:List Val)(v:Val):(insV l v).length≤l.length+1:=by
 grind[insV,z26h]
theorem z12c{nm:ByteArray}{v:Val}(h:zjz nm v=true)(hs:nm=nmSum): -bigM≤v.n∧v.n≤bigM:=by
 simp_all[zjz,y1f,decide_eq_true_eq,z2ki,z2fj]
end
end B
end Go.Proofs.YtjfpbchdcbhfgaaGreat
