/- Part 18 of the proof: Sscal1 Sscal2n Sterms. -/
import Derived.Test.YtjfpbchdcbhfgaaGreatNsrt17
namespace Go.Proofs.YtjfpbchdcbhfgaaGreat.B
open Go Go.RowKit
set_option maxRecDepth 100000
noncomputable section
attribute [local irreducible] awp ctxK z12 z1o retQ z2i awf ctxF zt
def zsu : Mc Un:=mach (tbl []) (tbl []) (tbl []) (tbl []) (tbl [])
def z160 (r:Val) : List (A Un):=[.agg (encC Ty.val r)]
def z161 (_r:Val) : List (Ob Un):=[]
def z162 (r:Val) : RF Un:=(z160 r,z161 r)
def z163 : Nat→NS:=fun l=>(look l []).getD ⟨[],[],[],[],[],false⟩
def z11p (s:ByteArray) : Option (RF Un):=awf zsu z163 (z8 Tryz.f163) (zg Tryz.f163.ntmps 0 [.d (.v (cs s))]) (retF zsu Tryz.f163.results.toList [.d])
theorem z1pq (s:ByteArray) : z11p s=some (z162 ({ kind:=(3:Int),n:=(0:Int),s:=s })):=by kernel_rfl
def z7x (s:ByteArray) : Val :=
 ({ kind:=(3:Int),n:=(0:Int),s:=s })
theorem z1pr (s:ByteArray) : z11p s=some (z162 (z7x s)):=by rw[z1pq];unfold z7x;simp only[za];repeat (first | rfl | split)
def zd0 : FnC Un:=fun args=>match args with
 | [x0]=>(dStr x0).bind fun s=>some ([],z160 (z7x s),z161 (z7x s))
 | _=>none
theorem z11q : FnOK 163 zd0:=by
 intro args ob rs os h hob
 unfold zd0 at h
 split at h
 ·simp only[Option.bind_eq_some_iff,Option.some.injEq,Prod.mk.injEq] at h
  obtain⟨s,e0,rfl,rfl,rfl⟩:=h
  obtain rfl:=z57 e0
  exact⟨zd (M:=zsu) rfl (zf (l1:=[]) (l2:=[]) (l3:=[]) (l4:=[]) (l5:=[]) trivial trivial trivial trivial trivial) Tryz.func163 (by kernel_rfl) z163 0 [.d] (fun hwf=>(z1pr s)),zb Tryz.func163 (by kernel_rfl) (by kernel_rfl)⟩
 ·simp at h
def z19f : Mc Un:=mach (tbl []) (tbl []) (tbl []) (tbl []) (tbl [])
def z21o (r:Bool) : List (A Un):=[.c (.s (.bool r))]
def z21p (_r:Bool) : List (Ob Un):=[]
def z1ps (r:Bool) : RF Un:=(z21o r,z21p r)
def z1pt : Nat→NS:=fun l=>(look l []).getD ⟨[],[],[],[],[],false⟩
def z1kq (v:Val) (kind:Int) : Option (RF Un):=awf z19f z1pt (z8 Tryz.f200) (zg Tryz.f200.ntmps 0 [.d (.agg (enc Ty.val v)),.box [.v (.s (.int .i64 kind))]]) (retF z19f Tryz.f200.results.toList [.d])
theorem z1zd (v:Val) (kind:Int) : z1kq v kind=some (z1ps (v.kind != kind)):=by kernel_rfl
def ziz (v:Val) (kind:Int) : Bool:=v.kind != kind
theorem z1t0 (v:Val) (kind:Int) (_hv:WS .val v) (_hk:WI kind) (_h:True) : z1kq v kind=some (z1ps (ziz v kind)):=by
 rw[z1zd];rfl
def zxa : List (List (DC Un))→Option (FV Un):=fun dl=>match dl with
 | [b0]=>(bI .i64 b0).bind fun kind=>some (zo (fun v=>True) (fun v=>ziz v kind))
 | _=>none
theorem z1wl : ClOK 200 zxa:=by
 refine⟨zb Tryz.func200 (by kernel_rfl) (by kernel_rfl),fun dl φ args ob rs hF hφ hob=>?_⟩
 unfold zxa at hF
 split at hF
 ·simp only[Option.bind_eq_some_iff,Option.some.injEq] at hF
  obtain⟨kind,g0,hE⟩:=hF
  subst hE
  obtain rfl:=z255 g0
  unfold zo at hφ
  split at hφ
  ·simp only[Option.bind_eq_some_iff,Option.some.injEq,Prod.mk.injEq] at hφ
   obtain⟨v,e0,rfl,rfl⟩:=hφ
   simp only[List.map_cons,List.map_nil,List.cons_append,List.nil_append]
   rw[z18 e0]
   exact Contract.data (zd (M:=z19f) rfl (zf (l1:=[]) (l2:=[]) (l3:=[]) (l4:=[]) (l5:=[]) trivial trivial trivial trivial trivial) Tryz.func200 (by kernel_rfl) z1pt 0 [.d] (fun hwf=>(z1t0 v kind (ze hwf (a:=.d (.agg (enc Ty.val v))) (List.mem_of_getElem? (i:=0) rfl)) (ze hwf (a:=.box [.v (.s (.int .i64 kind))]) (List.mem_of_getElem? (i:=1) rfl)) (hob _ (List.mem_of_getElem? (i:=0) rfl)))))
  ·simp at hφ
 ·simp at hF
def zjz : Mc Un:=mach (tbl [(199,zku)]) (tbl []) (tbl [(200,zxa)]) (tbl []) (tbl [])
def zuh (r:Bool) : List (A Un):=[.c (.s (.bool r))]
def zui (_r:Bool) : List (Ob Un):=[]
def zuj (r:Bool) : RF Un:=(zuh r,zui r)
def zuk : Nat→NS:=fun l=>(look l []).getD ⟨[],[],[],[],[],false⟩
def zqv (l:List Val) (kind:Int) : Option (RF Un):=awf zjz zuk (z8 Tryz.f157) (zg Tryz.f157.ntmps 0 [.d (.v (.dat (U:=Un) Ty.val l)),.d (.v (.s (.int .i64 kind)))]) (retF zjz Tryz.f157.results.toList [.d])
theorem z1ck (l:List Val) (kind:Int) : zqv l kind=obO ((zo (fun v=>True) fun v=>ziz v kind)=zo (z16 (zo (fun v=>True) fun v=>ziz v kind)) (z1p (zo (fun v=>True) fun v=>ziz v kind))) (obO (zas (z16 (zo (fun v=>True) fun v=>ziz v kind)) l) (some (zuj (!zhq l (z16 (zo (fun v=>True) fun v=>ziz v kind)) (z1p (zo (fun v=>True) fun v=>ziz v kind)))))):=by kernel_rfl
def z4d (l:List Val) (kind:Int) : Bool:=l.all fun v=>v.kind == kind
theorem z14n (l:List Val) (kind:Int) (_hl:WL .val l) (_hk:WI kind) : zqv l kind=some (zuj (z4d l kind)):=by
 rw[z1ck]
 simp only[zh3,zh2]
 rw[z6 trivial,z6 (show zas _ l from fun _ _=>trivial)]
 unfold z4d zhq ziz
 congr 2
 clear _hl
 induction l with
 | nil=>rfl
 | cons x l ih=>rw[List.any_cons,List.all_cons,Bool.not_or,ih];simp [bne]
def zet : FnC Un:=fun args=>match args with
 | [x0,x1]=>(dL .val x0).bind fun l=>(dI .i64 x1).bind fun kind=>some ([],zuh (z4d l kind),zui (z4d l kind))
 | _=>none
theorem z1cl : FnOK 157 zet:=by
 intro args ob rs os h hob
 unfold zet at h
 split at h
 ·simp only[Option.bind_eq_some_iff,Option.some.injEq,Prod.mk.injEq] at h
  obtain⟨l,e0,kind,e1,rfl,rfl,rfl⟩:=h
  obtain rfl:=z1i e0
  obtain rfl:=z1t e1
  exact⟨zd (M:=zjz) rfl (zf (l1:=[(199,zku)]) (l2:=[]) (l3:=[(200,zxa)]) (l4:=[]) (l5:=[]) ⟨z1po,trivial⟩ trivial ⟨z1wl,trivial⟩ trivial trivial) Tryz.func157 (by kernel_rfl) zuk 0 [.d] (fun hwf=>(z14n l kind (ze hwf (a:=.d (.v (.dat (U:=Un) Ty.val l))) (List.mem_of_getElem? (i:=0) rfl)) (ze hwf (a:=.d (.v (.s (.int .i64 kind)))) (List.mem_of_getElem? (i:=1) rfl)))),zb Tryz.func157 (by kernel_rfl) (by kernel_rfl)⟩
 ·simp at h
def zmn : Mc Un:=mach (tbl [(32,z52)]) (tbl []) (tbl []) (tbl []) (tbl [])
def zyg (r:Val) : List (A Un):=[.agg (encC Ty.val r)]
def zyh (_r:Val) : List (Ob Un):=[]
def zmo (r:Val) : RF Un:=(zyg r,zyh r)
def zyi : Nat→NS:=fun l=>(look l []).getD ⟨[],[],[],[],[],false⟩
def zul (n:Int) (ok:Bool) : Option (RF Un):=awf zmn zyi (z8 Tryz.f158) (zg Tryz.f158.ntmps 0 [.d (.v (.s (.int .i64 n))),.d (.v (cb ok))]) (retF zmn Tryz.f158.results.toList [.d])
theorem z1gs (n:Int) (ok:Bool) : zul n ok=cndO (!ok) (some (zmo (z7))) (some (zmo (zh n))):=by kernel_rfl
def z3y (n:Int) (ok:Bool) : Val :=
  if (!ok)=true then
   (z7)
  else
   (zh n)
theorem z1gt (n:Int) (ok:Bool) : zul n ok=some (zmo (z3y n ok)):=by rw[z1gs];unfold z3y;simp only[za];repeat (first | rfl | split)
def z9z : FnC Un:=fun args=>match args with
 | [x0,x1]=>(dI .i64 x0).bind fun n=>(dB x1).bind fun ok=>some ([],zyg (z3y n ok),zyh (z3y n ok))
 | _=>none
theorem zum : FnOK 158 z9z:=by
 intro args ob rs os h hob
 unfold z9z at h
 split at h
 ·simp only[Option.bind_eq_some_iff,Option.some.injEq,Prod.mk.injEq] at h
  obtain⟨n,e0,ok,e1,rfl,rfl,rfl⟩:=h
  obtain rfl:=z1t e0
  obtain rfl:=z1nd e1
  exact⟨zd (M:=zmn) rfl (zf (l1:=[(32,z52)]) (l2:=[]) (l3:=[]) (l4:=[]) (l5:=[]) ⟨zdx,trivial⟩ trivial trivial trivial trivial) Tryz.func158 (by kernel_rfl) zyi 0 [.d] (fun hwf=>(z1gt n ok)),zb Tryz.func158 (by kernel_rfl) (by kernel_rfl)⟩
 ·simp at h
def zmp : Mc Un:=mach (tbl [(161,z60),(155,z6g)]) (tbl []) (tbl []) (tbl []) (tbl [])
def zyj (r:Val) : List (A Un):=[.agg (encC Ty.val r)]
def zyk (_r:Val) : List (Ob Un):=[]
def zyl (r:Val) : RF Un:=(zyj r,zyk r)
def zym : Nat→NS:=fun l=>(look l []).getD ⟨[],[],[],[],[],false⟩
def zun (f:Int→Int→Int) (a:Val) (b:Val) : Option (RF Un):=awf zmp zym (z8 Tryz.f165) (zg Tryz.f165.ntmps 0 [.fn (z1d f),.d (.agg (enc Ty.val a)),.d (.agg (enc Ty.val b))]) (retF zmp Tryz.f165.results.toList [.d])
theorem z1gu (f:Int→Int→Int) (a:Val) (b:Val) : zun f a b=some (zyl (z5j (f (z3e a) (z3e b)))):=by kernel_rfl
def z6h (f:Int→Int→Int) (a b:Val) : Val:=z5j (f (z3e a) (z3e b))
theorem z19g (f:Int→Int→Int) (a b:Val) (_ha:WS .val a) (_hb:WS .val b) : zun f a b=some (zyl (z6h f a b)):=by
 rw[z1gu];rfl
def zgn : FnC Un:=fun args=>match args with
 | [x0,x1,x2]=>(dF x0).bind fun f=>(dS .val x1).bind fun a=>(dS .val x2).bind fun b=>some ([f=(z1d (zy f))],zyj (z6h (zy f) a b),zyk (z6h (zy f) a b))
 | _=>none
theorem z1gv : FnOK 165 zgn:=by
 intro args ob rs os h hob
 unfold zgn at h
 split at h
 ·simp only[Option.bind_eq_some_iff,Option.some.injEq,Prod.mk.injEq] at h
  obtain⟨f,e0,a,e1,b,e2,rfl,rfl,rfl⟩:=h
  obtain rfl:=zki e0
  obtain rfl:=z18 e1
  obtain rfl:=z18 e2
  have hfv0:=hob _ (List.mem_of_getElem? (i:=0) rfl)
  generalize zy f=pp0 at *
  subst hfv0
  exact⟨zd (M:=zmp) rfl (zf (l1:=[(161,z60),(155,z6g)]) (l2:=[]) (l3:=[]) (l4:=[]) (l5:=[]) ⟨zfz,zij,trivial⟩ trivial trivial trivial trivial) Tryz.func165 (by kernel_rfl) zym 0 [.d] (fun hwf=>(z19g pp0 a b (ze hwf (a:=.d (.agg (enc Ty.val a))) (List.mem_of_getElem? (i:=1) rfl)) (ze hwf (a:=.d (.agg (enc Ty.val b))) (List.mem_of_getElem? (i:=2) rfl)))),zb Tryz.func165 (by kernel_rfl) (by kernel_rfl)⟩
 ·simp at h
def z90 : Mc Un:=mach (tbl [(164,z70),(161,z60),(208,zqr),(155,z6g)]) (tbl []) (tbl []) (tbl []) (tbl [])
def zuo (r:Val) : List (A Un):=[.agg (encC Ty.val r)]
def zup (_r:Val) : List (Ob Un):=[]
def zuq (r:Val) : RF Un:=(zuo r,zup r)
def z91 : Nat→NS:=fun l=>(look l [(3,{ ts:=bl 25 1844,bs:=bl 25 20,nm:=[(.sl 5,100)] })]).getD ⟨[],[],[],[],[],false⟩
def z85 (v:Val) (l:List Val) (v0:Int) (v1:List Int) : S Un:=(st 25 25 101 0 [(2,ax 2),(4,ax 4),(5,ao 100),(8,al .val l),(9,ai (↑l.length:Int)),(10,ai v0)] [(2,bg .val v),(4,bg .val z7)] [(100,some ⟨(0:Nat),Ty.int,v1,some (0:Nat),true⟩)])
noncomputable def zqw : Code:=sub (z8 Tryz.f168) [1,1,0,1,2,2]
def zdj : S Un→Option (EX Un):=zt (z91 3) (fun s Q=>awf z90 z91 zqw s Q)
def zqx : Exit→S Un→Option (RF Un):=ctxF z90 z91 (z8 Tryz.f168) [1,1,0,1,2] (retF z90 Tryz.f168.results.toList [.d])
def zqy (v:Val) (l:List Val) : Option (RF Un):=awf z90 z91 (z8 Tryz.f168) (zg Tryz.f168.ntmps 1 [.d (.agg (enc Ty.val v)),.d (.v (.dat (U:=Un) Ty.val l))]) (retF z90 Tryz.f168.results.toList [.d])
theorem z1cm (v:Val) (l:List Val) : zqy v l=(zdj (z85 v l (0:Int) ([]))).bind (zx zqx):=by kernel_rfl
theorem zqz (v:Val) (l:List Val) (v0:Int) (v1:List Int) : zdj (z85 v l v0 v1)=cndO (decide (v0<(↑l.length:Int))) (obO (0≤v0∧v0<(↑l.length:Int)) (obO ((11:Int)≤(11:Int)∧(11:Int)≤(16:Int)) (obO ((v1.length+[z3e (cmpO (11:Int) v (l.getD v0.toNat z7))].length)*(8:Nat)≤zw) (zdj (z85 v l (IntKind.i64.wrap (v0+1)) (v1++[z3e (cmpO (11:Int) v (l.getD v0.toNat z7))])))))) (some (.exit 0,(z85 v l v0 v1))):=(z11 (z91 3) zqw _).trans (by kernel_rfl)
theorem z11r (v:Val) (l:List Val) (v0:Int) (v1:List Int) : zqx (.exit 0) (z85 v l v0 v1)=some (zuq (z5j (zuf v1))):=by kernel_rfl
def zbj (v:Val) (l:List Val) : Val:=z5j (zuf (l.map fun x=>z3e (cmpO 11 v x)))
theorem ze5 {α β:Type} (f:α→β) : ∀ (l:List α) (o:List β),l.foldl (fun o x=>o++[f x]) o=o++l.map f
 | [],o=>by simp
 | x::l,o=>by rw[List.foldl_cons,ze5 f l];simp
theorem z14o (v:Val) (l:List Val) (_hv:WS .val v) (hl:WL .val l) (h:l.length≤2000000) : zqy v l=some (zuq (zbj v l)):=by
 obtain⟨lp,_⟩:=z42 (e:=.exit 0) (L:=zdj) (st:=fun (o:List Int) i=>z85 v l i o) (l:=l) (d:=z7) (g:=fun o x=>o++[z3e (cmpO 11 v x)]) (fun i o=>o.length=i) hl.len
  (fun o i x hi hx hI=>by
   have hI':o.length=i:=hI
   refine⟨by show (o++[_]).length=i+1;rw[List.length_append,List.length_singleton];omega,?_⟩
   rw[zqz]
   simp only[za,hi,decide_true,if_true,and_true,Int.toNat_natCast,hx]
   rw[z6 (by omega),z6 (by omega),z6 (by unfold zw;rw[List.length_singleton];omega)])
  (fun o _=>by rw[zqz];simp [za]) [] rfl
 rw[ze5,List.nil_append] at lp
 rw[z1cm]
 refine (zn lp).trans ?_
 rw[z11r]
 rfl
def zeu : FnC Un:=fun args=>match args with
 | [x0,x1]=>(dS .val x0).bind fun v=>(dL .val x1).bind fun l=>some ([l.length≤2000000],zuo (zbj v l),zup (zbj v l))
 | _=>none
theorem z1cn : FnOK 168 zeu:=by
 intro args ob rs os h hob
 unfold zeu at h
 split at h
 ·simp only[Option.bind_eq_some_iff,Option.some.injEq,Prod.mk.injEq] at h
  obtain⟨v,e0,l,e1,rfl,rfl,rfl⟩:=h
  obtain rfl:=z18 e0
  obtain rfl:=z1i e1
  exact⟨zd (M:=z90) rfl (zf (l1:=[(164,z70),(161,z60),(208,zqr),(155,z6g)]) (l2:=[]) (l3:=[]) (l4:=[]) (l5:=[]) ⟨zm1,zfz,z1we,zij,trivial⟩ trivial trivial trivial trivial) Tryz.func168 (by kernel_rfl) z91 1 [.d] (fun hwf=>(z14o v l (ze hwf (a:=.d (.agg (enc Ty.val v))) (List.mem_of_getElem? (i:=0) rfl)) (ze hwf (a:=.d (.v (.dat (U:=Un) Ty.val l))) (List.mem_of_getElem? (i:=1) rfl)) (hob _ (List.mem_of_getElem? (i:=0) rfl)))),zb Tryz.func168 (by kernel_rfl) (by kernel_rfl)⟩
 ·simp at h
def z92 : Mc Un:=mach (tbl [(161,z60)]) (tbl []) (tbl []) (tbl []) (tbl [])
def zur (r:Val) : List (A Un):=[.agg (encC Ty.val r)]
def zus (_r:Val) : List (Ob Un):=[]
def zbk (r:Val) : RF Un:=(zur r,zus r)
def z93 : Nat→NS:=fun l=>(look l [(1,{ ts:=bl 23 5,bs:=bl 23 4,nm:=[],gb:=[2] })]).getD ⟨[],[],[],[],[],false⟩
def z1z (b2:Val) (v0:List Val) : S Un:=(st 23 23 92 0 [(0,al .val v0),(2,ax 2)] [(2,bg .val b2)] [])
noncomputable def zr0 : Code:=sub (z8 Tryz.f169) [1,0,2,2]
def z4q : S Un→Option (EX Un):=zt (z93 1) (fun s Q=>awf z92 z93 zr0 s Q)
def zdk : Exit→S Un→Option (RF Un):=ctxF z92 z93 (z8 Tryz.f169) [1,0,2] (retF z92 Tryz.f169.results.toList [.d])
def zr1 (l:List Val) : Option (RF Un):=awf z92 z93 (z8 Tryz.f169) (zg Tryz.f169.ntmps 0 [.d (.v (.dat (U:=Un) Ty.val l))]) (retF z92 Tryz.f169.results.toList [.d])
theorem z1co (l:List Val) : zr1 l=(z4q (z1z z7 l)).bind (zx zdk):=by kernel_rfl
theorem zdl (b2:Val) (v0:List Val) : z4q (z1z b2 v0)=cndO (decide ((↑v0.length:Int) > (1:Int))) (obO ((0:Int)≤(0:Int)∧(0:Int)<(↑v0.length:Int)) (cndO (z3e (v0.getD 0 z7) == 2) (obO ((0:Int)≤(1:Int)∧(1:Int)<(↑v0.length:Int)) (some (.ret,(z1z (v0.getD 1 z7) v0)))) (obO ((0:Int)≤(2:Int)∧(2:Int)≤(↑v0.length:Int)) (z4q (z1z b2 (List.drop 2 v0)))))) (some (.exit 0,(z1z b2 v0))):=(z11 (z93 1) zr0 _).trans (by kernel_rfl)
theorem z100 (b2:Val) (v0:List Val) : zdk .ret (z1z b2 v0)=some (zbk (b2)):=by kernel_rfl
theorem zm2 (b2:Val) (v0:List Val) : zdk (.exit 0) (z1z b2 v0)=cndO ((↑v0.length:Int) == (1:Int)) (obO ((0:Int)≤(0:Int)∧(0:Int)<(↑v0.length:Int)) (some (zbk (v0.getD 0 z7)))) (some (zbk (z7))):=by kernel_rfl
def zpa : List Val→Val
 | []=>z7
 | [x]=>x
 | c::v::r=>if z3e c=2 then v else zpa r
def ze6 (l:List Val) : Val:=zpa l
theorem z1wm : ∀ (n:Nat) (l:List Val),l.length≤n→(z4q (z1z z7 l)).bind (zx zdk)=some (zbk (zpa l)):=by
 intro n
 induction n using Nat.strongRecOn with
 | ind n ih =>
  intro l hn
  match l,hn with
  | [],_ =>
   have e:z4q (z1z z7 [])=some (.exit 0,z1z z7 []):=by rw[zdl];rfl
   rw[zn e,zm2];rfl
  | [x],_ =>
   have e:z4q (z1z z7 [x])=some (.exit 0,z1z z7 [x]):=by rw[zdl];rfl
   rw[zn e,zm2,za,if_pos (by simp),z6 (by simp)];rfl
  | c::v::r,hn =>
   simp only[List.length_cons] at hn
   have hg0:(c::v::r).getD 0 z7=c:=rfl
   have hg1:(c::v::r).getD 1 z7=v:=rfl
   have hd:List.drop 2 (c::v::r)=r:=rfl
   have hl:((c::v::r).length:Int)=(r.length:Int)+2:=by simp only[List.length_cons];omega
   by_cases h : z3e c=2
   ·have e:z4q (z1z z7 (c::v::r))=some (.ret,z1z v (c::v::r)):=by
     rw[zdl,hg0,hg1,hl,za,if_pos (by simp;omega),z6 (by omega),za,if_pos (by simpa using h),z6 (by omega)]
    rw[zn e,z100]
    simp only[zpa]
    rw[if_pos h]
   ·have e:z4q (z1z z7 (c::v::r))=z4q (z1z z7 r):=by
     rw[zdl,hg0,hg1,hl,hd,za,if_pos (by simp;omega),z6 (by omega),za,if_neg (by simpa using h),z6 (by omega)]
    rw[e,ih r.length (by omega) r (Nat.le_refl _)]
    simp only[zpa]
    rw[if_neg h]
theorem z14p (l:List Val) (_hl:WL .val l) : zr1 l=some (zbk (ze6 l)):=by
 rw[z1co]
 exact z1wm _ l (Nat.le_refl _)
def zev : FnC Un:=fun args=>match args with
 | [x0]=>(dL .val x0).bind fun l=>some ([],zur (ze6 l),zus (ze6 l))
 | _=>none
theorem z1cp : FnOK 169 zev:=by
 intro args ob rs os h hob
 unfold zev at h
 split at h
 ·simp only[Option.bind_eq_some_iff,Option.some.injEq,Prod.mk.injEq] at h
  obtain⟨l,e0,rfl,rfl,rfl⟩:=h
  obtain rfl:=z1i e0
  exact⟨zd (M:=z92) rfl (zf (l1:=[(161,z60)]) (l2:=[]) (l3:=[]) (l4:=[]) (l5:=[]) ⟨zfz,trivial⟩ trivial trivial trivial trivial) Tryz.func169 (by kernel_rfl) z93 0 [.d] (fun hwf=>(z14p l (ze hwf (a:=.d (.v (.dat (U:=Un) Ty.val l))) (List.mem_of_getElem? (i:=0) rfl)))),zb Tryz.func169 (by kernel_rfl) (by kernel_rfl)⟩
 ·simp at h
def z11s : Mc Un:=mach (tbl []) (tbl []) (tbl []) (tbl []) (tbl [])
def z1kr (r:Bool) : List (A Un):=[.c (.s (.bool r))]
def z1ks (_r:Bool) : List (Ob Un):=[]
def z1kt (r:Bool) : RF Un:=(z1kr r,z1ks r)
def z1ku : Nat→NS:=fun l=>(look l []).getD ⟨[],[],[],[],[],false⟩
def z1cq (v:Val) : Option (RF Un):=awf z11s z1ku (z8 Tryz.f210) (zg Tryz.f210.ntmps 0 [.d (.agg (enc Ty.val v))]) (retF z11s Tryz.f210.results.toList [.d])
theorem z1wn (v:Val) : z1cq v=some (z1kt (v.kind != 0)):=by kernel_rfl
def zd1 (v:Val) : Bool :=
 (v.kind != (0:Int))
theorem z1wo (v:Val) : z1cq v=some (z1kt (zd1 v)):=by rw[z1wn];unfold zd1;simp only[za];repeat (first | rfl | split)
def zr2 : FnC Un:=fun args=>match args with
 | [x0]=>(dS .val x0).bind fun v=>some ([],z1kr (zd1 v),z1ks (zd1 v))
 | _=>none
theorem z1wp : FnOK 210 zr2:=by
 intro args ob rs os h hob
 unfold zr2 at h
 split at h
 ·simp only[Option.bind_eq_some_iff,Option.some.injEq,Prod.mk.injEq] at h
  obtain⟨v,e0,rfl,rfl,rfl⟩:=h
  obtain rfl:=z18 e0
  exact⟨zd (M:=z11s) rfl (zf (l1:=[]) (l2:=[]) (l3:=[]) (l4:=[]) (l5:=[]) trivial trivial trivial trivial trivial) Tryz.func210 (by kernel_rfl) z1ku 0 [.d] (fun hwf=>(z1wo v)),zb Tryz.func210 (by kernel_rfl) (by kernel_rfl)⟩
 ·simp at h
def z2q : FV Un:=zo (fun v=>True) (fun v=>zd1 v)
theorem z1t1 : FvOK 210 z2q:=by
 refine⟨zb Tryz.func210 (by kernel_rfl) (by kernel_rfl),fun args ob rs h hob=>?_⟩
 unfold z2q zo at h
 split at h
 ·simp only[Option.bind_eq_some_iff,Option.some.injEq,Prod.mk.injEq] at h
  obtain⟨v,e0,rfl,rfl⟩:=h
  simp only[List.map_cons,List.map_nil]
  rw[z18 e0]
  refine Contract.data (z1wp _ ([]) _ _ (?_ : zr2 _=some _) (by simp)).1
  unfold zr2
  simp only[zfq]
  rfl
 ·simp at h
def zj0 : Mc Un:=mach (tbl [(209,zcz),(152,z5i),(159,zhm),(158,z9z),(211,z3u),(32,z52),(212,zdi),(163,zd0)]) (tbl [(210,z2q)]) (tbl []) (tbl []) (tbl [])
def zr3 (r:Val) : List (A Un):=[.agg (encC Ty.val r)]
def zr4 (_r:Val) : List (Ob Un):=[]
def z24 (r:Val) : RF Un:=(zr3 r,zr4 r)
def zr5 : Nat→NS:=fun l=>(look l []).getD ⟨[],[],[],[],[],false⟩
def zpb (name:ByteArray) (l:List Val) : Option (RF Un):=awf zj0 zr5 (z8 Tryz.f170) (zg Tryz.f170.ntmps 0 [.d (.v (cs name)),.d (.v (.dat (U:=Un) Ty.val l))]) (retF zj0 Tryz.f170.results.toList [.d])
def zcd (name:ByteArray) (l:List Val) : Option (RF Un):=obO ((0:Int)≤(0:Int)∧(0:Int)<(↑l.length:Int)) (cndO ((l.getD 0 z7).kind != 3) (some (z24 (z7))) (cndO (name.toList == (ByteArray.mk #[108,101,110,103,116,104]).toList) (obO ((0:Int)≤(0:Int)∧(0:Int)<(↑l.length:Int)) (some (z24 (zh (↑(l.getD 0 z7).s.size:Int))))) (cndO (name.toList == (ByteArray.mk #[108,111,119,101,114]).toList) (obO ((0:Int)≤(0:Int)∧(0:Int)<(↑l.length:Int)) (obO ((l.getD 0 z7).s.size≤(2000000:Nat)) (some (z24 (z7x (ziy (l.getD 0 z7).s (65:Int) (32:Int))))))) (cndO (name.toList == (ByteArray.mk #[117,112,112,101,114]).toList) (obO ((0:Int)≤(0:Int)∧(0:Int)<(↑l.length:Int)) (obO ((l.getD 0 z7).s.size≤(2000000:Nat)) (some (z24 (z7x (ziy (l.getD 0 z7).s (97:Int) (-32:Int))))))) (some (z24 (z7)))))))
def zce (name:ByteArray) (l:List Val) : Option (RF Un):=cndO ((↑l.length:Int) != (1:Int)) (some (z24 (z7))) (cndO (name.toList == (ByteArray.mk #[97,98,115]).toList) (obO ((0:Int)≤(0:Int)∧(0:Int)<(↑l.length:Int)) (cndO ((l.getD 0 z7).kind == 2) (obO ((0:Int)≤(0:Int)∧(0:Int)<(↑l.length:Int)) (cndO (decide ((l.getD 0 z7).n<0)) (some (z24 (z3y (z9y (l.getD 0 z7).n).fst (z9y (l.getD 0 z7).n).snd))) (some (z24 (z3y (l.getD 0 z7).n (z1v (l.getD 0 z7).n)))))) (zcd name l))) (zcd name l))
theorem z19h (name:ByteArray) (l:List Val) : zpb name l=cndO (name.toList == (ByteArray.mk #[99,111,97,108,101,115,99,101]).toList) (obO (z2q=zo (z16 z2q) (z1p z2q)) (obO (zas (z16 z2q) l) (cndO (decide (z3r l (z16 z2q) (z1p z2q)≥0)) (obO (0≤z3r l (z16 z2q) (z1p z2q)∧z3r l (z16 z2q) (z1p z2q)<(↑l.length:Int)) (some (z24 (l.getD (z3r l (z16 z2q) (z1p z2q)).toNat z7)))) (some (z24 (z7)))))) (cndO (name.toList == (ByteArray.mk #[110,117,108,108,105,102]).toList) (cndO ((↑l.length:Int) == (2:Int)) (obO ((0:Int)≤(0:Int)∧(0:Int)<(↑l.length:Int)) (obO ((0:Int)≤(1:Int)∧(1:Int)<(↑l.length:Int)) (cndO (!(z1u (l.getD 0 z7) (l.getD 1 z7)).snd) (obO ((0:Int)≤(0:Int)∧(0:Int)<(↑l.length:Int)) (some (z24 (l.getD 0 z7)))) (cndO ((z1u (l.getD 0 z7) (l.getD 1 z7)).fst != 0) (obO ((0:Int)≤(0:Int)∧(0:Int)<(↑l.length:Int)) (some (z24 (l.getD 0 z7)))) (some (z24 (z7))))))) (zce name l)) (zce name l)):=by kernel_rfl
def txts (l:List Val) : Prop:=l.length≤2000000∧∀ x∈l,x.s.size≤2000000
def nmB (name:ByteArray) (x:ByteArray) : Bool:=name.toList == x.toList
def z149 (name:ByteArray) (x:Val) : Val :=
 if x.kind≠3 then z7
 else if nmB name ⟨#[108,101,110,103,116,104]⟩=true then zh (x.s.size:Int)
 else if nmB name ⟨#[108,111,119,101,114]⟩=true then z7x (ziy x.s 65 32)
 else if nmB name ⟨#[117,112,112,101,114]⟩=true then z7x (ziy x.s 97 (-32))
 else z7
def z14a (name:ByteArray) (l:List Val) : Val :=
 if l.length≠1 then z7
 else if nmB name ⟨#[97,98,115]⟩=true∧(l.getD 0 z7).kind=2 then (if (l.getD 0 z7).n<0 then z3y (z9y (l.getD 0 z7).n).1 (z9y (l.getD 0 z7).n).2 else z3y (l.getD 0 z7).n (z1v (l.getD 0 z7).n))
 else z149 name (l.getD 0 z7)
def z1pu (l:List Val) : Val:=if 0≤z3r l (fun _=>True) zd1 then l.getD (z3r l (fun _=>True) zd1).toNat z7 else z7
def z74 (name:ByteArray) (l:List Val) : Val :=
 if nmB name ⟨#[99,111,97,108,101,115,99,101]⟩=true then z1pu l
 else if nmB name ⟨#[110,117,108,108,105,102]⟩=true∧l.length=2 then (if (z1u (l.getD 0 z7) (l.getD 1 z7)).2=true∧(z1u (l.getD 0 z7) (l.getD 1 z7)).1=0 then z7 else l.getD 0 z7)
 else z14a name l
theorem z1pv (s:List Val) (o:Val→Prop) (f:Val→Bool) : z3r s o f<(s.length:Int)∨z3r s o f=-1:=by
 unfold z3r
 cases h : s.findIdx? f with
 | none=>exact .inr rfl
 | some i =>
  obtain⟨h1,_,_⟩:=List.findIdx?_eq_some_iff_getElem.1 h
  exact .inl (by show (i:Int)<_;omega)
theorem z1cr {β:Type} (x y:Option β) : cndO false x y=y:=rfl
theorem z1cs {β:Type} (x y:Option β) : cndO true x y=x:=rfl
theorem z1ze (name:ByteArray) (l:List Val) (hl:l.length=1) (h:txts l) : zcd name l=some (z24 (z149 name (l.getD 0 z7))):=by
 have hm:(l.getD 0 z7).s.size≤2000000:=h.2 _ (by rw[List.getD_eq_getElem?_getD,List.getElem?_eq_getElem (by omega)];exact List.getElem_mem _)
 unfold zcd z149 nmB
 generalize l.getD 0 z7=x at hm
 have p0:∀ y : Option (RF Un),obO ((0:Int)≤(0:Int)∧(0:Int)<(l.length:Int)) y=y:=fun y=>z6 (by omega)
 have p1:∀ y : Option (RF Un),obO (x.s.size≤2000000) y=y:=fun y=>z6 hm
 simp only[p0,p1]
 generalize (name.toList == (ByteArray.mk #[108,101,110,103,116,104]).toList)=q1
 generalize (name.toList == (ByteArray.mk #[108,111,119,101,114]).toList)=q2
 generalize (name.toList == (ByteArray.mk #[117,112,112,101,114]).toList)=q3
 by_cases h3 : x.kind=3
 ·have e3:(x.kind != 3)=false:=by simp [h3]
  rw[e3,z1cr,if_neg (fun e=>e h3)]
  cases q1<;>cases q2<;>cases q3<;>rfl
 ·have e3:(x.kind != 3)=true:=by simp [h3]
  rw[e3,z1cs,if_pos h3]
theorem z1zf (name:ByteArray) (l:List Val) (h:txts l) : zce name l=some (z24 (z14a name l)):=by
 unfold zce z14a
 by_cases hl : l.length=1
 ·have e0:((l.length:Int) != 1)=false:=by rw[hl];rfl
  rw[e0,z1cr,if_neg (fun e=>e hl),z1ze name l hl h]
  have hb:(name.toList == (ByteArray.mk #[97,98,115]).toList)=nmB name ⟨#[97,98,115]⟩:=rfl
  rw[hb]
  cases nmB name ⟨#[97,98,115]⟩
  ·rw[z1cr,if_neg (fun e=>by simp at e)]
  ·rw[z1cs,z6 (by omega)]
   by_cases hk : (l.getD 0 z7).kind=2
   ·have ek:((l.getD 0 z7).kind == 2)=true:=by rw[hk];rfl
    rw[ek,z1cs,z6 (by omega),if_pos ⟨rfl,hk⟩,za]
    by_cases hn : (l.getD 0 z7).n<0
    ·rw[if_pos (decide_eq_true hn),if_pos hn]
    ·rw[if_neg (fun e=>hn (of_decide_eq_true e)),if_neg hn]
   ·have ek:((l.getD 0 z7).kind == 2)=false:=by rw[beq_eq_false_iff_ne];exact hk
    rw[ek,z1cr,if_neg (fun e=>hk e.2)]
 ·have e0:((l.length:Int) != 1)=true:=by simp;omega
  rw[e0,z1cs,if_pos hl]
theorem z11t (name:ByteArray) (l:List Val) (_hn:WStr name) (_hl:WL .val l) (h:txts l) : zpb name l=some (z24 (z74 name l)):=by
 have o1:z16 z2q=fun _=>True:=by unfold z2q;exact zh3 _ _
 have o2:z1p z2q=zd1:=by unfold z2q;exact zh2 _ _
 have o3:z2q=zo (z16 z2q) (z1p z2q):=by rw[o1,o2];rfl
 rw[z19h,z6 o3,o1,o2,z6 (show zas _ l from fun _ _=>trivial),z1zf name l h]
 unfold z74 z1pu
 have hb:(name.toList == (ByteArray.mk #[99,111,97,108,101,115,99,101]).toList)=nmB name ⟨#[99,111,97,108,101,115,99,101]⟩:=rfl
 have hb2:(name.toList == (ByteArray.mk #[110,117,108,108,105,102]).toList)=nmB name ⟨#[110,117,108,108,105,102]⟩:=rfl
 rw[hb,hb2]
 generalize nmB name ⟨#[99,111,97,108,101,115,99,101]⟩=q1
 generalize nmB name ⟨#[110,117,108,108,105,102]⟩=q2
 cases q1
 ·rw[za,if_neg (by decide),if_neg (by decide)]
  cases q2
  ·rw[za,if_neg (by decide),if_neg (fun e=>by simp at e)]
  ·rw[za,if_pos rfl,za]
   by_cases h2 : l.length=2
   ·rw[if_pos (by simp;omega),if_pos ⟨rfl,h2⟩,z6 (by omega),z6 (by omega),z6 (by omega)]
    cases (z1u (l.getD 0 z7) (l.getD 1 z7)).2
    ·rw[if_neg (fun e=>by simp at e)];rfl
    ·simp only[za,Bool.not_true,bne_iff_ne,ne_eq]
     by_cases h5 : (z1u (l.getD 0 z7) (l.getD 1 z7)).1=0
     ·rw[if_neg (by decide),if_neg (fun e=>e h5),if_pos ⟨trivial,h5⟩]
     ·rw[if_neg (by decide),if_pos h5,if_neg (fun e=>h5 e.2)]
   ·rw[if_neg (by simp;omega),if_neg (fun e=>h2 e.2)]
 ·rw[za,if_pos rfl,if_pos rfl,za]
  have hlt:=z1pv l (fun _=>True) zd1
  by_cases h3 : 0≤z3r l (fun _=>True) zd1
  ·rw[if_pos (decide_eq_true h3),if_pos h3,z6 (by omega)]
  ·rw[if_neg (fun e=>h3 (of_decide_eq_true e)),if_neg h3]
def zdm : FnC Un:=fun args=>match args with
 | [x0,x1]=>(dStr x0).bind fun name=>(dL .val x1).bind fun l=>some ([txts l],zr3 (z74 name l),zr4 (z74 name l))
 | _=>none
theorem z19i : FnOK 170 zdm:=by
 intro args ob rs os h hob
 unfold zdm at h
 split at h
 ·simp only[Option.bind_eq_some_iff,Option.some.injEq,Prod.mk.injEq] at h
  obtain⟨name,e0,l,e1,rfl,rfl,rfl⟩:=h
  obtain rfl:=z57 e0
  obtain rfl:=z1i e1
  exact⟨zd (M:=zj0) rfl (zf (l1:=[(209,zcz),(152,z5i),(159,zhm),(158,z9z),(211,z3u),(32,z52),(212,zdi),(163,zd0)]) (l2:=[(210,z2q)]) (l3:=[]) (l4:=[]) (l5:=[]) ⟨z11m,zh5,z1bv,zum,zal,zdx,z19e,z11q,trivial⟩ ⟨z1t1,trivial⟩ trivial trivial trivial) Tryz.func170 (by kernel_rfl) zr5 0 [.d] (fun hwf=>(z11t name l (ze hwf (a:=.d (.v (cs name))) (List.mem_of_getElem? (i:=0) rfl)) (ze hwf (a:=.d (.v (.dat (U:=Un) Ty.val l))) (List.mem_of_getElem? (i:=1) rfl)) (hob _ (List.mem_of_getElem? (i:=0) rfl)))),zb Tryz.func170 (by kernel_rfl) (by kernel_rfl)⟩
 ·simp at h
end
end Go.Proofs.YtjfpbchdcbhfgaaGreat.B
namespace Go.Proofs.YtjfpbchdcbhfgaaGreat.B
open Go Go.RowKit
set_option maxRecDepth 100000
noncomputable section
attribute [local irreducible] awp ctxK z12 z1o retQ z2i awf ctxF zt
theorem zhu {β:Type} (a b:Bool) (x y:Option β) : cndO a x (cndO b x y)=cndO (a || b) x y:=by cases a<;>rfl
def z1ct (op:Int) (name:ByteArray) (l:List Val) : Val :=
 if op=3 then (if z4d l 2=true then z3y (z9y (l.getD 0 z7).n).1 (z9y (l.getD 0 z7).n).2 else z7)
 else if op=4 then z5j (zoa (z3e (l.getD 0 z7)))
 else if op=19 then z2z ((l.getD 0 z7).kind == 0)
 else if op=5∨op=6∨op=7∨op=8∨op=9 then (if z4d l 2=true then z3y (twoN op (l.getD 0 z7).n (l.getD 1 z7).n).1 (twoN op (l.getD 0 z7).n (l.getD 1 z7).n).2 else z7)
 else if op=10 then (if z4d l 3=true then (if (l.getD 0 z7).s.size+(l.getD 1 z7).s.size≤100 then z7x ((l.getD 0 z7).s++(l.getD 1 z7).s) else z7) else z7)
 else if op=11∨op=12∨op=13∨op=14∨op=15∨op=16 then cmpO op (l.getD 0 z7) (l.getD 1 z7)
 else if op=17 then z6h zhn (l.getD 0 z7) (l.getD 1 z7)
 else if op=18 then z6h z8h (l.getD 0 z7) (l.getD 1 z7)
 else if op=20 then (if z4d l 3=true then z2z (zer (l.getD 0 z7).s (l.getD 1 z7).s) else z7)
 else if op=21 then zbj (l.getD 0 z7) (l.drop 1)
 else if op=22 then z6h zhn (cmpO 16 (l.getD 0 z7) (l.getD 1 z7)) (cmpO 14 (l.getD 0 z7) (l.getD 2 z7))
 else if op=23 then ze6 l
 else if op=24 then z74 name l
 else z7
def cntN (op:Int) : Int×Bool:=if op=3∨op=4∨op=19 then (1,false) else if op=22 then (3,false) else if op=21∨op=23 then (2,true) else if op=24 then (0,true) else (2,false)
def zk0 : Mc Un:=mach (tbl []) (tbl []) (tbl []) (tbl []) (tbl [])
def zut (r:Int×Bool) : List (A Un):=[.c (.s (.int .i64 r.1)),.c (.s (.bool r.2))]
def zuu (_r:Int×Bool) : List (Ob Un):=[]
def z58 (r:Int×Bool) : RF Un:=(zut r,zuu r)
def zuv : Nat→NS:=fun l=>(look l []).getD ⟨[],[],[],[],[],true⟩
def zr6 (op:Int) : Option (RF Un):=awf zk0 zuv (z8 Tryz.f156) (zg Tryz.f156.ntmps 0 [.d (.v (.s (.int .i64 op)))]) (retF zk0 Tryz.f156.results.toList [.d,.d])
theorem z1cu (op:Int) : zr6 op=cndO (op == 3) (some (z58 ((1:Int),false))) (cndO (op == 4) (some (z58 ((1:Int),false))) (cndO (op == 19) (some (z58 ((1:Int),false))) (cndO (op == 22) (some (z58 ((3:Int),false))) (cndO (op == 21) (some (z58 ((2:Int),true))) (cndO (op == 23) (some (z58 ((2:Int),true))) (cndO (op == 24) (some (z58 ((0:Int),true))) (some (z58 ((2:Int),false))))))))):=by kernel_rfl
def z7y (op:Int) : Int×Bool:=cntN op
theorem z14q (op:Int) (_h:WI op) : zr6 op=some (z58 (z7y op)):=by
 rw[z1cu]
 unfold z7y cntN
 simp only[zhu]
 simp only[za,Bool.or_eq_true,beq_iff_eq]
 by_cases h1 : op=3∨op=4∨op=19
 ·rw[if_pos (by omega),if_pos h1]
 rw[if_neg (by omega),if_neg h1]
 by_cases h2 : op=22
 ·rw[if_pos h2,if_pos h2]
 rw[if_neg h2,if_neg h2]
 by_cases h3 : op=21∨op=23
 ·rw[if_pos (by omega),if_pos h3]
 rw[if_neg (by omega),if_neg h3]
 by_cases h4 : op=24
 ·rw[if_pos h4,if_pos h4]
 rw[if_neg h4,if_neg h4]
def zew : FnC Un:=fun args=>match args with
 | [x0]=>(dI .i64 x0).bind fun op=>some ([],zut (z7y op),zuu (z7y op))
 | _=>none
theorem z1cv : FnOK 156 zew:=by
 intro args ob rs os h hob
 unfold zew at h
 split at h
 ·simp only[Option.bind_eq_some_iff,Option.some.injEq,Prod.mk.injEq] at h
  obtain⟨op,e0,rfl,rfl,rfl⟩:=h
  obtain rfl:=z1t e0
  exact⟨zd (M:=zk0) rfl (zf (l1:=[]) (l2:=[]) (l3:=[]) (l4:=[]) (l5:=[]) trivial trivial trivial trivial trivial) Tryz.func156 (by kernel_rfl) zuv 0 [.d,.d] (fun hwf=>(z14q op (ze hwf (a:=.d (.v (.s (.int .i64 op)))) (List.mem_of_getElem? (i:=0) rfl)))),zb Tryz.func156 (by kernel_rfl) (by kernel_rfl)⟩
 ·simp at h
def zk1 : Mc Un:=mach (tbl [(156,zew),(157,zet),(159,zhm),(158,z9z),(161,z60),(160,zqp),(155,z6g),(39,z7w),(162,zix),(163,zd0),(164,z70),(165,zgn),(167,ziv),(168,zeu),(169,zev),(170,zdm)]) (tbl [(166,z4w),(153,z8c)]) (tbl []) (tbl []) (tbl [])
def zuw (r:Val) : List (A Un):=[.agg (encC Ty.val r)]
def zux (_r:Val) : List (Ob Un):=[]
def z1a (r:Val) : RF Un:=(zuw r,zux r)
def zuy : Nat→NS:=fun l=>(look l []).getD ⟨[],[],[],[],[],true⟩
def zr7 (op:Int) (l:List Val):=z3y (twoN op (l.getD 0 z7).n (l.getD 1 z7).n).fst (twoN op (l.getD 0 z7).n (l.getD 1 z7).n).snd
def zr8 (l:List Val):=z6h (zy z4w) (l.getD 0 z7) (l.getD 1 z7)
def zr9 (l:List Val):=z6h (zy z8c) (l.getD 0 z7) (l.getD 1 z7)
def zra (l:List Val):=z6h (zy z4w) (cmpO (16:Int) (l.getD 0 z7) (l.getD 1 z7)) (cmpO (14:Int) (l.getD 0 z7) (l.getD 2 z7))
def zrb (op:Int) (name:ByteArray) (l:List Val) : Option (RF Un):=awf zk1 zuy (z8 Tryz.f120) (zg Tryz.f120.ntmps 0 [.d (.v (.s (.int .i64 op))),.d (.v (cs name)),.d (.v (.dat (U:=Un) Ty.val l))]) (retF zk1 Tryz.f120.results.toList [.d])
def z86 (op:Int) (l:List Val) : Option (RF Un):=cndO (z4d l (2:Int)) (obO (5≤op∧op≤9) (obO ((0:Int)≤(0:Int)∧(0:Int)<(↑l.length:Int)) (obO ((0:Int)≤(1:Int)∧(1:Int)<(↑l.length:Int)) (some (z1a (zr7 op l)))))) (some (z1a (z7)))
def z6r (op:Int) (l:List Val) : Option (RF Un):=obO ((0:Int)≤(0:Int)∧(0:Int)<(↑l.length:Int)) (obO ((0:Int)≤(1:Int)∧(1:Int)<(↑l.length:Int)) (obO (11≤op∧op≤16) (some (z1a (cmpO op (l.getD 0 z7) (l.getD 1 z7))))))
def zdn (op:Int) (name:ByteArray) (l:List Val) : Option (RF Un):=cndO (op == 3) (cndO (z4d l (2:Int)) (obO ((0:Int)≤(0:Int)∧(0:Int)<(↑l.length:Int)) (some (z1a (z3y (z9y (l.getD 0 z7).n).fst (z9y (l.getD 0 z7).n).snd)))) (some (z1a (z7)))) (cndO (op == 4) (obO ((0:Int)≤(0:Int)∧(0:Int)<(↑l.length:Int)) (some (z1a (z5j (zoa (z3e (l.getD 0 z7))))))) (cndO (op == 19) (obO ((0:Int)≤(0:Int)∧(0:Int)<(↑l.length:Int)) (some (z1a (z2z ((l.getD 0 z7).kind == 0))))) (cndO (op == 5) (z86 op l) (cndO (op == 6) (z86 op l) (cndO (op == 7) (z86 op l) (cndO (op == 8) (z86 op l) (cndO (op == 9) (z86 op l) (cndO (op == 10) (cndO (z4d l (3:Int)) (obO ((0:Int)≤(0:Int)∧(0:Int)<(↑l.length:Int)) (obO ((0:Int)≤(1:Int)∧(1:Int)<(↑l.length:Int)) (cndO (decide (IntKind.i64.wrap ((↑(l.getD 0 z7).s.size:Int)+(↑(l.getD 1 z7).s.size:Int))≤100)) (obO ((0:Int)≤(0:Int)∧(0:Int)<(↑l.length:Int)) (obO ((0:Int)≤(1:Int)∧(1:Int)<(↑l.length:Int)) (obO ((l.getD 0 z7).s.size+(l.getD 1 z7).s.size≤(9223372036854775807:Nat)) (some (z1a (z7x ((l.getD 0 z7).s++(l.getD 1 z7).s))))))) (some (z1a (z7)))))) (some (z1a (z7)))) (cndO (op == 11) (z6r op l) (cndO (op == 12) (z6r op l) (cndO (op == 13) (z6r op l) (cndO (op == 14) (z6r op l) (cndO (op == 15) (z6r op l) (cndO (op == 16) (z6r op l) (cndO (op == 17) (obO ((0:Int)≤(0:Int)∧(0:Int)<(↑l.length:Int)) (obO ((0:Int)≤(1:Int)∧(1:Int)<(↑l.length:Int)) (obO (z4w=z1d (zy z4w)) (some (z1a (zr8 l)))))) (cndO (op == 18) (obO ((0:Int)≤(0:Int)∧(0:Int)<(↑l.length:Int)) (obO ((0:Int)≤(1:Int)∧(1:Int)<(↑l.length:Int)) (obO (z8c=z1d (zy z8c)) (some (z1a (zr9 l)))))) (cndO (op == 20) (cndO (z4d l (3:Int)) (obO ((0:Int)≤(0:Int)∧(0:Int)<(↑l.length:Int)) (obO ((0:Int)≤(1:Int)∧(1:Int)<(↑l.length:Int)) (obO ((l.getD 0 z7).s.size≤(2000000:Nat)) (obO ((l.getD 1 z7).s.size≤(2000000:Nat)) (some (z1a (z2z (zer (l.getD 0 z7).s (l.getD 1 z7).s)))))))) (some (z1a (z7)))) (cndO (op == 21) (obO ((0:Int)≤(0:Int)∧(0:Int)<(↑l.length:Int)) (obO ((0:Int)≤(1:Int)∧(1:Int)≤(↑l.length:Int)) (obO ((List.drop 1 l).length≤(2000000:Nat)) (some (z1a (zbj (l.getD 0 z7) (List.drop 1 l))))))) (cndO (op == 22) (obO ((0:Int)≤(0:Int)∧(0:Int)<(↑l.length:Int)) (obO ((0:Int)≤(1:Int)∧(1:Int)<(↑l.length:Int)) (obO ((11:Int)≤(16:Int)∧(16:Int)≤(16:Int)) (obO ((0:Int)≤(0:Int)∧(0:Int)<(↑l.length:Int)) (obO ((0:Int)≤(2:Int)∧(2:Int)<(↑l.length:Int)) (obO ((11:Int)≤(14:Int)∧(14:Int)≤(16:Int)) (obO (z4w=z1d (zy z4w)) (some (z1a (zra l)))))))))) (cndO (op == 23) (some (z1a (ze6 l))) (cndO (op == 24) (obO (txts l) (some (z1a (z74 name l)))) (some (z1a (z7))))))))))))))))))))))))
theorem z1cw (op:Int) (name:ByteArray) (l:List Val) : zrb op name l=cndO (decide ((↑l.length:Int)<(z7y op).fst)) (some (z1a (z7))) (cndO (!(z7y op).snd) (cndO (decide ((↑l.length:Int) > (z7y op).fst)) (some (z1a (z7))) (zdn op name l)) (zdn op name l)):=by kernel_rfl
def z1x (op:Int) (name:ByteArray) (l:List Val) : Val:=if (l.length:Int)<(cntN op).1∨((cntN op).2=false∧(l.length:Int) > (cntN op).1) then z7 else z1ct op name l
theorem z11u (op:Int) (name:ByteArray) (l:List Val) (h:txts l) (hn:¬ ((l.length:Int)<(cntN op).1∨((cntN op).2=false∧(l.length:Int) > (cntN op).1))) : zdn op name l=some (z1a (z1ct op name l)):=by
 have hlen:=h.1
 have ht:∀ i,i<l.length→(l.getD i z7).s.size≤2000000:=fun i hi=>h.2 _ (by rw[List.getD_eq_getElem?_getD,List.getElem?_eq_getElem hi];exact List.getElem_mem _)
 have hvA:z4w=z1d (zy z4w):=by unfold z4w;rw[z6o]
 have hfA:zy z4w=zhn:=by unfold z4w;exact z6o _
 have hvO:z8c=z1d (zy z8c):=by unfold z8c;rw[z6o]
 have hfO:zy z8c=z8h:=by unfold z8c;exact z6o _
 unfold zdn z1ct
 simp only[zhu]
 simp only[za,Bool.or_eq_true,beq_iff_eq]
 by_cases h3 : op=3
 ·have hc:l.length=1:=by subst h3;have : cntN 3=(1,false):=rfl;rw[this] at hn;simp only[true_and] at hn;omega
  rw[if_pos h3,if_pos h3]
  split
  ·rw[z6 (by omega)]
  ·rfl
 rw[if_neg h3,if_neg h3]
 by_cases h4 : op=4
 ·have hc:l.length=1:=by subst h4;have : cntN 4=(1,false):=rfl;rw[this] at hn;simp only[true_and] at hn;omega
  rw[if_pos h4,if_pos h4,z6 (by omega)]
 rw[if_neg h4,if_neg h4]
 by_cases h19 : op=19
 ·have hc:l.length=1:=by subst h19;have : cntN 19=(1,false):=rfl;rw[this] at hn;simp only[true_and] at hn;omega
  rw[if_pos h19,if_pos h19,z6 (by omega)]
 rw[if_neg h19,if_neg h19]
 by_cases h5 : op=5∨op=6∨op=7∨op=8∨op=9
 ·have hc:l.length=2:=by
   have : cntN op=(2,false):=by unfold cntN;rw[if_neg (by omega),if_neg (by omega),if_neg (by omega),if_neg (by omega)]
   rw[this] at hn;simp only[true_and] at hn;omega
  rw[if_pos (by omega),if_pos h5]
  unfold z86 zr7
  rw[za]
  split
  ·rw[z6 (by omega),z6 (by omega),z6 (by omega)]
  ·rfl
 rw[if_neg (by omega),if_neg h5]
 by_cases h10 : op=10
 ·have hc:l.length=2:=by subst h10;have : cntN 10=(2,false):=rfl;rw[this] at hn;simp only[true_and] at hn;omega
  have a0:=ht 0 (by omega)
  have a1:=ht 1 (by omega)
  rw[if_pos h10,if_pos h10]
  split
  ·rw[z6 (by omega),z6 (by omega),z2n (by omega)]
   by_cases hs : (l.getD 0 z7).s.size+(l.getD 1 z7).s.size≤100
   ·rw[if_pos (by rw[decide_eq_true_eq];omega),if_pos hs,z6 (by omega),z6 (by omega),z6 (by omega)]
   ·rw[if_neg (by rw[decide_eq_true_eq];omega),if_neg hs]
  ·rfl
 rw[if_neg h10,if_neg h10]
 by_cases h11 : op=11∨op=12∨op=13∨op=14∨op=15∨op=16
 ·have hc:l.length=2:=by
   have : cntN op=(2,false):=by unfold cntN;rw[if_neg (by omega),if_neg (by omega),if_neg (by omega),if_neg (by omega)]
   rw[this] at hn;simp only[true_and] at hn;omega
  rw[if_pos (by omega),if_pos h11]
  unfold z6r
  rw[z6 (by omega),z6 (by omega),z6 (by omega)]
 rw[if_neg (by omega),if_neg h11]
 by_cases h17 : op=17
 ·have hc:l.length=2:=by subst h17;have : cntN 17=(2,false):=rfl;rw[this] at hn;simp only[true_and] at hn;omega
  rw[if_pos h17,if_pos h17,z6 (by omega),z6 (by omega),z6 hvA]
  unfold zr8
  rw[hfA]
 rw[if_neg h17,if_neg h17]
 by_cases h18 : op=18
 ·have hc:l.length=2:=by subst h18;have : cntN 18=(2,false):=rfl;rw[this] at hn;simp only[true_and] at hn;omega
  rw[if_pos h18,if_pos h18,z6 (by omega),z6 (by omega),z6 hvO]
  unfold zr9
  rw[hfO]
 rw[if_neg h18,if_neg h18]
 by_cases h20 : op=20
 ·have hc:l.length=2:=by subst h20;have : cntN 20=(2,false):=rfl;rw[this] at hn;simp only[true_and] at hn;omega
  have a0:=ht 0 (by omega)
  have a1:=ht 1 (by omega)
  rw[if_pos h20,if_pos h20]
  split
  ·rw[z6 (by omega),z6 (by omega),z6 a0,z6 a1]
  ·rfl
 rw[if_neg h20,if_neg h20]
 by_cases h21 : op=21
 ·have hc:2≤l.length:=by subst h21;have : cntN 21=(2,true):=rfl;rw[this] at hn;simp only[true_and] at hn;omega
  rw[if_pos h21,if_pos h21]
  repeat rw[z6 (by first | omega | (rw[List.length_drop];omega))]
 rw[if_neg h21,if_neg h21]
 by_cases h22 : op=22
 ·have hc:l.length=3:=by subst h22;have : cntN 22=(3,false):=rfl;rw[this] at hn;simp only[true_and] at hn;omega
  rw[if_pos h22,if_pos h22,z6 (by omega),z6 (by omega),z6 (by omega),z6 (by omega),z6 (by omega)]
  refine (z6 (by first | exact hvA | omega)).trans ?_
  try refine (z6 (by first | exact hvA | omega)).trans ?_
  unfold zra
  rw[hfA]
 rw[if_neg h22,if_neg h22]
 by_cases h23 : op=23
 ·rw[if_pos h23,if_pos h23]
 rw[if_neg h23,if_neg h23]
 by_cases h24 : op=24
 ·rw[if_pos h24,if_pos h24,z6 h]
 rw[if_neg h24,if_neg h24]
theorem z14r (op:Int) (name:ByteArray) (l:List Val) (_ho:WI op) (_hn:WStr name) (_hl:WL .val l) (h:txts l) : zrb op name l=some (z1a (z1x op name l)):=by
 rw[z1cw]
 unfold z1x z7y
 by_cases h1 : (l.length:Int)<(cntN op).1
 ·rw[za,if_pos (decide_eq_true h1),if_pos (.inl h1)]
 rw[za,if_neg (by simpa using h1)]
 by_cases h2 : (cntN op).2=false∧(l.length:Int) > (cntN op).1
 ·rw[if_pos (.inr h2),h2.1,za,if_pos (by decide),za,if_pos (decide_eq_true h2.2)]
 ·rw[if_neg (fun e=>e.elim h1 h2),z11u op name l h (fun e=>e.elim h1 h2)]
  cases hm : (cntN op).2
  ·rw[za,if_pos (by decide),za,if_neg (fun e=>h2 ⟨hm,of_decide_eq_true e⟩)]
  ·rfl
def z94 : FnC Un:=fun args=>match args with
 | [x0,x1,x2]=>(dI .i64 x0).bind fun op=>(dStr x1).bind fun name=>(dL .val x2).bind fun l=>some ([txts l],zuw (z1x op name l),zux (z1x op name l))
 | _=>none
theorem zrc : FnOK 120 z94:=by
 intro args ob rs os h hob
 unfold z94 at h
 split at h
 ·simp only[Option.bind_eq_some_iff,Option.some.injEq,Prod.mk.injEq] at h
  obtain⟨op,e0,name,e1,l,e2,rfl,rfl,rfl⟩:=h
  obtain rfl:=z1t e0
  obtain rfl:=z57 e1
  obtain rfl:=z1i e2
  exact⟨zd (M:=zk1) rfl (zf (l1:=[(156,zew),(157,zet),(159,zhm),(158,z9z),(161,z60),(160,zqp),(155,z6g),(39,z7w),(162,zix),(163,zd0),(164,z70),(165,zgn),(167,ziv),(168,zeu),(169,zev),(170,zdm)]) (l2:=[(166,z4w),(153,z8c)]) (l3:=[]) (l4:=[]) (l5:=[]) ⟨z1cv,z1cl,z1bv,zum,zfz,z1w8,zij,zmm,z1m5,z11q,zm1,z1gv,z1m2,z1cn,z1cp,z19i,trivial⟩ ⟨z1sn,z1wc,trivial⟩ trivial trivial trivial) Tryz.func120 (by kernel_rfl) zuy 0 [.d] (fun hwf=>(z14r op name l (ze hwf (a:=.d (.v (.s (.int .i64 op)))) (List.mem_of_getElem? (i:=0) rfl)) (ze hwf (a:=.d (.v (cs name))) (List.mem_of_getElem? (i:=1) rfl)) (ze hwf (a:=.d (.v (.dat (U:=Un) Ty.val l))) (List.mem_of_getElem? (i:=2) rfl)) (hob _ (List.mem_of_getElem? (i:=0) rfl)))),zb Tryz.func120 (by kernel_rfl) (by kernel_rfl)⟩
 ·simp at h
end
end Go.Proofs.YtjfpbchdcbhfgaaGreat.B
namespace Go.Proofs.YtjfpbchdcbhfgaaGreat.B
open Go Go.RowKit
set_option maxRecDepth 100000
noncomputable section
attribute [local irreducible] awp ctxK z12 z1o retQ z2i
mutual
def Term.ht : Term→Nat
 | .mk _ _ _ _ _ kids sub _=>max (htTs kids) (htRs sub)+1
def htTs : List Term→Nat
 | []=>0
 | t::r=>max t.ht (htTs r)
def Agg.ht : Agg→Nat
 | .mk _ _ t=>htTs t+1
def htAs : List Agg→Nat
 | []=>0
 | t::r=>max t.ht (htAs r)
def Rel.ht : Rel→Nat
 | .mk _ _ _ kids terms aggs _ _ _ _ _=>max (htRs kids) (max (htTs terms) (htAs aggs))+1
def htRs : List Rel→Nat
 | []=>0
 | t::r=>max t.ht (htRs r)
end
theorem zk2 {t:Term} : ∀ {l:List Term},t∈l→t.ht≤htTs l
 | x::l,h=>by
  simp only[htTs]
  rcases List.mem_cons.1 h with rfl | h
  ·omega
  ·have:=zk2 h;omega
theorem z19j {t:Rel} : ∀ {l:List Rel},t∈l→t.ht≤htRs l
 | x::l,h=>by
  simp only[htRs]
  rcases List.mem_cons.1 h with rfl | h
  ·omega
  ·have:=z19j h;omega
theorem z19k {t:Agg} : ∀ {l:List Agg},t∈l→t.ht≤htAs l
 | x::l,h=>by
  simp only[htAs]
  rcases List.mem_cons.1 h with rfl | h
  ·omega
  ·have:=z19k h;omega
theorem Term.ht_kid {t k:Term} (h:k∈t.kids) : k.ht<t.ht:=by
 cases t;simp only[Term.kids_mk] at h;simp only[Term.ht];have:=zk2 h;omega
theorem Term.ht_sub {t:Term} {k:Rel} (h:k∈t.sub) : k.ht<t.ht:=by
 cases t;simp only[Term.sub_mk] at h;simp only[Term.ht];have:=z19j h;omega
theorem Rel.ht_kid {r k:Rel} (h:k∈r.kids) : k.ht<r.ht:=by
 cases r;simp only[Rel.kids_mk] at h;simp only[Rel.ht];have:=z19j h;omega
theorem Rel.ht_agg {r:Rel} {k:Agg} (h:k∈r.aggs) : k.ht<r.ht:=by
 cases r;simp only[Rel.aggs_mk] at h;simp only[Rel.ht];have:=z19k h;omega
theorem z9f {α:Type} {l:List α} {i:Nat} {d:α} (h:i<l.length) : l.getD i d∈l:=by
 rw[List.getD_eq_getElem?_getD,List.getElem?_eq_getElem h];exact List.getElem_mem h
theorem Term.ht_kidD {t:Term} {i:Nat} (h:i<t.kids.length) : (t.kids.getD i z1h).ht<t.ht:=Term.ht_kid (z9f h)
end
end Go.Proofs.YtjfpbchdcbhfgaaGreat.B
