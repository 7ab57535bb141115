/- Part 14 of the proof: Stri. -/
import Derived.Test.YtjfpbchdcbhfgaaGreatNsrt13
namespace Go.Proofs.YtjfpbchdcbhfgaaGreat.B
open Go Go.RowKit
set_option maxRecDepth 100000
noncomputable section
attribute [local irreducible] awp ctxK z12 z1o retQ z2i awf ctxF zt
def z18z : Mc Un:=mach (tbl []) (tbl []) (tbl []) (tbl []) (tbl [])
def z1oy (r:Bool) : List (A Un):=[.c (.s (.bool r))]
def z1oz (_r:Bool) : List (Ob Un):=[]
def zx1 (r:Bool) : RF Un:=(z1oy r,z1oz r)
def z1p0 : Nat→NS:=fun l=>(look l []).getD ⟨[],[],[],[],[],false⟩
def z1k7 (a:Int) : Option (RF Un):=awf z18z z1p0 (z8 Tryz.f232) (zg Tryz.f232.ntmps 0 [.d (.v (.s (.int .i64 a)))]) (retF z18z Tryz.f232.results.toList [.d])
theorem z1yz (a:Int) : z1k7 a=cndO (a == 0) (some (zx1 (true))) (cndO (a == 1) (some (zx1 (true))) (some (zx1 (a == 2)))):=by kernel_rfl
def zue (a:Int) : Bool :=
  if (a == (0:Int))=true then
   (true)
  else
   if (a == (1:Int))=true then
    (true)
   else
    (a == (2:Int))
theorem z1z0 (a:Int) : z1k7 a=some (zx1 (zue a)):=by rw[z1yz];unfold zue;simp only[za];repeat (first | rfl | split)
def zx2 : FnC Un:=fun args=>match args with
 | [x0]=>(dI .i64 x0).bind fun a=>some ([],z1oy (zue a),z1oz (zue a))
 | _=>none
theorem z1z1 : FnOK 232 zx2:=by
 intro args ob rs os h hob
 unfold zx2 at h
 split at h
 ·simp only[Option.bind_eq_some_iff,Option.some.injEq,Prod.mk.injEq] at h
  obtain⟨a,e0,rfl,rfl,rfl⟩:=h
  obtain rfl:=z1t e0
  exact⟨zd (M:=z18z) rfl (zf (l1:=[]) (l2:=[]) (l3:=[]) (l4:=[]) (l5:=[]) trivial trivial trivial trivial trivial) Tryz.func232 (by kernel_rfl) z1p0 0 [.d] (fun hwf=>(z1z0 a)),zb Tryz.func232 (by kernel_rfl) (by kernel_rfl)⟩
 ·simp at h
def z116 : Mc Un:=mach (tbl [(232,zx2)]) (tbl []) (tbl []) (tbl []) (tbl [])
def z1k8 (r:Int) : List (A Un):=[.c (.s (.int .i64 r))]
def z1k9 (_r:Int) : List (Ob Un):=[]
def z117 (r:Int) : RF Un:=(z1k8 r,z1k9 r)
def z1ka : Nat→NS:=fun l=>(look l []).getD ⟨[],[],[],[],[],false⟩
def z1bz (a:Int) : Option (RF Un):=awf z116 z1ka (z8 Tryz.f198) (zg Tryz.f198.ntmps 0 [.d (.v (.s (.int .i64 a)))]) (retF z116 Tryz.f198.results.toList [.d])
theorem z1w4 (a:Int) : z1bz a=cndO (zue a) (some (z117 (a))) (some (z117 ((1:Int)))):=by kernel_rfl
def z5m (a:Int) : Int :=
  if (zue a)=true then
   (a)
  else
   ((1:Int))
theorem z1w5 (a:Int) : z1bz a=some (z117 (z5m a)):=by rw[z1w4];unfold z5m;simp only[za];repeat (first | rfl | split)
def z8p : FnC Un:=fun args=>match args with
 | [x0]=>(dI .i64 x0).bind fun a=>some ([],z1k8 (z5m a),z1k9 (z5m a))
 | _=>none
theorem zne : FnOK 198 z8p:=by
 intro args ob rs os h hob
 unfold z8p at h
 split at h
 ·simp only[Option.bind_eq_some_iff,Option.some.injEq,Prod.mk.injEq] at h
  obtain⟨a,e0,rfl,rfl,rfl⟩:=h
  obtain rfl:=z1t e0
  exact⟨zd (M:=z116) rfl (zf (l1:=[(232,zx2)]) (l2:=[]) (l3:=[]) (l4:=[]) (l5:=[]) ⟨z1z1,trivial⟩ trivial trivial trivial trivial) Tryz.func198 (by kernel_rfl) z1ka 0 [.d] (fun hwf=>(z1w5 a)),zb Tryz.func198 (by kernel_rfl) (by kernel_rfl)⟩
 ·simp at h
def z190 : Mc Un:=mach (tbl []) (tbl []) (tbl []) (tbl []) (tbl [])
def z1p1 (r:Int) : List (A Un):=[.c (.s (.int .i64 r))]
def z1p2 (_r:Int) : List (Ob Un):=[]
def z191 (r:Int) : RF Un:=(z1p1 r,z1p2 r)
def z1p3 : Nat→NS:=fun l=>(look l []).getD ⟨[],[],[],[],[],false⟩
def z1kb (b:Bool) : Option (RF Un):=awf z190 z1p3 (z8 Tryz.f154) (zg Tryz.f154.ntmps 0 [.d (.v (cb b))]) (retF z190 Tryz.f154.results.toList [.d])
theorem z1z2 (b:Bool) : z1kb b=cndO (b) (some (z191 ((2:Int)))) (some (z191 ((0:Int)))):=by kernel_rfl
def zii (b:Bool) : Int :=
  if (b)=true then
   ((2:Int))
  else
   ((0:Int))
theorem z1z3 (b:Bool) : z1kb b=some (z191 (zii b)):=by rw[z1z2];unfold zii;simp only[za];repeat (first | rfl | split)
def zjw : FnC Un:=fun args=>match args with
 | [x0]=>(dB x0).bind fun b=>some ([],z1p1 (zii b),z1p2 (zii b))
 | _=>none
theorem z1kc : FnOK 154 zjw:=by
 intro args ob rs os h hob
 unfold zjw at h
 split at h
 ·simp only[Option.bind_eq_some_iff,Option.some.injEq,Prod.mk.injEq] at h
  obtain⟨b,e0,rfl,rfl,rfl⟩:=h
  obtain rfl:=z1nd e0
  exact⟨zd (M:=z190) rfl (zf (l1:=[]) (l2:=[]) (l3:=[]) (l4:=[]) (l5:=[]) trivial trivial trivial trivial trivial) Tryz.func154 (by kernel_rfl) z1p3 0 [.d] (fun hwf=>(z1z3 b)),zb Tryz.func154 (by kernel_rfl) (by kernel_rfl)⟩
 ·simp at h
def z118 : Mc Un:=mach (tbl [(198,z8p)]) (tbl []) (tbl []) (tbl []) (tbl [])
def z1kd (r:Int) : List (A Un):=[.c (.s (.int .i64 r))]
def z1ke (_r:Int) : List (Ob Un):=[]
def z1kf (r:Int) : RF Un:=(z1kd r,z1ke r)
def z1kg : Nat→NS:=fun l=>(look l []).getD ⟨[],[],[],[],[],false⟩
def z1c0 (a:Int) : Option (RF Un):=awf z118 z1kg (z8 Tryz.f160) (zg Tryz.f160.ntmps 0 [.d (.v (.s (.int .i64 a)))]) (retF z118 Tryz.f160.results.toList [.d])
theorem z1w6 (a:Int) : z1c0 a=some (z1kf (IntKind.i64.wrap ((2:Int) - z5m a))):=by kernel_rfl
def zoa (a:Int) : Int :=
 (IntKind.i64.wrap ((2:Int) - z5m a))
theorem z1w7 (a:Int) : z1c0 a=some (z1kf (zoa a)):=by rw[z1w6];unfold zoa;simp only[za];repeat (first | rfl | split)
def zqp : FnC Un:=fun args=>match args with
 | [x0]=>(dI .i64 x0).bind fun a=>some ([],z1kd (zoa a),z1ke (zoa a))
 | _=>none
theorem z1w8 : FnOK 160 zqp:=by
 intro args ob rs os h hob
 unfold zqp at h
 split at h
 ·simp only[Option.bind_eq_some_iff,Option.some.injEq,Prod.mk.injEq] at h
  obtain⟨a,e0,rfl,rfl,rfl⟩:=h
  obtain rfl:=z1t e0
  exact⟨zd (M:=z118) rfl (zf (l1:=[(198,z8p)]) (l2:=[]) (l3:=[]) (l4:=[]) (l5:=[]) ⟨zne,trivial⟩ trivial trivial trivial trivial) Tryz.func160 (by kernel_rfl) z1kg 0 [.d] (fun hwf=>(z1w7 a)),zb Tryz.func160 (by kernel_rfl) (by kernel_rfl)⟩
 ·simp at h
def z119 : Mc Un:=mach (tbl [(198,z8p)]) (tbl []) (tbl []) (tbl []) (tbl [])
def z1kh (r:Int) : List (A Un):=[.c (.s (.int .i64 r))]
def z1ki (_r:Int) : List (Ob Un):=[]
def z1kj (r:Int) : RF Un:=(z1kh r,z1ki r)
def z1kk : Nat→NS:=fun l=>(look l []).getD ⟨[],[],[],[],[],false⟩
def z1c1 (a:Int) (b:Int) : Option (RF Un):=awf z119 z1kk (z8 Tryz.f166) (zg Tryz.f166.ntmps 0 [.d (.v (.s (.int .i64 a))),.d (.v (.s (.int .i64 b)))]) (retF z119 Tryz.f166.results.toList [.d])
theorem z1w9 (a:Int) (b:Int) : z1c1 a b=some (z1kj (List.foldl (fun a b=>if b<a then b else a) (z5m a) [z5m b])):=by kernel_rfl
def zhn (a:Int) (b:Int) : Int :=
 (List.foldl (fun a b=>if b<a then b else a) (z5m a) [z5m b])
theorem z1wa (a:Int) (b:Int) : z1c1 a b=some (z1kj (zhn a b)):=by rw[z1w9];unfold zhn;simp only[za];repeat (first | rfl | split)
def zqq : FnC Un:=fun args=>match args with
 | [x0,x1]=>(dI .i64 x0).bind fun a=>(dI .i64 x1).bind fun b=>some ([],z1kh (zhn a b),z1ki (zhn a b))
 | _=>none
theorem z1wb : FnOK 166 zqq:=by
 intro args ob rs os h hob
 unfold zqq at h
 split at h
 ·simp only[Option.bind_eq_some_iff,Option.some.injEq,Prod.mk.injEq] at h
  obtain⟨a,e0,b,e1,rfl,rfl,rfl⟩:=h
  obtain rfl:=z1t e0
  obtain rfl:=z1t e1
  exact⟨zd (M:=z119) rfl (zf (l1:=[(198,z8p)]) (l2:=[]) (l3:=[]) (l4:=[]) (l5:=[]) ⟨zne,trivial⟩ trivial trivial trivial trivial) Tryz.func166 (by kernel_rfl) z1kk 0 [.d] (fun hwf=>(z1wa a b)),zb Tryz.func166 (by kernel_rfl) (by kernel_rfl)⟩
 ·simp at h
def z192 : Mc Un:=mach (tbl [(198,z8p)]) (tbl []) (tbl []) (tbl []) (tbl [])
def z1p4 (r:Int) : List (A Un):=[.c (.s (.int .i64 r))]
def z1p5 (_r:Int) : List (Ob Un):=[]
def z1p6 (r:Int) : RF Un:=(z1p4 r,z1p5 r)
def z1p7 : Nat→NS:=fun l=>(look l []).getD ⟨[],[],[],[],[],false⟩
def z1kl (a:Int) (b:Int) : Option (RF Un):=awf z192 z1p7 (z8 Tryz.f153) (zg Tryz.f153.ntmps 0 [.d (.v (.s (.int .i64 a))),.d (.v (.s (.int .i64 b)))]) (retF z192 Tryz.f153.results.toList [.d])
theorem z1z4 (a:Int) (b:Int) : z1kl a b=some (z1p6 (List.foldl (fun a b=>if a<b then b else a) (z5m a) [z5m b])):=by kernel_rfl
def z8h (a:Int) (b:Int) : Int :=
 (List.foldl (fun a b=>if a<b then b else a) (z5m a) [z5m b])
theorem z1z5 (a:Int) (b:Int) : z1kl a b=some (z1p6 (z8h a b)):=by rw[z1z4];unfold z8h;simp only[za];repeat (first | rfl | split)
def ze0 : FnC Un:=fun args=>match args with
 | [x0,x1]=>(dI .i64 x0).bind fun a=>(dI .i64 x1).bind fun b=>some ([],z1p4 (z8h a b),z1p5 (z8h a b))
 | _=>none
theorem z11a : FnOK 153 ze0:=by
 intro args ob rs os h hob
 unfold ze0 at h
 split at h
 ·simp only[Option.bind_eq_some_iff,Option.some.injEq,Prod.mk.injEq] at h
  obtain⟨a,e0,b,e1,rfl,rfl,rfl⟩:=h
  obtain rfl:=z1t e0
  obtain rfl:=z1t e1
  exact⟨zd (M:=z192) rfl (zf (l1:=[(198,z8p)]) (l2:=[]) (l3:=[]) (l4:=[]) (l5:=[]) ⟨zne,trivial⟩ trivial trivial trivial trivial) Tryz.func153 (by kernel_rfl) z1p7 0 [.d] (fun hwf=>(z1z5 a b)),zb Tryz.func153 (by kernel_rfl) (by kernel_rfl)⟩
 ·simp at h
def z4w : FV Un:=z1d (fun a b=>zhn a b)
theorem z1sn : FvOK 166 z4w:=by
 refine⟨zb Tryz.func166 (by kernel_rfl) (by kernel_rfl),fun args ob rs h hob=>?_⟩
 unfold z4w z1d at h
 split at h
 ·simp only[Option.bind_eq_some_iff,Option.some.injEq,Prod.mk.injEq] at h
  obtain⟨a,e0,b,e1,rfl,rfl⟩:=h
  simp only[List.map_cons,List.map_nil]
  rw[z1t e0]
  rw[z1t e1]
  refine Contract.data (z1wb _ ([]) _ _ (?_ : zqq _=some _) (by simp)).1
  unfold zqq
  simp only[z1bc]
  rfl
 ·simp at h
def z8c : FV Un:=z1d (fun a b=>z8h a b)
theorem z1wc : FvOK 153 z8c:=by
 refine⟨zb Tryz.func153 (by kernel_rfl) (by kernel_rfl),fun args ob rs h hob=>?_⟩
 unfold z8c z1d at h
 split at h
 ·simp only[Option.bind_eq_some_iff,Option.some.injEq,Prod.mk.injEq] at h
  obtain⟨a,e0,b,e1,rfl,rfl⟩:=h
  simp only[List.map_cons,List.map_nil]
  rw[z1t e0]
  rw[z1t e1]
  refine Contract.data (z11a _ ([]) _ _ (?_ : ze0 _=some _) (by simp)).1
  unfold ze0
  simp only[z1bc]
  rfl
 ·simp at h
def zsp : Mc Un:=mach (tbl [(198,z8p)]) (tbl []) (tbl []) (tbl []) (tbl [])
def z15q (r:Val) : List (A Un):=[.agg (encC Ty.val r)]
def z15r (_r:Val) : List (Ob Un):=[]
def zko (r:Val) : RF Un:=(z15q r,z15r r)
def z15s : Nat→NS:=fun l=>(look l []).getD ⟨[],[],[],[],[],false⟩
def z11b (a:Int) : Option (RF Un):=awf zsp z15s (z8 Tryz.f155) (zg Tryz.f155.ntmps 0 [.d (.v (.s (.int .i64 a)))]) (retF zsp Tryz.f155.results.toList [.d])
theorem z1p8 (a:Int) : z11b a=cndO (z5m a == 0) (some (zko ({ kind:=(1:Int),n:=(0:Int),s:=(ByteArray.mk #[]) }))) (cndO (z5m a == 2) (some (zko ({ kind:=(1:Int),n:=(1:Int),s:=(ByteArray.mk #[]) }))) (some (zko (z7)))):=by kernel_rfl
def z5j (a:Int) : Val :=
  if (z5m a == (0:Int))=true then
   ({ kind:=(1:Int),n:=(0:Int),s:=(ByteArray.mk #[]) })
  else
   if (z5m a == (2:Int))=true then
    ({ kind:=(1:Int),n:=(1:Int),s:=(ByteArray.mk #[]) })
   else
    (z7)
theorem z1p9 (a:Int) : z11b a=some (zko (z5j a)):=by rw[z1p8];unfold z5j;simp only[za];repeat (first | rfl | split)
def z6g : FnC Un:=fun args=>match args with
 | [x0]=>(dI .i64 x0).bind fun a=>some ([],z15q (z5j a),z15r (z5j a))
 | _=>none
theorem zij : FnOK 155 z6g:=by
 intro args ob rs os h hob
 unfold z6g at h
 split at h
 ·simp only[Option.bind_eq_some_iff,Option.some.injEq,Prod.mk.injEq] at h
  obtain⟨a,e0,rfl,rfl,rfl⟩:=h
  obtain rfl:=z1t e0
  exact⟨zd (M:=zsp) rfl (zf (l1:=[(198,z8p)]) (l2:=[]) (l3:=[]) (l4:=[]) (l5:=[]) ⟨zne,trivial⟩ trivial trivial trivial trivial) Tryz.func155 (by kernel_rfl) z15s 0 [.d] (fun hwf=>(z1p9 a)),zb Tryz.func155 (by kernel_rfl) (by kernel_rfl)⟩
 ·simp at h
def zx3 : Mc Un:=mach (tbl [(154,zjw)]) (tbl []) (tbl []) (tbl []) (tbl [])
def z1c2 (r:Int) : List (A Un):=[.c (.s (.int .i64 r))]
def z1c3 (_r:Int) : List (Ob Un):=[]
def zx4 (r:Int) : RF Un:=(z1c2 r,z1c3 r)
def z1c4 : Nat→NS:=fun l=>(look l []).getD ⟨[],[],[],[],[],false⟩
def z15t (v:Val) : Option (RF Un):=awf zx3 z1c4 (z8 Tryz.f161) (zg Tryz.f161.ntmps 0 [.d (.agg (enc Ty.val v))]) (retF zx3 Tryz.f161.results.toList [.d])
theorem z1so (v:Val) : z15t v=cndO (v.kind != 1) (some (zx4 ((1:Int)))) (some (zx4 (zii (v.n != 0)))):=by kernel_rfl
def z3e (v:Val) : Int :=
  if (v.kind != (1:Int))=true then
   ((1:Int))
  else
   (zii (v.n != (0:Int)))
theorem z1sp (v:Val) : z15t v=some (zx4 (z3e v)):=by rw[z1so];unfold z3e;simp only[za];repeat (first | rfl | split)
def z60 : FnC Un:=fun args=>match args with
 | [x0]=>(dS .val x0).bind fun v=>some ([],z1c2 (z3e v),z1c3 (z3e v))
 | _=>none
theorem zfz : FnOK 161 z60:=by
 intro args ob rs os h hob
 unfold z60 at h
 split at h
 ·simp only[Option.bind_eq_some_iff,Option.some.injEq,Prod.mk.injEq] at h
  obtain⟨v,e0,rfl,rfl,rfl⟩:=h
  obtain rfl:=z18 e0
  exact⟨zd (M:=zx3) rfl (zf (l1:=[(154,zjw)]) (l2:=[]) (l3:=[]) (l4:=[]) (l5:=[]) ⟨z1kc,trivial⟩ trivial trivial trivial trivial) Tryz.func161 (by kernel_rfl) z1c4 0 [.d] (fun hwf=>(z1sp v)),zb Tryz.func161 (by kernel_rfl) (by kernel_rfl)⟩
 ·simp at h
def zho : Mc Un:=mach (tbl [(153,ze0)]) (tbl []) (tbl []) (tbl []) (tbl [])
def z1km (r:Int) : List (A Un):=[.c (.s (.int .i64 r))]
def z1kn (_r:Int) : List (Ob Un):=[]
def z1ko (r:Int) : RF Un:=(z1km r,z1kn r)
def zhp : Nat→NS:=fun l=>(look l [(3,{ ts:=bl 17 456,bs:=bl 17 0,nm:=[] })]).getD ⟨[],[],[],[],[],false⟩
def zeo (l:List Int) (v0:Int) (v1:Int) : S Un:=(st 17 17 68 0 [(3,ai v0),(6,al .int l),(7,ai (↑l.length:Int)),(8,ai v1)] [] [])
noncomputable def z1c5 : Code:=sub (z8 Tryz.f208) [1,1,0,1,2,2]
def znf : S Un→Option (EX Un):=zt (zhp 3) (fun s Q=>awf zho zhp z1c5 s Q)
def z1c6 : Exit→S Un→Option (RF Un):=ctxF zho zhp (z8 Tryz.f208) [1,1,0,1,2] (retF zho Tryz.f208.results.toList [.d])
def z1c7 (l:List Int) : Option (RF Un):=awf zho zhp (z8 Tryz.f208) (zg Tryz.f208.ntmps 0 [.d (.v (.dat (U:=Un) Ty.int l))]) (retF zho Tryz.f208.results.toList [.d])
theorem z1wd (l:List Int) : z1c7 l=(znf (zeo l (0:Int) (0:Int))).bind (zx z1c6):=by kernel_rfl
theorem z1c8 (l:List Int) (v0:Int) (v1:Int) : znf (zeo l v0 v1)=cndO (decide (v1<(↑l.length:Int))) (obO (0≤v1∧v1<(↑l.length:Int)) (znf (zeo l (z8h v0 (l.getD v1.toNat (0:Int))) (IntKind.i64.wrap (v1+1))))) (some (.exit 0,(zeo l v0 v1))):=(z11 (zhp 3) z1c5 _).trans (by kernel_rfl)
theorem z1ls (l:List Int) (v0:Int) (v1:Int) : z1c6 (.exit 0) (zeo l v0 v1)=some (z1ko (v0)):=by kernel_rfl
def zuf (l:List Int) : Int:=l.foldl (fun m a=>z8h m a) 0
theorem z1pa (l:List Int) (hl:WL .int l) : z1c7 l=some (z1ko (zuf l)):=by
 obtain⟨lp,_⟩:=z42 (e:=.exit 0) (L:=znf) (st:=fun (m:Int) i=>zeo l m i) (l:=l) (d:=0) (g:=fun m a=>z8h m a) (fun _ _=>True) hl.len
  (fun m i x hi hx _=>by
   refine⟨trivial,?_⟩
   rw[z1c8]
   simp only[za,hi,decide_true,if_true,and_true,Int.toNat_natCast,hx]
   rw[z6 (by omega)])
  (fun m _=>by rw[z1c8];simp [za]) 0 trivial
 rw[z1wd,zn lp,z1ls]
 rfl
def zqr : FnC Un:=fun args=>match args with
 | [x0]=>(dL .int x0).bind fun l=>some ([],z1km (zuf l),z1kn (zuf l))
 | _=>none
theorem z1we : FnOK 208 zqr:=by
 intro args ob rs os h hob
 unfold zqr at h
 split at h
 ·simp only[Option.bind_eq_some_iff,Option.some.injEq,Prod.mk.injEq] at h
  obtain⟨l,e0,rfl,rfl,rfl⟩:=h
  obtain rfl:=z1i e0
  exact⟨zd (M:=zho) rfl (zf (l1:=[(153,ze0)]) (l2:=[]) (l3:=[]) (l4:=[]) (l5:=[]) ⟨z11a,trivial⟩ trivial trivial trivial trivial) Tryz.func208 (by kernel_rfl) zhp 0 [.d] (fun hwf=>(z1pa l (ze hwf (a:=.d (.v (.dat (U:=Un) Ty.int l))) (List.mem_of_getElem? (i:=0) rfl)))),zb Tryz.func208 (by kernel_rfl) (by kernel_rfl)⟩
 ·simp at h
end
end Go.Proofs.YtjfpbchdcbhfgaaGreat.B
