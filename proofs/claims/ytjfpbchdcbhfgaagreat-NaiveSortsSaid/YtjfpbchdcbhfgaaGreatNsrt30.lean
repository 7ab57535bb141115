/- Part 30 of the proof: Snaive6 Sr03b Sr03l Swidths Sr15w. -/
import Derived.Test.YtjfpbchdcbhfgaaGreatNsrt29
namespace Go.Proofs.YtjfpbchdcbhfgaaGreat.B
open Go Go.RowKit
set_option maxRecDepth 100000
noncomputable section
attribute [local irreducible] awp ctxK z12 z1o retQ z2i awf ctxF zt
def ztb : Mc Un:=mach (tbl []) (tbl []) (tbl []) (tbl []) (tbl [])
def z16z (r:List (List Val)) : List (A Un):=[.c (.sl (U:=Un) Ty.row r false)]
def z170 (_r:List (List Val)) : List (Ob Un):=[]
def z171 (r:List (List Val)) : RF Un:=(z16z r,z170 r)
def z172 : Nat→NS:=fun l=>(look l []).getD ⟨[],[],[],[],[],true⟩
def z13f (s:List (List Val)) : Option (RF Un):=awf ztb z172 (z8 Tryz.f44) (zg Tryz.f44.ntmps 0 [.d (.v (.dat (U:=Un) Ty.row s))]) (retF ztb Tryz.f44.results.toList [.d])
theorem z1r8 (s:List (List Val)) : z13f s=obO ((0:Int)≤(↑s.length:Int)∧(↑s.length:Int)=(↑s.length:Int)∧(↑s.length:Int)≤(↑s.length:Int)) (some (z171 (List.take (↑s.length:Int).toNat s))):=by kernel_rfl
def zs4 (s:List (List Val)) : List (List Val):=s
theorem z1i1 (s:List (List Val)) (hs:WL .row s) : z13f s=some (z171 (zs4 s)):=by
 rw[z1r8,z6 (by omega),Int.toNat_natCast,List.take_length]
 rfl
def zl6 : FnC Un:=fun args=>match args with
 | [x0]=>(dL .row x0).bind fun s=>some ([],z16z (zs4 s),z170 (zs4 s))
 | _=>none
theorem z1r9 : FnOK 44 zl6:=by
 intro args ob rs os h hob
 unfold zl6 at h
 split at h
 ·simp only[Option.bind_eq_some_iff,Option.some.injEq,Prod.mk.injEq] at h
  obtain⟨s,e0,rfl,rfl,rfl⟩:=h
  obtain rfl:=z1i e0
  exact⟨zd (M:=ztb) rfl (zf (l1:=[]) (l2:=[]) (l3:=[]) (l4:=[]) (l5:=[]) trivial trivial trivial trivial trivial) Tryz.func44 (by kernel_rfl) z172 0 [.d] (fun hwf=>(z1i1 s (ze hwf (a:=.d (.v (.dat (U:=Un) Ty.row s))) (List.mem_of_getElem? (i:=0) rfl)))),zb Tryz.func44 (by kernel_rfl) (by kernel_rfl)⟩
 ·simp at h
def ztc : Mc Un:=mach (tbl [(45,zl5),(44,zl6)]) (tbl []) (tbl []) (tbl []) (tbl [])
def z173 (r:List (List Val)) : List (A Un):=[.c (.sl (U:=Un) Ty.row r false)]
def z174 (_r:List (List Val)) : List (Ob Un):=[]
def z175 (r:List (List Val)) : RF Un:=(z173 r,z174 r)
def z176 : Nat→NS:=fun l=>(look l []).getD ⟨[],[],[],[],[],true⟩
def z13g (r:Rel) (env:List (List Val)) (db:List Data) : Option (RF Un):=awf ztc z176 (z8 Tryz.f16) (zg Tryz.f16.ntmps 0 [.d (.agg (enc Ty.rel r)),.d (.v (.dat (U:=Un) Ty.row env)),.d (.v (.dat (U:=Un) Ty.data db))]) (retF ztc Tryz.f16.results.toList [.d])
theorem z1ra (r:Rel) (env:List (List Val)) (db:List Data) : z13g r env db=obO (okRl { env:=env,db:=db } (Rel.ids r)) (some (z175 (zs4 (z75 { env:=env,db:=db } (Rel.ids r))))):=by kernel_rfl
def zs5 (r:Rel) (env:List (List Val)) (db:List Data) : List (List Val):=z75 ⟨env,db⟩ r
theorem z1i2 (r:Rel) (env:List (List Val)) (db:List Data) (_hr:WS .rel r) (_he:WL .row env) (_hd:WL .data db) (h:okRl ⟨env,db⟩ r) : z13g r env db=some (z175 (zs5 r env db)):=by
 rw[z1ra]
 simp only[Rel.ids_eq]
 rw[z6 h]
 rfl
def zl7 : FnC Un:=fun args=>match args with
 | [x0,x1,x2]=>(dS .rel x0).bind fun r=>(dL .row x1).bind fun env=>(dL .data x2).bind fun db=>some ([okRl ⟨env,db⟩ r],z173 (zs5 r env db),z174 (zs5 r env db))
 | _=>none
theorem z1rb : FnOK 16 zl7:=by
 intro args ob rs os h hob
 unfold zl7 at h
 split at h
 ·simp only[Option.bind_eq_some_iff,Option.some.injEq,Prod.mk.injEq] at h
  obtain⟨r,e0,env,e1,db,e2,rfl,rfl,rfl⟩:=h
  obtain rfl:=z18 e0
  obtain rfl:=z1i e1
  obtain rfl:=z1i e2
  exact⟨zd (M:=ztc) rfl (zf (l1:=[(45,zl5),(44,zl6)]) (l2:=[]) (l3:=[]) (l4:=[]) (l5:=[]) ⟨z1r7,z1r9,trivial⟩ trivial trivial trivial trivial) Tryz.func16 (by kernel_rfl) z176 0 [.d] (fun hwf=>(z1i2 r env db (ze hwf (a:=.d (.agg (enc Ty.rel r))) (List.mem_of_getElem? (i:=0) rfl)) (ze hwf (a:=.d (.v (.dat (U:=Un) Ty.row env))) (List.mem_of_getElem? (i:=1) rfl)) (ze hwf (a:=.d (.v (.dat (U:=Un) Ty.data db))) (List.mem_of_getElem? (i:=2) rfl)) (hob _ (List.mem_of_getElem? (i:=0) rfl)))),zb Tryz.func16 (by kernel_rfl) (by kernel_rfl)⟩
 ·simp at h
def ztd : Mc Un:=mach (tbl [(16,zl7)]) (tbl []) (tbl []) (tbl []) (tbl [])
def z177 (r:List (List Val)) : List (A Un):=[.c (.sl (U:=Un) Ty.row r false)]
def z178 (_r:List (List Val)) : List (Ob Un):=[]
def z179 (r:List (List Val)) : RF Un:=(z177 r,z178 r)
def z17a : Nat→NS:=fun l=>(look l []).getD ⟨[],[],[],[],[],true⟩
def z13h (r:Rel) (db:List Data) : Option (RF Un):=awf ztd z17a (z8 Tryz.f14) (zg Tryz.f14.ntmps 0 [.d (.agg (enc Ty.rel r)),.d (.v (.dat (U:=Un) Ty.data db))]) (retF ztd Tryz.f14.results.toList [.d])
theorem z1rc (r:Rel) (db:List Data) : z13h r db=obO (okRl { env:=[],db:=db } (Rel.ids r)) (some (z179 (zs5 (Rel.ids r) [] db))):=by kernel_rfl
def z44 (r:Rel) (db:List Data) : List (List Val):=z75 ⟨[],db⟩ r
theorem z1i3 (r:Rel) (db:List Data) (_hr:WS .rel r) (_hd:WL .data db) (h:okRl ⟨[],db⟩ r) : z13h r db=some (z179 (z44 r db)):=by
 rw[z1rc]
 simp only[Rel.ids_eq]
 rw[z6 h]
 rfl
def zdd : FnC Un:=fun args=>match args with
 | [x0,x1]=>(dS .rel x0).bind fun r=>(dL .data x1).bind fun db=>some ([okRl ⟨[],db⟩ r],z177 (z44 r db),z178 (z44 r db))
 | _=>none
theorem z13i : FnOK 14 zdd:=by
 intro args ob rs os h hob
 unfold zdd at h
 split at h
 ·simp only[Option.bind_eq_some_iff,Option.some.injEq,Prod.mk.injEq] at h
  obtain⟨r,e0,db,e1,rfl,rfl,rfl⟩:=h
  obtain rfl:=z18 e0
  obtain rfl:=z1i e1
  exact⟨zd (M:=ztd) rfl (zf (l1:=[(16,zl7)]) (l2:=[]) (l3:=[]) (l4:=[]) (l5:=[]) ⟨z1rb,trivial⟩ trivial trivial trivial trivial) Tryz.func14 (by kernel_rfl) z17a 0 [.d] (fun hwf=>(z1i3 r db (ze hwf (a:=.d (.agg (enc Ty.rel r))) (List.mem_of_getElem? (i:=0) rfl)) (ze hwf (a:=.d (.v (.dat (U:=Un) Ty.data db))) (List.mem_of_getElem? (i:=1) rfl)) (hob _ (List.mem_of_getElem? (i:=0) rfl)))),zb Tryz.func14 (by kernel_rfl) (by kernel_rfl)⟩
 ·simp at h
end
end Go.Proofs.YtjfpbchdcbhfgaaGreat.B
namespace Go.Proofs.YtjfpbchdcbhfgaaGreat.B
open Go Go.RowKit
set_option maxRecDepth 100000
noncomputable section
attribute [local irreducible] awp ctxK z12 z1o retQ z2i awf ctxF zt
theorem z22i (x y:List Val) : (z6p x y == 0)=deq x y:=by
 have h:=z1ud x y
 cases h1 : (z6p x y == 0)<;>cases h2 : deq x y<;>simp_all [bne]
def zde : Mc Un:=mach (tbl [(43,zbf)]) (tbl []) (tbl []) (tbl []) (tbl [])
def z17b (r:Int) : List (A Un):=[.c (.s (.int .i64 r))]
def z17c (_r:Int) : List (Ob Un):=[]
def z17d (r:Int) : RF Un:=(z17b r,z17c r)
def zdf : Nat→NS:=fun l=>(look l [(3,{ ts:=bl 23 99,bs:=bl 23 0,nm:=[],cs:=true })]).getD ⟨[],[],[],[],[],true⟩
def z9k (l:List (List Val)) (r:List Val) (v0:Int) (v1:Int) : S Un:=(st 23 23 92 0 [(0,al .row l),(1,al .val r),(5,ai v0),(6,ai v1)] [] [])
noncomputable def z13j : Code:=sub (z8 Tryz.f63) [1,1,0,1,2,2]
def zed : S Un→Option (EX Un):=zt (zdf 3) (fun s Q=>awf zde zdf z13j s Q)
def z13k : Exit→S Un→Option (RF Un):=ctxF zde zdf (z8 Tryz.f63) [1,1,0,1,2] (retF zde Tryz.f63.results.toList [.d])
def z13l (l:List (List Val)) (r:List Val) : Option (RF Un):=awf zde zdf (z8 Tryz.f63) (zg Tryz.f63.ntmps 0 [.d (.v (.dat (U:=Un) Ty.row l)),.d (.v (.dat (U:=Un) Ty.val r))]) (retF zde Tryz.f63.results.toList [.d])
theorem z1rd (l:List (List Val)) (r:List Val) : z13l l r=(zed (z9k l r (0:Int) (0:Int))).bind (zx z13k):=by kernel_rfl
theorem z13m (l:List (List Val)) (r:List Val) (v0:Int) (v1:Int) : zed (z9k l r v0 v1)=cndO (decide (v1<(↑l.length:Int))) (obO (0≤v1∧v1<(↑l.length:Int)) (cndO (z6p (l.getD v1.toNat []) r == 0) (zed (z9k l r (IntKind.i64.wrap (v0+1)) (IntKind.i64.wrap (v1+1)))) (zed (z9k l r v0 (IntKind.i64.wrap (v1+1)))))) (some (.exit 0,(z9k l r v0 v1))):=(z11 (zdf 3) z13j _).trans (by kernel_rfl)
theorem z1em (l:List (List Val)) (r:List Val) (v0:Int) (v1:Int) : z13k (.exit 0) (z9k l r v0 v1)=some (z17d (v0)):=by kernel_rfl
noncomputable def z3s (l:List (List Val)) (r:List Val) : Int:=((l.countP fun x=>deq x r:Nat):Int)
theorem z1i4 (l:List (List Val)) (r:List Val) (hl:WL .row l) (_hr:WL .val r) : z13l l r=some (z17d (z3s l r)):=by
 rw[z1rd]
 have hlen:=hl.len
 obtain⟨lp,hI⟩:=z42 (e:=.exit 0) (L:=zed) (st:=fun (n:Int) i=>z9k l r n i) (l:=l) (d:=[]) (g:=fun (n:Int) x=>if deq x r=true then n+1 else n) (fun i n=>0≤n∧n≤(i:Int)) hlen
  (fun n i x hi hx hI=>by
   obtain⟨i1,i2⟩ : 0≤n∧n≤(i:Int):=hI
   rw[z13m,z22i]
   simp only[za,hi,decide_true,if_true,and_true,Int.toNat_natCast,hx]
   rw[z6 (by omega)]
   by_cases c : deq x r=true
   ·rw[if_pos c,if_pos c,z2n (show (-9223372036854775808:Int)≤n+1∧n+1≤9223372036854775807 by omega)]
    exact⟨⟨by omega,by push_cast;omega⟩,rfl⟩
   ·rw[if_neg c,if_neg c]
    exact⟨⟨i1,by push_cast;omega⟩,rfl⟩)
  (fun n _=>by rw[z13m];simp [za]) 0 ⟨Int.le_refl _,Int.le_refl _⟩
 refine (zn lp).trans ?_
 rw[z1em]
 have key:∀ (l:List (List Val)) (n:Int),l.foldl (fun (n:Int) x=>if deq x r=true then n+1 else n) n=n+((l.countP fun x=>deq x r:Nat):Int):=by
  intro l
  induction l with
  | nil=>intro n;simp
  | cons x l ih =>
   intro n
   rw[List.foldl_cons,ih,List.countP_cons]
   split<;>push_cast<;>omega
 rw[key,Int.zero_add]
 rfl
def zl8 : FnC Un:=fun args=>match args with
 | [x0,x1]=>(dL .row x0).bind fun l=>(dL .val x1).bind fun r=>some ([],z17b (z3s l r),z17c (z3s l r))
 | _=>none
theorem z1re : FnOK 63 zl8:=by
 intro args ob rs os h hob
 unfold zl8 at h
 split at h
 ·simp only[Option.bind_eq_some_iff,Option.some.injEq,Prod.mk.injEq] at h
  obtain⟨l,e0,r,e1,rfl,rfl,rfl⟩:=h
  obtain rfl:=z1i e0
  obtain rfl:=z1i e1
  exact⟨zd (M:=zde) rfl (zf (l1:=[(43,zbf)]) (l2:=[]) (l3:=[]) (l4:=[]) (l5:=[]) ⟨zy9,trivial⟩ trivial trivial trivial trivial) Tryz.func63 (by kernel_rfl) zdf 0 [.d] (fun hwf=>(z1i4 l r (ze hwf (a:=.d (.v (.dat (U:=Un) Ty.row l))) (List.mem_of_getElem? (i:=0) rfl)) (ze hwf (a:=.d (.v (.dat (U:=Un) Ty.val r))) (List.mem_of_getElem? (i:=1) rfl)))),zb Tryz.func63 (by kernel_rfl) (by kernel_rfl)⟩
 ·simp at h
def zi0 : Mc Un:=mach (tbl [(63,zl8)]) (tbl []) (tbl []) (tbl []) (tbl [])
def z1lc (r:Bool) : List (A Un):=[.c (.s (.bool r))]
def z1ld (_r:Bool) : List (Ob Un):=[]
def zs6 (r:Bool) : RF Un:=(z1lc r,z1ld r)
def zi1 : Nat→NS:=fun l=>(look l [(2,{ ts:=bl 30 51,bs:=bl 30 0,nm:=[],cs:=true })]).getD ⟨[],[],[],[],[],true⟩
def z7p (a:List (List Val)) (b:List (List Val)) (v0:Int) : S Un:=(st 30 30 120 0 [(0,al .row a),(1,al .row b),(4,ab false),(5,ai v0)] [] [])
noncomputable def z1en : Code:=sub (z8 Tryz.f27) [1,0,1,2,2]
def zjh : S Un→Option (EX Un):=zt (zi1 2) (fun s Q=>awf zi0 zi1 z1en s Q)
def znr : Exit→S Un→Option (RF Un):=ctxF zi0 zi1 (z8 Tryz.f27) [1,0,1,2] (retF zi0 Tryz.f27.results.toList [.d])
def z1eo (a:List (List Val)) (b:List (List Val)) : Option (RF Un):=awf zi0 zi1 (z8 Tryz.f27) (zg Tryz.f27.ntmps 0 [.d (.v (.dat (U:=Un) Ty.row a)),.d (.v (.dat (U:=Un) Ty.row b))]) (retF zi0 Tryz.f27.results.toList [.d])
theorem z1x4 (a:List (List Val)) (b:List (List Val)) : z1eo a b=(zjh (z7p a b (0:Int))).bind (zx znr):=by kernel_rfl
theorem z1ep (a:List (List Val)) (b:List (List Val)) (v0:Int) : zjh (z7p a b v0)=cndO (decide (v0<(↑a.length:Int))) (obO (0≤v0∧v0<(↑a.length:Int)) (obO (0≤v0∧v0<(↑a.length:Int)) (cndO (z3s a (a.getD v0.toNat []) != z3s b (a.getD v0.toNat [])) (some (.ret,(z7p a b v0))) (zjh (z7p a b (IntKind.i64.wrap (v0+1))))))) (some (.exit 0,(z7p a b v0))):=(z11 (zi1 2) z1en _).trans (by kernel_rfl)
theorem z1i5 (a:List (List Val)) (b:List (List Val)) (v0:Int) : znr .ret (z7p a b v0)=some (zs6 (false)):=by kernel_rfl
theorem z1mx (a:List (List Val)) (b:List (List Val)) (v0:Int) : znr (.exit 0) (z7p a b v0)=some (zs6 ((↑a.length:Int) == (↑b.length:Int))):=by kernel_rfl
noncomputable def zod (a b:List (List Val)) : Bool:=(a.all fun x=>z3s a x == z3s b x) && ((a.length:Int) == (b.length:Int))
theorem z1rf (a b:List (List Val)) (ha:WL .row a) (_hb:WL .row b) : z1eo a b=some (zs6 (zod a b)):=by
 have key:∀ (r:List (List Val)) (i:Nat),a.drop i=r→i≤a.length→(zjh (z7p a b i)).bind (zx znr)=some (zs6 ((r.all fun x=>z3s a x == z3s b x) && ((a.length:Int) == (b.length:Int)))):=by
  intro r
  induction r with
  | nil =>
   intro i hr hi
   have : a.length≤i:=by rw[← List.drop_eq_nil_iff];exact hr
   have e:zjh (z7p a b i)=some (.exit 0,z7p a b i):=by rw[z1ep,za,if_neg (by simp;omega)]
   rw[zn e,z1mx];rfl
  | cons x r ih =>
   intro i hr hi
   obtain⟨a1,a2,a3,hm⟩:=z31 hr
   have hx:a.getD i []=x:=a2 []
   have hl:=z1ep a b i
   simp only[za,Int.toNat_natCast,hx] at hl
   rw[if_pos (by simp;omega),z6 (by omega),z6 (by omega)] at hl
   by_cases hf : (z3s a x == z3s b x)=true
   ·have hn:¬ (z3s a x != z3s b x)=true:=by simp [bne,hf]
    rw[if_neg hn,z4v a1 ha.len] at hl
    rw[hl,ih (i+1) a3 (by omega),List.all_cons,hf,Bool.true_and]
   ·have hn:(z3s a x != z3s b x)=true:=by simp [bne,hf]
    rw[if_pos hn] at hl
    rw[zn hl,z1i5,List.all_cons,Bool.eq_false_iff.2 hf,Bool.false_and,Bool.false_and]
 rw[z1x4]
 exact key a 0 rfl (Nat.zero_le _)
def zs7 : FnC Un:=fun args=>match args with
 | [x0,x1]=>(dL .row x0).bind fun a=>(dL .row x1).bind fun b=>some ([],z1lc (zod a b),z1ld (zod a b))
 | _=>none
theorem z1x5 : FnOK 27 zs7:=by
 intro args ob rs os h hob
 unfold zs7 at h
 split at h
 ·simp only[Option.bind_eq_some_iff,Option.some.injEq,Prod.mk.injEq] at h
  obtain⟨a,e0,b,e1,rfl,rfl,rfl⟩:=h
  obtain rfl:=z1i e0
  obtain rfl:=z1i e1
  exact⟨zd (M:=zi0) rfl (zf (l1:=[(63,zl8)]) (l2:=[]) (l3:=[]) (l4:=[]) (l5:=[]) ⟨z1re,trivial⟩ trivial trivial trivial trivial) Tryz.func27 (by kernel_rfl) zi1 0 [.d] (fun hwf=>(z1rf a b (ze hwf (a:=.d (.v (.dat (U:=Un) Ty.row a))) (List.mem_of_getElem? (i:=0) rfl)) (ze hwf (a:=.d (.v (.dat (U:=Un) Ty.row b))) (List.mem_of_getElem? (i:=1) rfl)))),zb Tryz.func27 (by kernel_rfl) (by kernel_rfl)⟩
 ·simp at h
theorem z1x6 {a b:List (List Val)} (h:a.Perm b) (x:List Val) : z3s a x=z3s b x:=by
 unfold z3s
 rw[h.countP_eq]
theorem z22j {a b:List (List Val)} (h:a.Perm b) : zod a b=true:=by
 unfold zod
 rw[Bool.and_eq_true,List.all_eq_true]
 refine⟨fun x _=>?_,?_⟩
 ·rw[z1x6 h x];simp
 ·rw[h.length_eq];simp
end
end Go.Proofs.YtjfpbchdcbhfgaaGreat.B
namespace Go.Proofs.YtjfpbchdcbhfgaaGreat.B
open Go Go.RowKit
set_option maxRecDepth 100000
noncomputable section
attribute [local irreducible] awp ctxK z12 z1o retQ z2i awf ctxF zt
def zfa : Mc Un:=mach (tbl [(43,zbf)]) (tbl []) (tbl []) (tbl []) (tbl [])
def z1eq (r:Bool) : List (A Un):=[.c (.s (.bool r))]
def z1er (_r:Bool) : List (Ob Un):=[]
def zns (r:Bool) : RF Un:=(z1eq r,z1er r)
def zfb : Nat→NS:=fun l=>(look l [(2,{ ts:=bl 33 51,bs:=bl 33 0,nm:=[],cs:=true })]).getD ⟨[],[],[],[],[],true⟩
def z7q (a:List (List Val)) (b:List (List Val)) (v0:Int) : S Un:=(st 33 33 132 0 [(0,al .row a),(1,al .row b),(4,ab false),(5,ai v0)] [] [])
noncomputable def z17e : Code:=sub (z8 Tryz.f13) [1,0,1,2,2]
def zl9 : S Un→Option (EX Un):=zt (zfb 2) (fun s Q=>awf zfa zfb z17e s Q)
def zte : Exit→S Un→Option (RF Un):=ctxF zfa zfb (z8 Tryz.f13) [1,0,1,2] (retF zfa Tryz.f13.results.toList [.d])
def z17f (a:List (List Val)) (b:List (List Val)) : Option (RF Un):=awf zfa zfb (z8 Tryz.f13) (zg Tryz.f13.ntmps 0 [.d (.v (.dat (U:=Un) Ty.row a)),.d (.v (.dat (U:=Un) Ty.row b))]) (retF zfa Tryz.f13.results.toList [.d])
theorem z1te (a:List (List Val)) (b:List (List Val)) : z17f a b=(zl9 (z7q a b (0:Int))).bind (zx zte):=by kernel_rfl
theorem z17g (a:List (List Val)) (b:List (List Val)) (v0:Int) : zl9 (z7q a b v0)=cndO (decide (v0<(↑a.length:Int))) (cndO (decide (v0<(↑b.length:Int))) (obO (0≤v0∧v0<(↑a.length:Int)) (obO (0≤v0∧v0<(↑b.length:Int)) (cndO (z6p (a.getD v0.toNat []) (b.getD v0.toNat []) != 0) (some (.ret,(z7q a b v0))) (zl9 (z7q a b (IntKind.i64.wrap (v0+1))))))) (some (.exit 0,(z7q a b v0)))) (some (.exit 0,(z7q a b v0))):=(z11 (zfb 2) z17e _).trans (by kernel_rfl)
theorem z1es (a:List (List Val)) (b:List (List Val)) (v0:Int) : zte .ret (z7q a b v0)=some (zns (false)):=by kernel_rfl
theorem z1i6 (a:List (List Val)) (b:List (List Val)) (v0:Int) : zte (.exit 0) (z7q a b v0)=some (zns ((↑a.length:Int) == (↑b.length:Int))):=by kernel_rfl
noncomputable def zhc (a b:List (List Val)) : Bool:=deq a b
theorem z1my (a b:List (List Val)) (ha:WL .row a) (_hb:WL .row b) : z17f a b=some (zns (zhc a b)):=by
 rw[z1te]
 exact z21m (L:=zl9) (st:=fun i=>z7q a b i) (fun r=>some (zns r)) (d:=[]) ha.len
  (fun i hi hj=>by
   rw[z17g,z1ud]
   simp only[za,Int.toNat_natCast]
   rw[if_pos (by simp;omega),if_pos (by simp;omega),z6 (by omega),z6 (by omega)]
   cases deq (a.getD i []) (b.getD i [])<;>simp)
  (fun i h=>by
   rw[z17g]
   simp only[za,decide_eq_true_eq]
   by_cases h1 : (i:Int)<(a.length:Int)
   ·rw[if_pos h1,if_neg (by omega)]
   ·rw[if_neg h1])
  (fun i=>z1es _ _ _) (fun i=>z1i6 _ _ _)
def znt : FnC Un:=fun args=>match args with
 | [x0,x1]=>(dL .row x0).bind fun a=>(dL .row x1).bind fun b=>some ([],z1eq (zhc a b),z1er (zhc a b))
 | _=>none
theorem z1tf : FnOK 13 znt:=by
 intro args ob rs os h hob
 unfold znt at h
 split at h
 ·simp only[Option.bind_eq_some_iff,Option.some.injEq,Prod.mk.injEq] at h
  obtain⟨a,e0,b,e1,rfl,rfl,rfl⟩:=h
  obtain rfl:=z1i e0
  obtain rfl:=z1i e1
  exact⟨zd (M:=zfa) rfl (zf (l1:=[(43,zbf)]) (l2:=[]) (l3:=[]) (l4:=[]) (l5:=[]) ⟨zy9,trivial⟩ trivial trivial trivial trivial) Tryz.func13 (by kernel_rfl) zfb 0 [.d] (fun hwf=>(z1my a b (ze hwf (a:=.d (.v (.dat (U:=Un) Ty.row a))) (List.mem_of_getElem? (i:=0) rfl)) (ze hwf (a:=.d (.v (.dat (U:=Un) Ty.row b))) (List.mem_of_getElem? (i:=1) rfl)))),zb Tryz.func13 (by kernel_rfl) (by kernel_rfl)⟩
 ·simp at h
end
end Go.Proofs.YtjfpbchdcbhfgaaGreat.B
namespace Go.Proofs.YtjfpbchdcbhfgaaGreat.B
open Go Go.RowKit
set_option maxRecDepth 100000
noncomputable section
attribute [local irreducible] awp ctxK z12 z1o retQ z2i awf ctxF zt
def z79 (op:Int) : Int:=if op=1∨op=2 then 0 else if op=3∨op=4∨op=7∨op=8∨op=12∨op=13 then 1 else if op=5∨op=6∨op=9∨op=10∨op=11 then 2 else -1
mutual
def z45 : Rel→Int
 | .mk op _ cols kids terms aggs _ _ _ _ _ =>
  if z79 op<0∨(kids.length:Int)<z79 op then 0
  else if op=1∨op=2 then cols.length
  else if op=4 then terms.length
  else if op=7 then IntKind.i64.wrap ((terms.length:Int)+aggs.length)
  else if op=5∨op=6 then IntKind.i64.wrap ((zfc kids).getD 0 0+(zfc kids).getD 1 0)
  else (zfc kids).getD 0 0
def zfc : List Rel→List Int
 | []=>[]
 | r::l=>z45 r::zfc l
end
theorem z205 (r:Rel) : z45 r=if z79 r.op<0∨(r.kids.length:Int)<z79 r.op then 0 else if r.op=1∨r.op=2 then (r.cols.length:Int) else if r.op=4 then (r.terms.length:Int) else if r.op=7 then IntKind.i64.wrap ((r.terms.length:Int)+r.aggs.length) else if r.op=5∨r.op=6 then IntKind.i64.wrap ((zfc r.kids).getD 0 0+(zfc r.kids).getD 1 0) else (zfc r.kids).getD 0 0:=by cases r;simp only[z45];rfl
theorem ztf : ∀ (l:List Rel) (i:Nat),i<l.length→(zfc l).getD i 0=z45 (l.getD i zi)
 | r::l,0,_=>rfl
 | r::l,i+1,h=>by
  simp only[zfc,List.getD_cons_succ]
  exact ztf l i (by simpa using h)
theorem z206 {op:Int} (h:¬ z79 op<0) (h1:¬ (op=1∨op=2)) : 1≤z79 op:=by
 unfold z79 at h ⊢
 rw[if_neg h1] at h ⊢
 split
 ·omega
 ·rename_i h2
  rw[if_neg h2] at h
  split
  ·omega
  ·rename_i h3
   rw[if_neg h3] at h
   omega
theorem z207 {op:Int} (h:op=5∨op=6) : z79 op=2:=by
 rcases h with rfl | rfl<;>rfl
end
end Go.Proofs.YtjfpbchdcbhfgaaGreat.B
namespace Go.Proofs.YtjfpbchdcbhfgaaGreat.B
open Go Go.RowKit
set_option maxRecDepth 100000
noncomputable section
attribute [local irreducible] awp ctxK z12 z1o retQ z2i awf ctxF zt
def zxu : Mc Un:=mach (tbl []) (tbl []) (tbl []) (tbl []) (tbl [])
def z1et (r:Int) : List (A Un):=[.c (.s (.int .i64 r))]
def z1eu (_r:Int) : List (Ob Un):=[]
def z2p (r:Int) : RF Un:=(z1et r,z1eu r)
def z1ev : Nat→NS:=fun l=>(look l []).getD ⟨[],[],[],[],[],false⟩
def z17h (op:Int) : Option (RF Un):=awf zxu z1ev (z8 Tryz.f59) (zg Tryz.f59.ntmps 0 [.d (.v (.s (.int .i64 op)))]) (retF zxu Tryz.f59.results.toList [.d])
def zb7 (op:Int) : Option (RF Un):=cndO (op == 5) (cndO (op == 5) (some (z2p ((2:Int)))) (some (z2p ((-1:Int))))) (cndO (op == 6) (cndO (op == 6) (some (z2p ((2:Int)))) (some (z2p ((-1:Int))))) (cndO (op == 9) (cndO (op == 9) (some (z2p ((2:Int)))) (some (z2p ((-1:Int))))) (cndO (op == 10) (cndO (op == 10) (some (z2p ((2:Int)))) (some (z2p ((-1:Int))))) (cndO (op == 11) (some (z2p ((2:Int)))) (some (z2p ((-1:Int))))))))
def ztg (op:Int) : Option (RF Un):=cndO (op == 3) (cndO (op == 3) (some (z2p ((1:Int)))) (zb7 op)) (cndO (op == 4) (cndO (op == 4) (some (z2p ((1:Int)))) (zb7 op)) (cndO (op == 7) (cndO (op == 7) (some (z2p ((1:Int)))) (zb7 op)) (cndO (op == 8) (cndO (op == 8) (some (z2p ((1:Int)))) (zb7 op)) (cndO (op == 12) (cndO (op == 12) (some (z2p ((1:Int)))) (zb7 op)) (cndO (op == 13) (some (z2p ((1:Int)))) (zb7 op))))))
theorem z1tg (op:Int) : z17h op=cndO (op == 1) (cndO (op == 1) (some (z2p ((0:Int)))) (ztg op)) (cndO (op == 2) (some (z2p ((0:Int)))) (ztg op)):=by kernel_rfl
def zb8 (op:Int) : Int:=z79 op
def z2r (r:Rel) : Int:=z45 r
theorem z17i (op:Int) : zb8 op=z79 op:=by unfold zb8;rfl
theorem z9l (r:Rel) : z2r r=z45 r:=by unfold z2r;rfl
theorem z1ae {β:Type} (a b:Bool) (x y:Option β) : cndO a (cndO a x y) (cndO b x y)=cndO (a || b) x y:=by cases a<;>cases b<;>rfl
theorem z1mz (op:Int) (_h:WI op) : z17h op=some (z2p (zb8 op)):=by
 have e:∀ x : Option (RF Un),(cndO (op == 11) (cndO (op == 11) (some (z2p ((2:Int)))) x) x)=cndO (op == 11) (some (z2p ((2:Int)))) x:=fun x=>by cases op == 11<;>rfl
 rw[z1tg]
 unfold zb8 ztg zb7 z79
 simp only[e,z1ae]
 simp only[za,Bool.or_eq_true,beq_iff_eq]
 by_cases h1 : op=1∨op=2
 ·rw[if_pos h1,if_pos h1]
 rw[if_neg h1,if_neg h1]
 by_cases h2 : op=3∨op=4∨op=7∨op=8∨op=12∨op=13
 ·rw[if_pos h2,if_pos h2]
 rw[if_neg h2,if_neg h2]
 by_cases h3 : op=5∨op=6∨op=9∨op=10∨op=11
 ·rw[if_pos h3,if_pos h3]
 rw[if_neg h3,if_neg h3]
def zfd : FnC Un:=fun args=>match args with
 | [x0]=>(dI .i64 x0).bind fun op=>some ([],z1et (zb8 op),z1eu (zb8 op))
 | _=>none
theorem z17j : FnOK 59 zfd:=by
 intro args ob rs os h hob
 unfold zfd at h
 split at h
 ·simp only[Option.bind_eq_some_iff,Option.some.injEq,Prod.mk.injEq] at h
  obtain⟨op,e0,rfl,rfl,rfl⟩:=h
  obtain rfl:=z1t e0
  exact⟨zd (M:=zxu) rfl (zf (l1:=[]) (l2:=[]) (l3:=[]) (l4:=[]) (l5:=[]) trivial trivial trivial trivial trivial) Tryz.func59 (by kernel_rfl) z1ev 0 [.d] (fun hwf=>(z1mz op (ze hwf (a:=.d (.v (.s (.int .i64 op)))) (List.mem_of_getElem? (i:=0) rfl)))),zb Tryz.func59 (by kernel_rfl) (by kernel_rfl)⟩
 ·simp at h
def zth (r:Int) : List (A Un):=[.c (.s (.int .i64 r))]
def zti (_r:Int) : List (Ob Un):=[]
def z6w (m:Nat) : FnC Un:=fun args=>match args with
 | [x0]=>(dS .rel x0).bind fun r=>some ([r.ht<m],zth (z2r r),zti (z2r r))
 | _=>none
def ztj (m:Nat) : Mc Un:=mach (tbl [(59,zfd),(19,z6w m)]) (tbl []) (tbl []) (tbl []) (tbl [])
def z7r (r:Int) : RF Un:=(zth r,zti r)
def z17k : Nat→NS:=fun l=>(look l []).getD ⟨[],[],[],[],[],false⟩
def z13n (r:Rel):=z2r (Rel.mk (Rel.op (r.kids.getD 0 zi)) (Rel.table (r.kids.getD 0 zi)) (Rel.cols (r.kids.getD 0 zi)) (Rel.kids (r.kids.getD 0 zi)) (Rel.terms (r.kids.getD 0 zi)) (Rel.aggs (r.kids.getD 0 zi)) (Rel.keys (r.kids.getD 0 zi)) (Rel.limit (r.kids.getD 0 zi)) (Rel.skip (r.kids.getD 0 zi)) (Rel.all (r.kids.getD 0 zi)) (Rel.rows (r.kids.getD 0 zi)))
def z13o (m:Nat) (r:Rel) : Option (RF Un):=awf (ztj m) z17k (z8 Tryz.f19) (zg Tryz.f19.ntmps 0 [.d (.agg (enc Ty.rel r))]) (retF (ztj m) Tryz.f19.results.toList [.d])
def zpw (m:Nat) (r:Rel) : Option (RF Un):=obO ((0:Int)≤(0:Int)∧(0:Int)<(↑r.kids.length:Int)) (obO ((Rel.ids (r.kids.getD 0 zi)).ht<m) (obO ((0:Int)≤(1:Int)∧(1:Int)<(↑r.kids.length:Int)) (obO ((Rel.ids (r.kids.getD 1 zi)).ht<m) (some (z7r (IntKind.i64.wrap (z2r (Rel.ids (r.kids.getD 0 zi))+z2r (Rel.ids (r.kids.getD 1 zi)))))))))
def zpx (m:Nat) (r:Rel) : Option (RF Un):=cndO (r.op == 7) (some (z7r (IntKind.i64.wrap ((↑r.terms.length:Int)+(↑r.aggs.length:Int))))) (obO ((0:Int)≤(0:Int)∧(0:Int)<(↑r.kids.length:Int)) (obO ((Rel.ids (r.kids.getD 0 zi)).ht<m) (some (z7r (z13n r)))))
def zpy (m:Nat) (r:Rel) : Option (RF Un):=cndO (r.op == 4) (some (z7r ((↑r.terms.length:Int)))) (cndO (r.op == 5) (cndO (r.op == 5) (zpw m r) (zpx m r)) (cndO (r.op == 6) (zpw m r) (zpx m r)))
theorem z1rg (m:Nat) (r:Rel) : z13o m r=cndO (decide (zb8 r.op<0)) (some (z7r ((0:Int)))) (cndO (decide ((↑r.kids.length:Int)<zb8 r.op)) (some (z7r ((0:Int)))) (cndO (r.op == 1) (cndO (r.op == 1) (some (z7r ((↑r.cols.length:Int)))) (zpy m r)) (cndO (r.op == 2) (some (z7r ((↑r.cols.length:Int)))) (zpy m r)))):=by kernel_rfl
theorem z1i7 (m:Nat) (r:Rel) (_hr:WS .rel r) (hm:r.ht<m+1) : z13o m r=some (z7r (z2r r)):=by
 have k0:0<r.kids.length→(r.kids.getD 0 zi).ht<m:=fun h=>by have:=Rel.ht_kid (z9f (d:=zi) (l:=r.kids) h);omega
 have k1:1<r.kids.length→(r.kids.getD 1 zi).ht<m:=fun h=>by have:=Rel.ht_kid (z9f (d:=zi) (l:=r.kids) h);omega
 rw[z1rg]
 unfold zpy
 rw[z1ae,z1ae,z9l r,z205 r]
 simp only[za,beq_iff_eq,decide_eq_true_eq,z17i,Bool.or_eq_true]
 by_cases c1 : z79 r.op<0
 ·rw[if_pos c1,if_pos (.inl c1)]
 by_cases c2 : (r.kids.length:Int)<z79 r.op
 ·rw[if_neg c1,if_pos c2,if_pos (.inr c2)]
 rw[if_neg c1,if_neg c2,if_neg (show ¬ (z79 r.op<0∨(r.kids.length:Int)<z79 r.op) by omega)]
 by_cases h1 : r.op=1∨r.op=2
 ·rw[if_pos h1,if_pos h1]
 rw[if_neg h1,if_neg h1]
 have hn:=z206 c1 h1
 by_cases h4 : r.op=4
 ·rw[if_pos h4,if_pos h4]
 rw[if_neg h4,if_neg h4]
 have hl0:0<r.kids.length:=by omega
 have kk0:=k0 hl0
 have g0:=ztf r.kids 0 hl0
 by_cases h56 : r.op=5∨r.op=6
 ·have ht:=z207 h56
  have hl1:1<r.kids.length:=by omega
  have kk1:=k1 hl1
  have g1:=ztf r.kids 1 hl1
  unfold zpw
  rw[if_pos h56,if_neg (by omega),if_pos h56,g0,g1]
  simp only[Rel.ids_eq,z9l]
  rw[z6 (show (0:Int)≤0∧(0:Int)<(r.kids.length:Int) by omega),z6 kk0,z6 (show (0:Int)≤1∧(1:Int)<(r.kids.length:Int) by omega),z6 kk1]
 ·rw[if_neg h56]
  unfold zpx
  rw[za]
  by_cases h7 : r.op=7
  ·rw[if_pos (by simpa using h7),if_pos h7]
  ·rw[if_neg (by simpa using h7),if_neg h7,if_neg h56,g0]
   simp only[z13n,z23v,Rel.ids_eq,z9l]
   rw[z6 (by omega),z6 kk0]
theorem z1n0 (m:Nat) (h_r15_Width:FnOK 19 (z6w m)) : FnOK 19 (z6w (m+1)):=by
 intro args ob rs os h hob
 unfold z6w at h
 split at h
 ·simp only[Option.bind_eq_some_iff,Option.some.injEq,Prod.mk.injEq] at h
  obtain⟨r,e0,rfl,rfl,rfl⟩:=h
  obtain rfl:=z18 e0
  exact⟨zd (M:=(ztj m)) rfl (zf (l1:=[(59,zfd),(19,z6w m)]) (l2:=[]) (l3:=[]) (l4:=[]) (l5:=[]) ⟨z17j,h_r15_Width,trivial⟩ trivial trivial trivial trivial) Tryz.func19 (by kernel_rfl) z17k 0 [.d] (fun hwf=>(z1i7 m r (ze hwf (a:=.d (.agg (enc Ty.rel r))) (List.mem_of_getElem? (i:=0) rfl)) (hob _ (List.mem_of_getElem? (i:=0) rfl)))),zb Tryz.func19 (by kernel_rfl) (by kernel_rfl)⟩
 ·simp at h
theorem zs8 : ∀ m,FnOK 19 (z6w m)
 | 0=>by
  skip
  intro args ob rs os h hob
  unfold z6w at h
  split at h
  ·simp only[Option.bind_eq_some_iff,Option.some.injEq,Prod.mk.injEq] at h
   obtain⟨_,_,rfl,_,_⟩:=h
   exact absurd (hob _ (List.mem_of_getElem? (i:=0) rfl)) (Nat.not_lt_zero _)
  ·simp at h
 | m+1=>by
  have ih:=zs8 m
  exact z1n0 m ih
def z6j : FnC Un:=fun args=>match args with
 | [x0]=>(dS .rel x0).bind fun r=>some ([],zth (z2r r),zti (z2r r))
 | _=>none
theorem zji : FnOK 19 z6j:=by
 intro args ob rs os h hob
 unfold z6j at h
 split at h
 ·simp only[Option.bind_eq_some_iff,Option.some.injEq,Prod.mk.injEq] at h
  obtain⟨r,e0,rfl,rfl,rfl⟩:=h
  refine ((zs8 (r.ht+1))) _ [r.ht<r.ht+1] _ _ (?_ : z6w (r.ht+1) _=some _) ?_
  ·unfold z6w
   simp only[e0,Option.bind_some]
  ·intro p hp
   simp only[List.mem_cons,List.not_mem_nil,or_false] at hp
   subst hp
   exact Nat.lt_succ_self _
 ·simp at h
end
end Go.Proofs.YtjfpbchdcbhfgaaGreat.B
