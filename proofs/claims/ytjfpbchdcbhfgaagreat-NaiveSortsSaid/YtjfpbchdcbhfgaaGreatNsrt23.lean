/- Part 23 of the proof: Snaive2 Snaive3 Lnest Lret Lstabd Lstx0 Lstx1. -/
import Derived.Maps.AppendAt
import Derived.OneCell
import Derived.Laws.OwnMore
import Derived.Sort.Defs
import Derived.Sort.Statements
import Derived.Shelf.SlSortCmp.Kit1
import Derived.WalkKit
import Derived.Lib.QuietBelow
import Derived.Deep.LoopGhost
import Derived.Sort.WalkB2
import Derived.Sort.WalkB12
import Derived.Test.YtjfpbchdcbhfgaaGreatNsrt22
namespace Go.Proofs.YtjfpbchdcbhfgaaGreat.B
open Go Go.RowKit
set_option maxRecDepth 100000
noncomputable section
attribute [local irreducible] awp ctxK z12 z1o retQ z2i awf ctxF zt
def zxk : Mc Un:=mach (tbl []) (tbl []) (tbl []) (tbl []) (tbl [])
def zxl (r:Wld) : List (A Un):=[.agg (encC Ty.wld r)]
def z1dm (_r:Wld) : List (Ob Un):=[]
def z1dn (r:Wld) : RF Un:=(zxl r,z1dm r)
def z1do : Nat→NS:=fun l=>(look l []).getD ⟨[],[],[],[],[],false⟩
def z16m (w:Wld) (r:List Val) : Option (RF Un):=awf zxk z1do (z8 Tryz.f137) (zg Tryz.f137.ntmps 0 [.d (.agg (enc Ty.wld w)),.d (.v (.dat (U:=Un) Ty.val r))]) (retF zxk Tryz.f137.results.toList [.d])
theorem z1t8 (w:Wld) (r:List Val) : z16m w r=obO (([r].length+w.env.length)*(24:Nat)≤zw) (some (z1dn ({ env:=r::w.env,db:=w.db }))):=by kernel_rfl
def zp (w:Wld) (r:List Val) : Wld:={ w with env:=r::w.env }
theorem z1mi (w:Wld) (r:List Val) (_hw:WS .wld w) (_hr:WL .val r) (h:w.env.length≤100000000) : z16m w r=some (z1dn (zp w r)):=by
 rw[z1t8,z6 (by unfold zw;rw[List.length_singleton];omega)]
 rfl
def z7n : FnC Un:=fun args=>match args with
 | [x0,x1]=>(dS .wld x0).bind fun w=>(dL .val x1).bind fun r=>some ([w.env.length≤100000000],zxl (zp w r),z1dm (zp w r))
 | _=>none
theorem zl1 : FnOK 137 z7n:=by
 intro args ob rs os h hob
 unfold z7n at h
 split at h
 ·simp only[Option.bind_eq_some_iff,Option.some.injEq,Prod.mk.injEq] at h
  obtain⟨w,e0,r,e1,rfl,rfl,rfl⟩:=h
  obtain rfl:=z18 e0
  obtain rfl:=z1i e1
  exact⟨zd (M:=zxk) rfl (zf (l1:=[]) (l2:=[]) (l3:=[]) (l4:=[]) (l5:=[]) trivial trivial trivial trivial trivial) Tryz.func137 (by kernel_rfl) z1do 0 [.d] (fun hwf=>(z1mi w r (ze hwf (a:=.d (.agg (enc Ty.wld w))) (List.mem_of_getElem? (i:=0) rfl)) (ze hwf (a:=.d (.v (.dat (U:=Un) Ty.val r))) (List.mem_of_getElem? (i:=1) rfl)) (hob _ (List.mem_of_getElem? (i:=0) rfl)))),zb Tryz.func137 (by kernel_rfl) (by kernel_rfl)⟩
 ·simp at h
def za8 : Mc Un:=mach (tbl [(85,z9g)]) (tbl []) (tbl []) (tbl []) (tbl [])
def zz9 (r:List (List Val)) : List (A Un):=[.c (.ob 0 0)]
def zza (r:List (List Val)) : List (Ob Un):=[⟨0,Ty.row,r,some 0,true⟩]
def zgt (r:List (List Val)) : RF Un:=(zz9 r,zza r)
def za9 : Nat→NS:=fun l=>(look l [(2,{ ts:=bl 22 1810,bs:=bl 22 0,nm:=[(.sl 4,88)] })]).getD ⟨[],[],[],[],[],false⟩
def z3x (w:Wld) (name:ByteArray) (v0:Int) : S Un:=(st 22 22 89 0 [(1,at_ name),(4,ao 88),(8,al .data w.db),(9,ai (↑w.db.length:Int)),(10,ai v0)] [] [(88,some ⟨(0:Nat),Ty.row,[],some (0:Nat),true⟩)])
def ze9 (w:Wld) (name:ByteArray) (v0:Int) (v1:List (List Val)) : S Un:=(st 22 22 89 0 [(1,at_ name),(4,ao 88),(8,al .data w.db),(9,ai (↑w.db.length:Int)),(10,ai v0)] [] [(88,some ⟨(0:Nat),Ty.row,v1,some (0:Nat),true⟩)])
noncomputable def zvd : Code:=sub (z8 Tryz.f84) [1,0,1,2,2]
def z6a : S Un→Option (EX Un):=zt (za9 2) (fun s Q=>awf za8 za9 zvd s Q)
def zf0 : Exit→S Un→Option (RF Un):=ctxF za8 za9 (z8 Tryz.f84) [1,0,1,2] (retF za8 Tryz.f84.results.toList [.m])
def zve (w:Wld) (name:ByteArray) : Option (RF Un):=awf za8 za9 (z8 Tryz.f84) (zg Tryz.f84.ntmps 1 [.d (.agg (enc Ty.wld w)),.d (.v (cs name))]) (retF za8 Tryz.f84.results.toList [.m])
theorem z1hi (w:Wld) (name:ByteArray) : zve w name=(z6a (z3x w name (0:Int))).bind (zx zf0):=by kernel_rfl
theorem zk5 (w:Wld) (name:ByteArray) (v0:Int) : z6a (z3x w name v0)=cndO (decide (v0<(↑w.db.length:Int))) (obO (0≤v0∧v0<(↑w.db.length:Int)) (cndO ((w.db.getD v0.toNat zjr).table.toList == name.toList) (obO ((w.db.getD v0.toNat zjr).rows.length≤(1000000000:Nat)) (some (.ret,(ze9 w name v0 ((w.db.getD v0.toNat zjr).rows))))) (z6a (z3x w name (IntKind.i64.wrap (v0+1)))))) (some (.exit 0,(z3x w name v0))):=(z11 (za9 2) zvd _).trans (by kernel_rfl)
theorem z12l (w:Wld) (name:ByteArray) (v0:Int) (v1:List (List Val)) : zf0 .ret (ze9 w name v0 v1)=some (zgt (v1)):=by kernel_rfl
theorem z14u (w:Wld) (name:ByteArray) (v0:Int) : zf0 (.exit 0) (z3x w name v0)=some (zgt ([])):=by kernel_rfl
def dbOK (db:List Data) : Prop:=db.length≤1000000000∧∀ d∈db,d.rows.length≤1000000000
def z8s (w:Wld) (name:ByteArray) : List (List Val):=match w.db.find? (fun d=>d.table.toList == name.toList) with | some d=>d.rows | none=>[]
theorem z19y (w:Wld) (name:ByteArray) (_hw:WS .wld w) (_hn:WStr name) (h:dbOK w.db) : zve w name=some (zgt (z8s w name)):=by
 obtain⟨h1,h2⟩:=h
 have key:∀ (r:List Data) (i:Nat),w.db.drop i=r→i≤w.db.length→(z6a (z3x w name i)).bind (zx zf0)=some (zgt (match r.find? (fun d=>d.table.toList == name.toList) with | some d=>d.rows | none=>[])):=by
  intro r
  induction r with
  | nil =>
   intro i hr hi
   have : w.db.length≤i:=by rw[← List.drop_eq_nil_iff];exact hr
   have e:z6a (z3x w name i)=some (.exit 0,z3x w name i):=by rw[zk5,za,if_neg (by simp;omega)]
   rw[zn e,z14u];rfl
  | cons x r ih =>
   intro i hr hi
   obtain⟨a1,a2,a3,hm⟩:=z31 hr
   have hx:w.db.getD i zjr=x:=a2 zjr
   by_cases hf : (x.table.toList == name.toList)=true
   ·have e:z6a (z3x w name i)=some (.ret,ze9 w name i x.rows):=by
     rw[zk5,za,if_pos (by simp;omega),z6 (by omega),Int.toNat_natCast,hx,za,if_pos hf,z6 (h2 x hm)]
    rw[zn e,z12l]
    simp [hf]
   ·have e:z6a (z3x w name i)=z6a (z3x w name ((i+1:Nat):Int)):=by
     rw[zk5,za,if_pos (by simp;omega),z6 (by omega),Int.toNat_natCast,hx,za,if_neg hf,z4v a1 (by omega)]
    rw[e,ih (i+1) a3 (by omega)]
    simp [hf]
 rw[z1hi]
 exact key w.db 0 rfl (Nat.zero_le _)
def zgu : FnC Un:=fun args=>match args with
 | [x0,x1]=>(dS .wld x0).bind fun w=>(dStr x1).bind fun name=>some ([dbOK w.db],zz9 (z8s w name),zza (z8s w name))
 | _=>none
theorem z1hj : FnOK 84 zgu:=by
 intro args ob rs os h hob
 unfold zgu at h
 split at h
 ·simp only[Option.bind_eq_some_iff,Option.some.injEq,Prod.mk.injEq] at h
  obtain⟨w,e0,name,e1,rfl,rfl,rfl⟩:=h
  obtain rfl:=z18 e0
  obtain rfl:=z57 e1
  exact⟨zd (M:=za8) rfl (zf (l1:=[(85,z9g)]) (l2:=[]) (l3:=[]) (l4:=[]) (l5:=[]) ⟨zmt,trivial⟩ trivial trivial trivial trivial) Tryz.func84 (by kernel_rfl) za9 1 [.m] (fun hwf=>(z19y w name (ze hwf (a:=.d (.agg (enc Ty.wld w))) (List.mem_of_getElem? (i:=0) rfl)) (ze hwf (a:=.d (.v (cs name))) (List.mem_of_getElem? (i:=1) rfl)) (hob _ (List.mem_of_getElem? (i:=0) rfl)))),zb Tryz.func84 (by kernel_rfl) (by kernel_rfl)⟩
 ·simp at h
end
end Go.Proofs.YtjfpbchdcbhfgaaGreat.B
namespace Go.Proofs.YtjfpbchdcbhfgaaGreat.B
open Go Go.RowKit
set_option maxRecDepth 100000
noncomputable section
attribute [local irreducible] awp ctxK z12 z1o retQ z2i awf ctxF zt
def zvf : Mc Un:=mach (tbl [(148,zja),(147,z73),(149,z66)]) (tbl []) (tbl []) (tbl []) (tbl [])
def z24j (r:Int) : List (A Un):=[.c (.s (.int .i64 r))]
def z24k (_r:Int) : List (Ob Un):=[]
def z1dp (r:Int) : RF Un:=(z24j r,z24k r)
def zvg : Nat→NS:=fun l=>(look l [(2,{ ts:=bl 35 3619,bs:=bl 36 1,nm:=[] })]).getD ⟨[],[],[],[],[],false⟩
def zaa (a:List Val) (b:List Val) (c0:List By) (v0:Int) : S Un:=(st 35 36 144 1 [(0,al .val a),(1,al .val b),(5,ai (0:Int)),(9,al .by_ c0),(10,ai (↑c0.length:Int)),(11,ai v0)] [(0,some (true,[C.sl Ty.by_ c0 false]))] [])
def zl2 (a:List Val) (b:List Val) (c0:List By) (v0:Int) (v1:Int) : S Un:=(st 35 36 144 1 [(0,al .val a),(1,al .val b),(5,ai v1),(9,al .by_ c0),(10,ai (↑c0.length:Int)),(11,ai v0)] [(0,some (true,[C.sl Ty.by_ c0 false]))] [])
noncomputable def z1uh : Code:=sub (z8 Tryz.f146) [1,0,1,2,2]
def zf1 : S Un→Option (EX Un):=zt (zvg 2) (fun s Q=>awf zvf zvg z1uh s Q)
def z14c : Exit→S Un→Option (RF Un):=ctxF zvf zvg (z8 Tryz.f146) [1,0,1,2] (retF zvf Tryz.f146.results.toList [.d])
def z1ui (a:List Val) (b:List Val) (c0:List By) : Option (RF Un):=awf zvf zvg (z8 Tryz.f146) (zg Tryz.f146.ntmps 0 [.d (.v (.dat (U:=Un) Ty.val a)),.d (.v (.dat (U:=Un) Ty.val b)),.box [.v (.dat (U:=Un) Ty.by_ c0)]]) (retF zvf Tryz.f146.results.toList [.d])
theorem z23m (a:List Val) (b:List Val) (c0:List By) : z1ui a b c0=(zf1 (zaa a b c0 (0:Int))).bind (zx z14c):=by kernel_rfl
theorem z1uj (a:List Val) (b:List Val) (c0:List By) (v0:Int) : zf1 (zaa a b c0 v0)=cndO (decide (v0<(↑c0.length:Int))) (obO (0≤v0∧v0<(↑c0.length:Int)) (cndO ((c0.getD v0.toNat z6n).down) (cndO (IntKind.i64.wrap ((0:Int) - z32 (z14 a (c0.getD v0.toNat z6n).at_) (z14 b (c0.getD v0.toNat z6n).at_)) != 0) (some (.ret,(zl2 a b c0 v0 (IntKind.i64.wrap ((0:Int) - z32 (z14 a (c0.getD v0.toNat z6n).at_) (z14 b (c0.getD v0.toNat z6n).at_)))))) (zf1 (zaa a b c0 (IntKind.i64.wrap (v0+1))))) (cndO (z32 (z14 a (c0.getD v0.toNat z6n).at_) (z14 b (c0.getD v0.toNat z6n).at_) != 0) (some (.ret,(zl2 a b c0 v0 (z32 (z14 a (c0.getD v0.toNat z6n).at_) (z14 b (c0.getD v0.toNat z6n).at_))))) (zf1 (zaa a b c0 (IntKind.i64.wrap (v0+1))))))) (some (.exit 0,(zaa a b c0 v0))):=(z11 (zvg 2) z1uh _).trans (by kernel_rfl)
theorem z1t9 (a:List Val) (b:List Val) (c0:List By) (v0:Int) (v1:Int) : z14c .ret (zl2 a b c0 v0 v1)=some (z1dp (v1)):=by kernel_rfl
theorem z1wy (a:List Val) (b:List Val) (c0:List By) (v0:Int) : z14c (.exit 0) (zaa a b c0 v0)=some (z1dp (z3v a b)):=by kernel_rfl
def kc (a b:List Val) (k:By) : Int:=if k.down=true then IntKind.i64.wrap ((0:Int) - z32 (z14 a k.at_) (z14 b k.at_)) else z32 (z14 a k.at_) (z14 b k.at_)
def ord1 (a b:List Val) : List By→Int
 | []=>z3v a b
 | k::r=>if (kc a b k != 0)=true then kc a b k else ord1 a b r
theorem z1zp (a b:List Val) (keys:List By) (_ha:WL .val a) (_hb:WL .val b) (hk:WL .by_ keys) (_h:True) : z1ui a b keys=some (z1dp (ord1 a b keys)):=by
 have key:∀ (r:List By) (i:Nat),keys.drop i=r→i≤keys.length→(zf1 (zaa a b keys i)).bind (zx z14c)=some (z1dp (ord1 a b r)):=by
  intro r
  induction r with
  | nil =>
   intro i hr hi
   have : keys.length≤i:=by rw[← List.drop_eq_nil_iff];exact hr
   have e:zf1 (zaa a b keys i)=some (.exit 0,zaa a b keys i):=by rw[z1uj,za,if_neg (by simp;omega)]
   rw[zn e,z1wy];rfl
  | cons x r ih =>
   intro i hr hi
   obtain⟨a1,a2,a3,hm⟩:=z31 hr
   have hx:keys.getD i z6n=x:=a2 z6n
   have hl:=z1uj a b keys i
   rw[za,if_pos (by simp;omega),z6 (by omega),Int.toNat_natCast,hx,z4v a1 hk.len] at hl
   by_cases hf : (kc a b x != 0)=true
   ·have e:zf1 (zaa a b keys i)=some (.ret,zl2 a b keys i (kc a b x)):=by
     rw[hl]
     unfold kc at hf ⊢
     cases hd : x.down<;>rw[hd] at hf<;>simp only[za,Bool.false_eq_true,if_false,if_true] at hf ⊢<;>rw[if_pos hf]
    rw[zn e,z1t9]
    unfold ord1
    rw[if_pos hf]
   ·have e:zf1 (zaa a b keys i)=zf1 (zaa a b keys ((i+1:Nat):Int)):=by
     rw[hl]
     unfold kc at hf
     cases hd : x.down<;>rw[hd] at hf<;>simp only[za,Bool.false_eq_true,if_false,if_true] at hf ⊢<;>rw[if_neg hf]
    rw[e,ih (i+1) a3 (by omega)]
    conv=>rhs;unfold ord1
    rw[if_neg hf]
 rw[z23m]
 exact key keys 0 rfl (Nat.zero_le _)
def z1dq : List (List (DC Un))→Option (FV Un):=fun dl=>match dl with
 | [b0]=>(bL .by_ b0).bind fun c0=>some (zu (fun a b=>True) (fun a b=>ord1 a b c0))
 | _=>none
theorem z21z : ClOK 146 z1dq:=by
 refine⟨zb Tryz.func146 (by kernel_rfl) (by kernel_rfl),fun dl φ args ob rs hF hφ hob=>?_⟩
 unfold z1dq at hF
 split at hF
 ·simp only[Option.bind_eq_some_iff,Option.some.injEq] at hF
  obtain⟨c0,g0,hE⟩:=hF
  subst hE
  obtain rfl:=z1ve g0
  unfold zu at hφ
  split at hφ
  ·simp only[Option.bind_eq_some_iff,Option.some.injEq,Prod.mk.injEq] at hφ
   obtain⟨a,e0,b,e1,rfl,rfl⟩:=hφ
   simp only[List.map_cons,List.map_nil,List.cons_append,List.nil_append]
   rw[z1i e0]
   rw[z1i e1]
   exact Contract.data (zd (M:=zvf) rfl (zf (l1:=[(148,zja),(147,z73),(149,z66)]) (l2:=[]) (l3:=[]) (l4:=[]) (l5:=[]) ⟨z1mg,zju,zig,trivial⟩ trivial trivial trivial trivial) Tryz.func146 (by kernel_rfl) zvg 0 [.d] (fun hwf=>(z1zp a b c0 (ze hwf (a:=.d (.v (.dat (U:=Un) Ty.val a))) (List.mem_of_getElem? (i:=0) rfl)) (ze hwf (a:=.d (.v (.dat (U:=Un) Ty.val b))) (List.mem_of_getElem? (i:=1) rfl)) (ze hwf (a:=.box [.v (.dat (U:=Un) Ty.by_ c0)]) (List.mem_of_getElem? (i:=2) rfl)) (hob _ (List.mem_of_getElem? (i:=0) rfl)))))
  ·simp at hφ
 ·simp at hF
end
end Go.Proofs.YtjfpbchdcbhfgaaGreat.B
namespace Go.Proofs.YtjfpbchdcbhfgaaGreat.B
open Go Go.RowKit
set_option linter.unusedVariables false
structure Nest (w:World) (base:Nat) (te ti:TypeId) (k q z:Nat) (v:Value) (cs:List Value) (ys:List (Nat×List Value)) : Prop where
 outer : w.ownsRow base te k v ys.length cs
 inner : ∀ i m zs,ys[i]? = some (m,zs)→∃ u,cs[i*k+q]? = some u∧w.ownsRow base ti z u m zs∧(u.ownBlock=none∨u.ownBlock≠v.ownBlock)
 apart : ∀ i j u u',i≠j→i<ys.length→j<ys.length→cs[i*k+q]? = some u→cs[j*k+q]? = some u'→u.ownBlock=none∨u.ownBlock≠u'.ownBlock
theorem Nest.nil (w:World) (base:Nat) (te ti:TypeId) (k q z:Nat) : Nest w base te ti k q z (.slice none 0 0) [] [] :=
 ⟨⟨by simp,.inl ⟨rfl,rfl⟩⟩,fun i m zs h=>by simp at h,fun i j u u' _ h=>by simp at h⟩
section
variable {w w':World} {base:Nat} {te ti:TypeId} {k q z:Nat} {v v':Value} {cs:List Value} {ys:List (Nat×List Value)}
theorem Nest.kept {row:Option Nat} (h:Nest w base te ti k q z v cs ys) (hg:w.grownBy w' row) (hr:∀ b,row=some b→b<base) : Nest w' base te ti k q z v cs ys:=by
 have ne:∀ {e:TypeId} {s:Nat} {x:Value} {n:Nat} {l:List Value},w.ownsRow base e s x n l→x.ownBlock=none∨x.ownBlock≠row:=fun {e s x n l} ho=>by
  cases hx : x.ownBlock with
  | none=>exact .inl rfl
  | some g =>
   refine .inr fun e2=>?_
   have h1:=(ho.lt g hx).1
   have h2:=hr g e2.symm
   omega
 refine⟨h.outer.kept hg (ne h.outer),fun i m zs hi=>?_,h.apart⟩
 obtain⟨u,h1,h2,h3⟩:=h.inner i m zs hi
 exact⟨u,h1,h2.kept hg (ne h2),h3⟩
theorem Nest.push (h:Nest w base te ti k q z v cs ys) (es:List Value) {u0:Value} (hes:es.length=k) (hq:es[q]? = some u0) (h0:w'.ownsRow base ti z u0 0 []) (hf:∀ b,u0.ownBlock=some b→w.heap.size≤b∧v'.ownBlock≠some b)
  (ho:w'.ownsRow base te k v' (ys.length+1) (cs++es)) (hg:w.grownBy w' v.ownBlock)
  (hb:v'.ownBlock=v.ownBlock∨∃ b,v'.ownBlock=some b∧w.heap.size≤b) : Nest w' base te ti k q z v' (cs++es) (ys++[(0,[])]):=by
 have hcl:cs.length=ys.length*k:=h.outer.1
 have hqk:q<k:=by rw[← hes];exact (List.getElem?_eq_some_iff.1 hq).1
 have at1:∀ i,i<ys.length→(cs++es)[i*k+q]? = cs[i*k+q]?:=fun i hi=>by
  refine List.getElem?_append_left ?_
  have : (i+1)*k≤ys.length*k:=Nat.mul_le_mul_right _ hi
  rw[Nat.add_mul] at this;omega
 have at2:(cs++es)[ys.length*k+q]? = some u0:=by
  rw[List.getElem?_append_right (by omega),hcl,Nat.add_sub_cancel_left];exact hq
 have low:∀ {i:Nat} {u:Value},i<ys.length→cs[i*k+q]? = some u→∀ g,u.ownBlock=some g→g<w.heap.size:=fun {i u} hi hu g hx=>by
  obtain⟨p,hp⟩ : ∃ p,ys[i]? = some p:=⟨_,List.getElem?_eq_getElem hi⟩
  obtain⟨y,y1,y2,_⟩:=h.inner i p.1 p.2 hp
  rw[hu] at y1
  obtain rfl:=Option.some.inj y1
  exact (y2.lt g hx).2
 refine⟨by rw[List.length_append,List.length_singleton];exact ho,fun i m zs hi=>?_,fun i j u u' hne hi hj h1 h2=>?_⟩
 ·by_cases hl : i<ys.length
  ·rw[List.getElem?_append_left hl] at hi
   obtain⟨u,g1,g2,g3⟩:=h.inner i m zs hi
   refine⟨u,by rw[at1 i hl];exact g1,g2.kept hg g3,?_⟩
   rcases hb with e | ⟨b,e,hbl⟩
   ·rw[e];exact g3
   ·cases hx : u.ownBlock with
    | none=>exact .inl rfl
    | some g =>
     refine .inr fun e2=>?_
     rw[e] at e2
     have:=(g2.lt g hx).2
     have:=Option.some.inj e2
     omega
  ·have hl2:i=ys.length:=by
    have:=(List.getElem?_eq_some_iff.1 hi).1
    rw[List.length_append,List.length_singleton] at this;omega
   subst hl2
   rw[List.getElem?_append_right (Nat.le_refl _),Nat.sub_self] at hi
   simp only[List.getElem?_cons_zero,Option.some.injEq,Prod.mk.injEq] at hi
   obtain⟨rfl,rfl⟩:=hi
   refine⟨u0,at2,h0,?_⟩
   cases hx : u0.ownBlock with
   | none=>exact .inl rfl
   | some g=>exact .inr fun e=>(hf g hx).2 e.symm
 ·rw[List.length_append,List.length_singleton] at hi hj
  have far:∀ {i:Nat} {u:Value},i<ys.length→cs[i*k+q]? = some u→u.ownBlock=none∨u.ownBlock≠u0.ownBlock:=fun {i u} hi hu=>by
   cases hx : u.ownBlock with
   | none=>exact .inl rfl
   | some g =>
    refine .inr fun e=>?_
    have h1:=low hi hu g hx
    have h2:=(hf g e.symm).1
    omega
  by_cases hli : i<ys.length
  ·rw[at1 i hli] at h1
   by_cases hlj : j<ys.length
   ·rw[at1 j hlj] at h2;exact h.apart i j u u' hne hli hlj h1 h2
   ·have : j=ys.length:=by omega
    subst this
    rw[at2] at h2
    obtain rfl:=Option.some.inj h2
    exact far hli h1
  ·have : i=ys.length:=by omega
   subst this
   rw[at2] at h1
   obtain rfl:=Option.some.inj h1
   rw[at1 j (by omega)] at h2
   rcases far (by omega) h2 with e | e
   ·cases hx : u0.ownBlock with
    | none=>exact .inl rfl
    | some g=>rw[e];exact .inr (by simp)
   ·exact .inr fun e2=>e e2.symm
theorem Nest.get (h:Nest w base te ti k q z v cs ys) (hk:0<k) (hq:q<k) {i m:Nat} {zs:List Value} (hi:ys[i]? = some (m,zs)) :
  ∃ g cap u,v=.slice (some ⟨g,0,none⟩) ys.length cap∧base≤g∧cs[i*k+q]? = some u∧w.cell? ⟨g,i*k+q,none⟩=some u∧w.frozen? ⟨g,i*k+q,none⟩=false∧w.ownsRow base ti z u m zs∧(u.ownBlock=none∨u.ownBlock≠v.ownBlock):=by
 obtain⟨u,h1,h2,h3⟩:=h.inner i m zs hi
 have hl:=(List.getElem?_eq_some_iff.1 hi).1
 have ho:=h.outer
 obtain⟨hcl,⟨rfl,h0⟩ | ⟨g,cap,cur,rfl,hge,_⟩⟩:=ho
 ·omega
 ·have hlt:i*k+q<ys.length*k:=by
   have : (i+1)*k≤ys.length*k:=Nat.mul_le_mul_right _ hl
   rw[Nat.add_mul] at this;omega
  exact⟨g,cap,u,rfl,hge,h1,by rw[h.outer.cellAt _ hlt];exact h1,h.outer.frozenAt _,h2,h3⟩
theorem Nest.app (h:Nest w base te ti k q z v cs ys) (hk:0<k) (hqk:q<k) {i m m':Nat} {zs zs':List Value} {g cap:Nat} {u u':Value} (hi:ys[i]? = some (m,zs)) (hv:v=.slice (some ⟨g,0,none⟩) ys.length cap) (hu:cs[i*k+q]? = some u)
  (ho:w'.ownsRow base ti z u' m' zs') (hg:w.grownBy w' u.ownBlock) (hb:u'.ownBlock=u.ownBlock∨u'.ownBlock=some w.heap.size) :
  Nest (w'.setCell ⟨g,i*k+q,none⟩ u') base te ti k q z v (cs.set (i*k+q) u') (ys.set i (m',zs')):=by
 obtain⟨u0,g1,g2,g3⟩:=h.inner i m zs hi
 rw[hu] at g1
 obtain rfl:=Option.some.inj g1
 have hl:=(List.getElem?_eq_some_iff.1 hi).1
 have hvb:v.ownBlock=some g:=by rw[hv];rfl
 have hgl:=(h.outer.lt g hvb).2
 have hne:v.ownBlock=none∨v.ownBlock≠u.ownBlock:=by
  rcases g3 with e | e
  ·rw[e,hvb];exact .inr (by simp)
  ·exact .inr fun e2=>e e2.symm
 have hsz:=hg.size
 have hu':∀ {x:Value},(x.ownBlock=none∨x.ownBlock≠u.ownBlock)→(∀ b,x.ownBlock=some b→b<w.heap.size)→x.ownBlock=none∨x.ownBlock≠u'.ownBlock:=fun {x} hx hlt=>by
  rcases hb with e | e
  ·rw[e];exact hx
  ·cases hxb : x.ownBlock with
   | none=>exact .inl rfl
   | some b =>
    refine .inr fun e2=>?_
    rw[e] at e2
    have:=hlt b hxb
    have:=Option.some.inj e2
    omega
 have hug:u'.ownBlock≠some g:=fun e2=>by
  rcases hu' hne (fun b hb2=>(h.outer.lt b hb2).2) with e | e
  ·rw[hvb] at e;exact absurd e (by simp)
  ·rw[hvb] at e;exact e e2.symm
 have hpos:∀ j,j<ys.length→j*k+q<cs.length:=fun j hj=>by
  rw[h.outer.1]
  have : (j+1)*k≤ys.length*k:=Nat.mul_le_mul_right _ hj
  rw[Nat.add_mul] at this;omega
 have hinj:∀ j,j≠i→j*k+q≠i*k+q:=fun j hj e=>hj (Nat.eq_of_mul_eq_mul_right hk (by omega))
 have hcs:∀ j,(cs.set (i*k+q) u')[j*k+q]? = if j=i then some u' else cs[j*k+q]?:=fun j=>by
  rw[List.getElem?_set]
  by_cases e : j=i
  ·subst e;rw[if_pos rfl,if_pos rfl,if_pos (hpos j hl)]
  ·rw[if_neg (fun e2=>hinj j e e2.symm),if_neg e]
 refine⟨?_,fun j n ws hj=>?_,fun j j' x x' hne2 hj hj' h1 h2=>?_⟩
 ·rw[List.length_set]
  have h1:=h.outer.kept hg hne
  rw[hv] at h1 ⊢
  exact (h1.stored _ _).1
 ·rw[List.getElem?_set] at hj
  by_cases e : i=j
  ·subst e
   rw[if_pos rfl,if_pos hl] at hj
   simp only[Option.some.injEq,Prod.mk.injEq] at hj
   obtain⟨rfl,rfl⟩:=hj
   refine⟨u',by rw[hcs,if_pos rfl],ownsRow_setCell_other ho hug u',?_⟩
   rw[hvb]
   exact .inr hug
  ·rw[if_neg e] at hj
   obtain⟨x,x1,x2,x3⟩:=h.inner j n ws hj
   have hlj:=(List.getElem?_eq_some_iff.1 hj).1
   refine⟨x,by rw[hcs,if_neg (fun e2=>e e2.symm)];exact x1,?_,x3⟩
   refine ownsRow_setCell_other (x2.kept hg (h.apart j i x u (fun e2=>e e2.symm) hlj hl x1 hu)) (fun e2=>?_) u'
   rcases x3 with e3 | e3
   ·rw[e3] at e2;simp at e2
   ·rw[hvb] at e3;exact e3 e2
 ·rw[List.length_set] at hj hj'
  rw[hcs] at h1 h2
  by_cases e : j=i
  ·rw[if_pos e] at h1
   have hj2:j'≠i:=fun e2=>hne2 (e.trans e2.symm)
   rw[if_neg hj2] at h2
   obtain rfl:=Option.some.inj h1
   subst e
   obtain⟨p,hp⟩ : ∃ p,ys[j']? = some p:=⟨_,List.getElem?_eq_getElem hj'⟩
   obtain⟨y,y1,y2,_⟩:=h.inner j' p.1 p.2 hp
   rw[h2] at y1
   obtain rfl:=Option.some.inj y1
   have:=hu' (h.apart j' j x' u (fun e2=>hj2 e2) hj' hj h2 hu) (fun b hb2=>(y2.lt b hb2).2)
   rcases this with e3 | e3
   ·cases hx : u'.ownBlock with
    | none=>exact .inl rfl
    | some b=>rw[e3];exact .inr (by simp)
   ·exact .inr fun e4=>e3 e4.symm
  ·rw[if_neg e] at h1
   by_cases e' : j'=i
   ·rw[if_pos e'] at h2
    obtain rfl:=Option.some.inj h2
    subst e'
    obtain⟨p,hp⟩ : ∃ p,ys[j]? = some p:=⟨_,List.getElem?_eq_getElem hj⟩
    obtain⟨y,y1,y2,_⟩:=h.inner j p.1 p.2 hp
    rw[h1] at y1
    obtain rfl:=Option.some.inj y1
    exact hu' (h.apart j j' x u e hj hj' h1 hu) (fun b hb2=>(y2.lt b hb2).2)
   ·rw[if_neg e'] at h2
    exact h.apart j j' x x' hne2 hj hj' h1 h2
end
end Go.Proofs.YtjfpbchdcbhfgaaGreat.B
namespace Go.Proofs.YtjfpbchdcbhfgaaGreat.B
open Go Go.RowKit Go.Shelf
set_option maxRecDepth 1000000
set_option linter.unusedVariables false
def StN (St:Nat→Nat→Prop) (w w':World) (v:Value) (b o:Nat) : Prop:=(b<w.heap.size∧St b o)∨(w.heap.size≤b∧b<w'.heap.size∧v.ownBlock≠some b)
open Classical in
theorem z23n {St:Nat→Nat→Prop} {w w':World} {v:Value} {τ:Ty} {xs:List (Den τ)} (hext:Ext w w') (hbd:∀ b o,St b o→b<w.heap.size) (h:VRel En (StN St w w' .nilFunc) w' v (.dat τ xs)) :
  Ret Tryz.prog En St w w' v [.c (.sl (U:=Un) τ xs false)] []:=by
 refine⟨hext,⟨fun _=>0,fun _=>False,fun b o=>if StN St w w' .nilFunc b o then some .st else none,fun _=>(none,0)⟩,fun _ h=>h,?_,?_,?_,?_⟩
 ·intro b o x hb hx
  have hx':(if StN St w w' .nilFunc b o then some Own.st else none)=some x:=hx
  split at hx'
  ·rename_i hs
   simp at hx'
   rcases hs with ⟨_,h2⟩ | ⟨h1,_⟩
   ·exact⟨hx'.symm,h2⟩
   ·omega
  ·simp at hx'
 ·intro b o x hx
  have hx':(if StN St w w' .nilFunc b o then some Own.st else none)=some x:=hx
  split at hx'
  ·rename_i hs
   rcases hs with ⟨h1,_⟩ | ⟨_,h2,_⟩
   ·exact Nat.lt_of_lt_of_le h1 hext.le
   ·exact h2
  ·simp at hx'
 ·refine⟨h.mono fun b o hs=>⟨?_,rfl⟩,fun h=>by simp at h⟩
  show (if StN St w w' .nilFunc b o then some Own.st else none)=some .st
  rw[if_pos hs]
 ·intro k o ho;simp at ho
theorem zpi {w w':World} (h:Ext w w') : w.grownBy w' none:=⟨h.os,h.tape,h.output,h.size,fun k hk _=>Below.block h k hk⟩
theorem z1l1 {w W W5:World} {row:Option Nat} (hx:Ext w W) (hg:W.grownBy W5 row) (hr:∀ b,row=some b→w.heap.size≤b) : Ext w W5 :=
 Below.trans hx ⟨hg.os,hg.tape,hg.output,hg.size,fun k hk=>hg.block k (Nat.lt_of_lt_of_le hk hx.size) (fun e=>by have:=hr k e.symm;omega)⟩
theorem z220 {f:FuncId} {F:FnC Un} (hok:FnOK f F) {args:List (D Un)} {ob:List Prop} {k:IntKind} {n:Int} (hF:F args=some (ob,[.c (.s (.int k n))],[])) (hob:∀ p∈ob,p) {w:World} {St:Nat→Nat→Prop} {vs:List Value} (hbd:∀ b o,St b o→b<w.heap.size) (hrel:All2 (DRel Tryz.prog En St w) vs args) (hld:Laid w) :
  Calls Tryz.prog f vs.toArray w fun e w'=>e=.returned (.int k n)∧Ext w w':=by
 refine ((hok args ob _ [] hF hob).1 w St vs hbd hrel hld).mono ?_
 rintro e w' ⟨v,rfl,hx,g,-,-,-,hr,-⟩
 exact⟨by rw[show v=.int k n from hr.1],hx⟩
theorem z1wz {St:Nat→Nat→Prop} {w:World} {v:Value} {keys:List (List Val)} (h:VRel En St w v (.dat (U:=Un) Ty.row keys)) :
  ∃ (a:Option Addr) (b off cap:Nat) (kv:Nat→Value),v=.slice a keys.length cap∧(keys≠[]→a=some ⟨b,off,none⟩∧keys.length≤cap)∧∀ i,i<keys.length→St b (off+i)∧w.cell? ⟨b,off+i,none⟩=some (kv i)∧VRel En St w (kv i) (.dat (U:=Un) Ty.val (keys.getD i [])):=by
 rcases h.inv with ⟨rfl,a,cap,rfl⟩ | ⟨b,o,cap,cv,rfl,hcap,h1,h2⟩
 ·exact⟨a,0,0,cap,fun _=>undef,rfl,fun h=>(h rfl).elim,fun i hi=>by simp at hi⟩
 ·refine⟨_,b,o,cap,fun i=>cv i 0,rfl,fun _=>⟨rfl,hcap.1⟩,fun i hi=>?_⟩
  obtain⟨g1,g2⟩:=h1 i 0 hi (show (0:Nat)<1 from Nat.one_pos)
  have e:o+i*Un.sz Ty.row+0=o+i:=by show o+i*1+0=_;omega
  rw[e] at g1 g2
  have g3:=h2 i hi 0 (.dat (U:=Un) Ty.val keys[i]) rfl
  have e2:keys.getD i []=keys[i]:=by rw[List.getD_eq_getElem?_getD,List.getElem?_eq_getElem hi];rfl
  exact⟨g1,g2,by rw[e2];exact g3⟩
theorem z1qj {St:Nat→Nat→Prop} {w w':World} (hx:Ext w w') (hbd:∀ b o,St b o→b<w.heap.size) : Keeps St w St w':=fun b o hs=>⟨hs,hx.cell (p:=⟨b,o,none⟩) (hbd b o hs)⟩
end Go.Proofs.YtjfpbchdcbhfgaaGreat.B
namespace Go.Proofs.YtjfpbchdcbhfgaaGreat.B
open Go Go.Sort
set_option linter.unusedVariables false
variable {α:Type} [Inhabited α]
def swR (d:Array α) (a b:Nat) : Nat→Array α
 | 0=>d
 | n+1=>swR (swp d a b) (a+1) (b+1) n
def rotL : Nat→Array α→Nat→Nat→Nat→Array α
 | 0,d,m,i,_=>swR d (m - i) m i
 | f+1,d,m,i,j=>if i=j then swR d (m - i) m i else if j<i then rotL f (swR d (m - i) m j) m (i - j) j else rotL f (swR d (m - i) (m+j - i) i) m i (j - i)
def rotF (d:Array α) (a m b:Nat) : Array α:=rotL (b - a) d m (m - a) (b - m)
def bsL (p:Nat→Bool) (i j:Nat) : Nat:=if i<j then (if p ((i+j) / 2) then bsL p ((i+j) / 2+1) j else bsL p i ((i+j) / 2)) else i
termination_by j - i
decreasing_by all_goals omega
def upL (d:Array α) (k e:Nat) : Array α:=if k<e then upL (swp d k (k+1)) (k+1) e else d
termination_by e - k
def dnL (d:Array α) (k i:Nat) : Array α:=if i<k then dnL (swp d k (k - 1)) (k - 1) i else d
termination_by k - i
def symS (lt:α→α→Bool) (d:Array α) (a m b:Nat) : Nat :=
 bsL (fun c=>!lt d[(a+b) / 2+m - 1 - c]! d[c]!) (if (a+b) / 2<m then (a+b) / 2+m - b else a) (if (a+b) / 2<m then (a+b) / 2 else m)
def symF (lt:α→α→Bool) : Nat→Array α→Nat→Nat→Nat→Array α
 | 0,d,_,_,_=>d
 | f+1,d,a,m,b =>
  if m - a=1 then upL d a (bsL (fun h=>lt d[h]! d[a]!) m b - 1)
  else if b - m=1 then dnL d m (bsL (fun h=>!lt d[m]! d[h]!) a m)
  else
   let s:=symS lt d a m b
   let e:=(a+b) / 2+m - s
   let d1:=if s<m∧m<e then rotF d s m e else d
   let d2:=if a<s∧s<(a+b) / 2 then symF lt f d1 a s ((a+b) / 2) else d1
   if (a+b) / 2<e∧e<b then symF lt f d2 ((a+b) / 2) e b else d2
def stB (lt:α→α→Bool) (d:Array α) (a n bs:Nat) : Array α:=if h : 0<bs∧a+bs≤n then stB lt (Sort.insertionSort lt d a (a+bs)) (a+bs) n bs else Sort.insertionSort lt d a n
termination_by n - a
def stM (lt:α→α→Bool) (d:Array α) (a n bs:Nat) : Array α :=
 if h : 0<bs∧a+2*bs≤n then stM lt (symF lt (2*bs) d a (a+bs) (a+2*bs)) (a+2*bs) n bs
 else if a+bs<n then symF lt (n - a) d a (a+bs) n else d
termination_by n - a
def stR (lt:α→α→Bool) (d:Array α) (n bs:Nat) : Array α:=if h : 0<bs∧bs<n then stR lt (stM lt d 0 n bs) n (2*bs) else d
termination_by n - bs
def stF (lt:α→α→Bool) (d:Array α) (n:Nat) : Array α:=stR lt (stB lt d 0 n 20) n 20
theorem zhb : ∀ (n:Nat) (d:Array α) (a b:Nat),(swR d a b n).size=d.size
 | 0,_,_,_=>rfl
 | n+1,d,a,b=>by rw[swR,zhb n,size_swp]
theorem z12m : ∀ (f:Nat) (d:Array α) (m i j:Nat),(rotL f d m i j).size=d.size
 | 0,d,m,i,j=>by rw[rotL,zhb]
 | f+1,d,m,i,j=>by
  rw[rotL]
  split
  ·rw[zhb]
  ·split
   ·rw[z12m f,zhb]
   ·rw[z12m f,zhb]
theorem z1l2 (d:Array α) (a m b:Nat) : (rotF d a m b).size=d.size:=z12m _ _ _ _ _
theorem zvh (p:Nat→Bool) (i j:Nat) (h:i≤j) : i≤bsL p i j∧bsL p i j≤j:=by
 induction i,j using bsL.induct (p:=p) with
 | case1 i j hlt hp ih=>rw[bsL,if_pos hlt,if_pos hp];have:=ih (by omega);omega
 | case2 i j hlt hp ih=>rw[bsL,if_pos hlt,if_neg hp];have:=ih (by omega);omega
 | case3 i j hlt=>rw[bsL,if_neg hlt];omega
theorem z221 (d:Array α) (k e:Nat) : (upL d k e).size=d.size:=by
 fun_induction upL d k e with
 | case1 d k h ih=>rw[ih,size_swp]
 | case2 d k h=>rfl
theorem z222 (d:Array α) (k i:Nat) : (dnL d k i).size=d.size:=by
 fun_induction dnL d k i with
 | case1 d k h ih=>rw[ih,size_swp]
 | case2 d k h=>rfl
theorem zhz (lt:α→α→Bool) : ∀ (f:Nat) (d:Array α) (a m b:Nat),(symF lt f d a m b).size=d.size
 | 0,_,_,_,_=>rfl
 | f+1,d,a,m,b=>by
  rw[symF]
  split
  ·rw[z221]
  ·split
   ·rw[z222]
   ·simp only
    split<;>split<;>split<;>simp only[zhz lt f,z1l2]
end Go.Proofs.YtjfpbchdcbhfgaaGreat.B
namespace Go.Proofs.YtjfpbchdcbhfgaaGreat.B
open Go Go.RowKit Go.Shelf Go.Lib Go.Sort
set_option linter.unusedVariables false
variable {P:Program} {α:Type} [Inhabited α] {enc:α→Value} {w0 W:World} {blk off:Nat} {dk d0:Array α}
def SX (enc:α→Value) (w0:World) (blk off:Nat) (dk:Array α) (W:World) : Prop:=Below w0.heap.size (putRow enc w0 blk off dk) W
def CmpX (P:Program) (g:Nat) (cb:Array Value) (enc:α→Value) (cf:α→α→Int) (blk off size:Nat) (w:World) : Prop :=
 ∀ (W:World) (dk:Array α),dk.size=size→SX enc w blk off dk W→∀ x y : α,Calls P g (#[enc x,enc y]++cb) W fun e w'=>e=.returned (.int .i64 (cf x y))∧Below W.heap.size W w'
theorem SX.le (h:SX enc w0 blk off dk W) : w0.heap.size≤W.heap.size:=by have:=h.size;rwa [size_putRow] at this
theorem SX.below {W':World} (h:SX enc w0 blk off dk W) (hb:Below W.heap.size W W') : SX enc w0 blk off dk W':=Below.trans h (hb.mono h.le)
theorem SX.drew (h:SX enc w0 blk off dk W) : SX enc w0 blk off dk W.drew:=Below.drew h
theorem SX.regrown (h:SX enc w0 blk off dk W) (d:Nat) (os:Array Obj) : SX enc w0 blk off dk (grow (redrawn W d) os):=h.below (below_regrown W d os)
theorem SX.holds (h:SX enc w0 blk off dk W) (R:Row1 enc w0 blk off d0) (hs:dk.size=d0.size) : Holds enc W blk off dk:=fun j hj=>by
 obtain⟨h1,h2⟩:=holds_putRow enc w0 blk off d0 dk R.hH hs j hj
 exact⟨(Below.cell h R.hblk).trans h1,(Below.frozen h R.hblk).trans h2⟩
theorem SX.c1 (h:SX enc w0 blk off dk W) (R:Row1 enc w0 blk off d0) (hs:dk.size=d0.size) (i:Nat) (hi:i<dk.size) : W.cell? ⟨blk,off+i,none⟩=some (enc dk[i]!):=(h.holds R hs i hi).1
theorem SX.f1 (h:SX enc w0 blk off dk W) (R:Row1 enc w0 blk off d0) (hs:dk.size=d0.size) (i:Nat) (hi:i<dk.size) : W.frozen? ⟨blk,off+i,none⟩=false:=(h.holds R hs i hi).2
theorem SX.cl (h:SX enc w0 blk off dk W) (R:Row1 enc w0 blk off d0) (hs:dk.size=d0.size) (i:Nat) (hi:i<dk.size) (n:Nat) (os:Array Obj) : (grow (redrawn W n) os).cell? ⟨blk,off+i,none⟩=some (enc dk[i]!):=(h.regrown n os).c1 R hs i hi
theorem SX.cmp {g:Nat} {cb:Array Value} {cf:α→α→Int} {size:Nat} (h:SX enc w0 blk off dk W) (hC:CmpX P g cb enc cf blk off size w0) (hs:dk.size=size) (x y:α) (n:Nat) (os:Array Obj) :
  Calls P g (#[enc x,enc y]++cb) (grow (redrawn W n) os) fun e w'=>e=.returned (.int .i64 (cf x y))∧Below (grow (redrawn W n) os).heap.size (grow (redrawn W n) os) w':=hC _ dk hs (h.regrown n os) x y
theorem SX.c2 (h:SX enc w0 blk off dk W) (R:Row1 enc w0 blk off d0) (hs:dk.size=d0.size) (i j:Nat) (hi:i<dk.size) (hj:j<dk.size) (v:Value) :
  ∃ u,(W.setCell ⟨blk,off+i,none⟩ v).cell? ⟨blk,off+j,none⟩=some u:=by
 by_cases e : i=j
 ·subst e;exact⟨v,World.cell?_setCell_same _ _ _ (h.c1 R hs i hi)⟩
 ·exact⟨_,(World.cell?_setCell_other _ _ _ _ (by intro e';simp only[Addr.mk.injEq] at e';omega)).trans (h.c1 R hs j hj)⟩
theorem zvi {B:Nat} {A W:World} (h:Below B A W) (p:Addr) (v:Value) : Below B (A.setCell p v) (W.setCell p v):=by
 refine⟨h.os,h.tape,h.output,by simpa using h.size,fun k hk=>?_⟩
 have hb:=h.block k hk
 simp only[World.setCell,Array.getElem?_modify]
 rw[hb]
theorem SX.swapped (h:SX enc w0 blk off dk W) (R:Row1 enc w0 blk off d0) (i j:Nat) (hi:i<dk.size) (hj:j<dk.size) :
  SX enc w0 blk off (swp dk i j) ((W.setCell ⟨blk,off+i,none⟩ (enc dk[j]!)).setCell ⟨blk,off+j,none⟩ (enc dk[i]!)).drew:=by
 refine SX.drew ?_
 unfold SX
 rw[← putRow_swp enc w0 blk off dk i j hi hj]
 exact zvi (zvi h _ _) _ _
end Go.Proofs.YtjfpbchdcbhfgaaGreat.B
namespace Go.Proofs.YtjfpbchdcbhfgaaGreat.B
open Go Go.RowKit Go.Shelf Go.Lib Go.Sort
set_option maxRecDepth 1000000
set_option linter.unusedVariables false
noncomputable section
variable {α:Type} [Inhabited α]
set_option maxHeartbeats 4000000 in
theorem zt1 (enc:α→Value) (g:Nat) (cb:Array Value) (blk off cap a b n:Nat) (d0 d:Array α) (w0 w:World)
  (R:Row1 enc w0 blk off d0) (hs:d0.size=d.size) (S:SX enc w0 blk off d w) (ha:a+n≤d.size) (hb:b+n≤d.size) (hsz:d.size<4611686018427387904) :
  Calls Tryz.prog 250 #[.slice (some ⟨blk,off,none⟩) d.size cap,.int .i64 a,.int .i64 b,.int .i64 n,.func (.func g) #[] cb] w fun e w'=>e=.returned (.tuple #[])∧SX enc w0 blk off (swR d a b n) w':=by
 have mixed:Tryz.prog.follows .mixedOrders=true:=by kernel_rfl
 have hcl0:=R.hO.cells
 simp only[Value.cells] at hcl0
 have hst:=R.hO.store Tryz.prog
 have S0:Aside (SX enc w0 blk off d w):=S
 clear S
 go_enter Tryz.func250,Tryz.ntmps250
 go_wp2
 go_loopg [10] (n) (fun kx s10 wr=>∃ (i:Nat) (dk:Array α),s10=.int .i64 i∧i≤n∧n - i≤kx∧dk.size=d.size∧Aside (SX enc w0 blk off dk wr)∧swR dk (a+i) (b+i) (n - i)=swR d a b n)
 case atStart=>exact⟨0,d,rfl,Nat.zero_le _,by omega,rfl,S0,rfl⟩
 case round =>
  clear S0
  obtain⟨i,dk,rfl,hi,hkx,hds,S1,heq⟩:=hrel
  by_cases hlt : i<n
  ·have hltz:(i:Int)<(n:Int):=by omega
   go_wp2_with fail
   obtain⟨iN1,hiN1⟩ : ∃ q,q=a+i:=⟨_,rfl⟩
   obtain⟨jN1,hjN1⟩ : ∃ q,q=b+i:=⟨_,rfl⟩
   have ea1:((a:Int)+(i:Int)).toNat=iN1:=by omega
   have pa1:(0:Int)≤(a:Int)+(i:Int):=by omega
   have ba1:(a:Int)+(i:Int)<(d.size:Int):=by omega
   have ra1:IntKind.i64.wrap ((a:Int)+(i:Int))=(a:Int)+(i:Int):=by rw[IntKind.wrap_i64];omega
   have ec1:((b:Int)+(i:Int)).toNat=jN1:=by omega
   have pc1:(0:Int)≤(b:Int)+(i:Int):=by omega
   have bc1:(b:Int)+(i:Int)<(d.size:Int):=by omega
   have rc1:IntKind.i64.wrap ((b:Int)+(i:Int))=(b:Int)+(i:Int):=by rw[IntKind.wrap_i64];omega
   obtain⟨x1,hx1⟩ : ∃ x,x=dk[a+i]!:=⟨_,rfl⟩
   obtain⟨y1,hy1⟩ : ∃ x,x=dk[b+i]!:=⟨_,rfl⟩
   have S2:Aside (SX enc w0 blk off (swp dk (a+i) (b+i)) ((wr.setCell ⟨blk,off+iN1,none⟩ (enc y1)).setCell ⟨blk,off+jN1,none⟩ (enc x1)).drew):=by rw[hiN1,hjN1,hx1,hy1];exact S1.out.swapped R (a+i) (b+i) (by omega) (by omega)
   have c1a:=S1.out.c1 R (by omega) (a+i) (by omega)
   have c1b:=S1.out.c1 R (by omega) (b+i) (by omega)
   have f1a:=S1.out.f1 R (by omega) (a+i) (by omega)
   have f1b:=S1.out.f1 R (by omega) (b+i) (by omega)
   obtain⟨u1,c1c⟩:=S1.out.c2 R (by omega) (a+i) (b+i) (by omega) (by omega) (enc y1)
   rw[← hjN1,← hiN1] at c1c
   rw[← hx1,← hiN1] at c1a
   rw[← hy1,← hjN1] at c1b
   rw[← hiN1] at f1a
   rw[← hjN1] at f1b
   clear S1 hx1 hy1 hiN1 hjN1
   go_wp2_with fail
   go_big_region_o
   clear c1a c1b c1c f1a f1b
   generalize ((wr.setCell ⟨blk,off+iN1,none⟩ (enc y1)).setCell ⟨blk,off+jN1,none⟩ (enc x1)).drew=w2 at S2 ⊢
   clear ea1 ec1
   go_wp2
   go_roundg (n - (i+1))
   case measure=>omega
   case rel =>
    refine⟨i+1,swp dk (a+i) (b+i),by go_num,by omega,Nat.le_refl _,by rw[size_swp];exact hds,S2,?_⟩
    rw[← heq,show n - i=(n - (i+1))+1 by omega,swR]
    rfl
  ·have hltz:¬ (i:Int)<(n:Int):=by omega
   go_wp2
   go_end0
   refine⟨rfl,?_⟩
   rw[show n - i=0 by omega,swR] at heq
   rw[← heq];exact S1.out
set_option maxHeartbeats 4000000 in
theorem z223 (enc:α→Value) (g:Nat) (cb:Array Value) (blk off cap a m b:Nat) (d0 d:Array α) (w0 w:World)
  (R:Row1 enc w0 blk off d0) (hs:d0.size=d.size) (S:SX enc w0 blk off d w) (ham:a<m) (hmb:m<b) (hb:b≤d.size) (hsz:d.size<4611686018427387904) :
  Calls Tryz.prog 244 #[.slice (some ⟨blk,off,none⟩) d.size cap,.int .i64 a,.int .i64 m,.int .i64 b,.func (.func g) #[] cb] w fun e w'=>e=.returned (.tuple #[])∧SX enc w0 blk off (rotF d a m b) w':=by
 have mixed:Tryz.prog.follows .mixedOrders=true:=by kernel_rfl
 have S0:Aside (SX enc w0 blk off d w):=S
 clear S
 go_enter Tryz.func244,Tryz.ntmps244
 go_wp2
 go_loopg [10,11] (b - a) (fun kx s10 s11 wr=>∃ (f i j:Nat) (dk:Array α),s10=.int .i64 i∧s11=.int .i64 j∧0<i∧0<j∧i≤m∧m+j≤d.size∧i+j≤f∧i+j≤kx∧dk.size=d.size∧Aside (SX enc w0 blk off dk wr)∧rotL f dk m i j=rotF d a m b)
 case atStart=>exact⟨b - a,m - a,b - m,d,by go_num,by go_num,by omega,by omega,by omega,by omega,by omega,by omega,rfl,S0,rfl⟩
 case round =>
  clear S0
  obtain⟨f,i,j,dk,rfl,rfl,hi,hj,him,hjm,hf,hkx,hds,S1,heq⟩:=hrel
  obtain⟨f,rfl⟩ : ∃ q,f=q+1:=⟨f - 1,by omega⟩
  rw[rotL] at heq
  by_cases he : i=j
  ·rw[if_pos he] at heq
   subst he
   have hne:((i:Int) != (i:Int))=false:=by simp
   go_wp2_with (first
    | (go_at_call 250;rw[show ((m:Int) - (i:Int))=((m - i:Nat):Int) by omega];rw[← hds];refine (zt1 enc g cb blk off cap (m - i) m i d0 dk w0 _ R (by omega) S1.out (by omega) (by omega) (by omega)).mono ?_;rintro e w' ⟨rfl,S2⟩;have S3:=Lib.hid S2;clear S2)
    | fail)
   go_end0
   exact⟨rfl,by rw[← heq];exact S3.out⟩
  ·rw[if_neg he] at heq
   have hne:((i:Int) != (j:Int))=true:=by simp;omega
   by_cases hij : j<i
   ·rw[if_pos hij] at heq
    have hgt:(j:Int)<(i:Int):=by omega
    go_wp2_with (first
     | (go_at_call 250;rw[show ((m:Int) - (i:Int))=((m - i:Nat):Int) by omega];rw[← hds];refine (zt1 enc g cb blk off cap (m - i) m j d0 dk w0 _ R (by omega) S1.out (by omega) (by omega) (by omega)).mono ?_;rintro e w' ⟨rfl,S2⟩;have S3:=Lib.hid S2;clear S2)
     | fail)
    go_roundg (i - j+j)
    case measure=>omega
    case rel=>exact⟨f,i - j,j,_,by go_num,rfl,by omega,by omega,by omega,by omega,by omega,by omega,by rw[zhb];exact hds,S3.out,heq⟩
   ·rw[if_neg hij] at heq
    have hgt:¬ (j:Int)<(i:Int):=by omega
    go_wp2_with (first
     | (go_at_call 250;rw[show ((m:Int) - (i:Int))=((m - i:Nat):Int) by omega];rw[show ((m:Int)+(j:Int) - (i:Int))=((m+j - i:Nat):Int) by omega];rw[← hds];refine (zt1 enc g cb blk off cap (m - i) (m+j - i) i d0 dk w0 _ R (by omega) S1.out (by omega) (by omega) (by omega)).mono ?_;rintro e w' ⟨rfl,S2⟩;have S3:=Lib.hid S2;clear S2)
     | fail)
    go_roundg (i+(j - i))
    case measure=>omega
    case rel=>exact⟨f,i,j - i,_,rfl,by go_num,by omega,by omega,by omega,by omega,by omega,by omega,by rw[zhb];exact hds,S3.out,heq⟩
end
end Go.Proofs.YtjfpbchdcbhfgaaGreat.B
