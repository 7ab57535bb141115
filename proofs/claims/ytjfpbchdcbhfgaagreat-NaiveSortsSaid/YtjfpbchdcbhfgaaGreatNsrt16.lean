/- Part 16 of the proof: Slike1 Svals Svbool Lscal. -/
import Derived.MapKept
import Derived.Carry
import Derived.Test.YtjfpbchdcbhfgaaGreatNsrt15
namespace Go.Proofs.YtjfpbchdcbhfgaaGreat.B
open Go Go.RowKit
set_option maxRecDepth 100000
noncomputable section
attribute [local irreducible] awp ctxK z12 z1o retQ z2i awf ctxF zt
def zbg : Mc Un:=mach (tbl [(235,z9t)]) (tbl []) (tbl []) (tbl []) (tbl [])
def z11f (r:List Sign) : List (A Un):=[.c (.ob 0 0)]
def z11g (r:List Sign) : List (Ob Un):=[⟨0,Ty.sign,r,none,true⟩]
def z11h (r:List Sign) : RF Un:=(z11f r,z11g r)
def zbh : Nat→NS:=fun l=>(look l [(3,{ ts:=bl 66 25,bs:=bl 66 0,nm:=[(.sl 3,264)] })]).getD ⟨[],[],[],[],[],false⟩
def z2u (p:ByteArray) (v0:Int) (v1:List Sign) : S Un:=(st 66 66 265 0 [(0,at_ p),(3,ao 264),(4,ai v0)] [] [(264,some ⟨(0:Nat),Ty.sign,v1,some (0:Nat),true⟩)])
noncomputable def zya : Code:=sub (z8 Tryz.f207) [1,1,0,1,2,2]
def z61 : S Un→Option (EX Un):=zt (zbh 3) (fun s Q=>awf zbg zbh zya s Q)
def zyb : Exit→S Un→Option (RF Un):=ctxF zbg zbh (z8 Tryz.f207) [1,1,0,1,2] (retF zbg Tryz.f207.results.toList [.o])
def zyc (p:ByteArray) : Option (RF Un):=awf zbg zbh (z8 Tryz.f207) (zg Tryz.f207.ntmps 1 [.d (.v (cs p))]) (retF zbg Tryz.f207.results.toList [.o])
theorem z1lz (p:ByteArray) : zyc p=(z61 (z2u p (0:Int) ([]))).bind (zx zyb):=by kernel_rfl
def zcp (p:ByteArray) (v0:Int) (v1:List Sign) : Option (EX Un):=obO (0≤v0∧v0<(↑p.size:Int)) (obO ((v1.length+([{ kind:=(0:Int),b:=(↑(p.toList.getD v0.toNat 0).toNat:Int) }] : List Sign).length)*(16:Nat)≤zw) (z61 (z2u p (IntKind.i64.wrap (v0+1)) (v1++[{ kind:=(0:Int),b:=(↑(p.toList.getD v0.toNat 0).toNat:Int) }]))))
theorem zml (p:ByteArray) (v0:Int) (v1:List Sign) : z61 (z2u p v0 v1)=cndO (decide (v0<(↑p.size:Int))) (obO (0≤v0∧v0<(↑p.size:Int)) (cndO ((↑(p.toList.getD v0.toNat 0).toNat:Int) == (37:Int)) (obO ((v1.length+([{ kind:=(2:Int),b:=(0:Int) }] : List Sign).length)*(16:Nat)≤zw) (z61 (z2u p (IntKind.i64.wrap (v0+1)) (v1++[{ kind:=(2:Int),b:=(0:Int) }])))) (obO (0≤v0∧v0<(↑p.size:Int)) (cndO ((↑(p.toList.getD v0.toNat 0).toNat:Int) == (95:Int)) (obO ((v1.length+([{ kind:=(1:Int),b:=(0:Int) }] : List Sign).length)*(16:Nat)≤zw) (z61 (z2u p (IntKind.i64.wrap (v0+1)) (v1++[{ kind:=(1:Int),b:=(0:Int) }])))) (obO (0≤v0∧v0<(↑p.size:Int)) (cndO ((↑(p.toList.getD v0.toNat 0).toNat:Int) == (92:Int)) (cndO (decide (IntKind.i64.wrap (v0+1)<(↑p.size:Int))) (obO (0≤IntKind.i64.wrap (v0+1)∧IntKind.i64.wrap (v0+1)<(↑p.size:Int)) (cndO (decide (idxB (ByteArray.mk #[37,95,92]) (↑(p.toList.getD (IntKind.i64.wrap (v0+1)).toNat 0).toNat:Int)≥(0:Int))) (obO (0≤IntKind.i64.wrap (v0+1)∧IntKind.i64.wrap (v0+1)<(↑p.size:Int)) (obO ((v1.length+([{ kind:=(0:Int),b:=(↑(p.toList.getD (IntKind.i64.wrap (v0+1)).toNat 0).toNat:Int) }] : List Sign).length)*(16:Nat)≤zw) (z61 (z2u p (IntKind.i64.wrap (IntKind.i64.wrap (v0+1)+1)) (v1++[{ kind:=(0:Int),b:=(↑(p.toList.getD (IntKind.i64.wrap (v0+1)).toNat 0).toNat:Int) }]))))) (zcp p v0 v1))) (zcp p v0 v1)) (zcp p v0 v1))))))) (some (.exit 0,(z2u p v0 v1))):=(z11 (zbh 3) zya _).trans (by kernel_rfl)
theorem z19a (p:ByteArray) (v0:Int) (v1:List Sign) : zyb (.exit 0) (z2u p v0 v1)=some (z11h (v1)):=by kernel_rfl
def escB (d:UInt8) : Bool:=decide (idxB (ByteArray.mk #[37,95,92]) (d.toNat:Int)≥0)
def z8i : List UInt8→List Sign
 | []=>[]
 | [c]=>if (c.toNat:Int)=37 then [⟨2,0⟩] else if (c.toNat:Int)=95 then [⟨1,0⟩] else [⟨0,(c.toNat:Int)⟩]
 | c::d::r=>if (c.toNat:Int)=37 then ⟨2,0⟩::z8i (d::r) else if (c.toNat:Int)=95 then ⟨1,0⟩::z8i (d::r) else if (c.toNat:Int)=92∧escB d=true then ⟨0,(d.toNat:Int)⟩::z8i r else ⟨0,(c.toNat:Int)⟩::z8i (d::r)
def z1f (p:ByteArray) : List Sign:=z8i p.toList
theorem zx8 : ∀ (n:Nat) (l:List UInt8),l.length≤n→(z8i l).length≤l.length
 | _,[],_=>Nat.le_refl _
 | _,[c],_=>by
  simp only[z8i]
  repeat' split
  all_goals simp
 | n+1,c::d::r,h=>by
  simp only[List.length_cons] at h
  have h1:=zx8 n (d::r) (by simp only[List.length_cons];omega)
  have h2:=zx8 n r (by omega)
  simp only[List.length_cons] at h1
  simp only[z8i]
  repeat' split
  all_goals (simp only[List.length_cons];omega)
 | 0,c::d::r,h=>by simp at h
theorem z1wh (p:ByteArray) (hp:p.size≤2000000) : ∀ (n i:Nat) (o:List Sign),p.size - i≤n→i≤p.size→o.length≤i→z61 (z2u p (i:Int) o)=some (.exit 0,z2u p (p.size:Int) (o++z8i (p.toList.drop i))):=by
 intro n
 have hsz:=z38 p
 induction n with
 | zero =>
  intro i o h1 h2 h3
  have e:i=p.size:=by omega
  subst e
  rw[zml,za,if_neg (by simp),List.drop_of_length_le (by omega)]
  simp only[z8i,List.append_nil]
 | succ n ih =>
  intro i o h1 h2 h3
  rcases Nat.lt_or_ge i p.size with hi | hi
  ·have hw:IntKind.i64.wrap ((i:Int)+1)=((i+1:Nat):Int):=by rw[z2n (by omega)];omega
   have hg:(p.toList.getD i 0)=p.toList[i]'(by omega):=by rw[List.getD_eq_getElem?_getD,List.getElem?_eq_getElem (by omega)];rfl
   have hd:p.toList.drop i=p.toList[i]'(by omega)::p.toList.drop (i+1):=List.drop_eq_getElem_cons (by omega)
   have ih1:∀ x : Sign,z61 (z2u p ((i+1:Nat):Int) (o++[x]))=some (.exit 0,z2u p (p.size:Int) (o++x::z8i (p.toList.drop (i+1)))):=by
    intro x
    rw[ih (i+1) (o++[x]) (by omega) (by omega) (by rw[List.length_append,List.length_singleton];omega),List.append_assoc];rfl
   have e1:zcp p (i:Int) o=some (.exit 0,z2u p (p.size:Int) (o++⟨0,((p.toList[i]'(by omega)).toNat:Int)⟩::z8i (p.toList.drop (i+1)))):=by
    unfold zcp
    rw[z6 (by omega),z6 (by unfold zw;rw[List.length_singleton];omega),Int.toNat_natCast,hg,hw,ih1]
   rw[zml,e1]
   simp only[za,decide_eq_true_eq,beq_iff_eq,Int.toNat_natCast,hg,hw]
   rw[if_pos (by omega),z6 (by omega),z6 (by unfold zw;rw[List.length_singleton];omega),z6 (by omega),z6 (by unfold zw;rw[List.length_singleton];omega),z6 (by omega),ih1,ih1,hd]
   generalize p.toList[i]'(by omega)=c
   rcases Nat.lt_or_ge (i+1) p.size with hj | hj
   ·have hg2:(p.toList.getD (i+1) 0)=p.toList[i+1]'(by omega):=by rw[List.getD_eq_getElem?_getD,List.getElem?_eq_getElem (by omega)];rfl
    have hd2:p.toList.drop (i+1)=p.toList[i+1]'(by omega)::p.toList.drop (i+1+1):=List.drop_eq_getElem_cons (by omega)
    have hw2:IntKind.i64.wrap (((i+1:Nat):Int)+1)=((i+1+1:Nat):Int):=by rw[z2n (by omega)];omega
    have ih2:∀ x : Sign,z61 (z2u p ((i+1+1:Nat):Int) (o++[x]))=some (.exit 0,z2u p (p.size:Int) (o++x::z8i (p.toList.drop (i+1+1)))):=by
     intro x
     rw[ih (i+1+1) (o++[x]) (by omega) (by omega) (by rw[List.length_append,List.length_singleton];omega),List.append_assoc];rfl
    rw[if_pos (show ((i+1:Nat):Int)<(p.size:Int) by omega),z6 (by omega),z6 (by omega),z6 (by unfold zw;rw[List.length_singleton];omega),hg2,hw2,ih2,hd2]
    generalize p.toList[i+1]'(by omega)=d
    simp only[z8i]
    by_cases c1 : (c.toNat:Int)=37
    ·rw[if_pos c1,if_pos c1]
    ·rw[if_neg c1,if_neg c1]
     by_cases c2 : (c.toNat:Int)=95
     ·rw[if_pos c2,if_pos c2]
     ·rw[if_neg c2,if_neg c2]
      by_cases c3 : (c.toNat:Int)=92
      ·by_cases c4 : escB d=true
       ·have c4':idxB (ByteArray.mk #[37,95,92]) (d.toNat:Int)≥0:=by unfold escB at c4;exact of_decide_eq_true c4
        rw[if_pos c3,if_pos c4',if_pos ⟨c3,c4⟩]
       ·have c4':¬ idxB (ByteArray.mk #[37,95,92]) (d.toNat:Int)≥0:=fun e=>c4 (by unfold escB;exact decide_eq_true e)
        rw[if_pos c3,if_neg c4',if_neg (fun e=>c4 e.2)]
      ·rw[if_neg c3,if_neg (fun e=>c3 e.1)]
   ·have hd2:p.toList.drop (i+1)=[]:=List.drop_of_length_le (by omega)
    rw[if_neg (show ¬ ((i+1:Nat):Int)<(p.size:Int) by omega),hd2]
    simp only[z8i]
    by_cases c1 : (c.toNat:Int)=37
    ·rw[if_pos c1,if_pos c1]
    ·rw[if_neg c1,if_neg c1]
     by_cases c2 : (c.toNat:Int)=95
     ·rw[if_pos c2,if_pos c2]
     ·rw[if_neg c2,if_neg c2]
      split<;>rfl
  ·have e:i=p.size:=by omega
   subst e
   rw[zml,za,if_neg (by simp),List.drop_of_length_le (by omega)]
   simp only[z8i,List.append_nil]
theorem z1cg (p:ByteArray) (_hp:WStr p) (h:p.size≤2000000) : zyc p=some (z11h (z1f p)):=by
 have lp:=z1wh p h p.size 0 [] (by omega) (by omega) (Nat.le_refl _)
 rw[List.nil_append,List.drop_zero] at lp
 rw[z1lz]
 refine (zn lp).trans ?_
 rw[z19a]
 rfl
def ziu : FnC Un:=fun args=>match args with
 | [x0]=>(dStr x0).bind fun p=>some ([p.size≤2000000],z11f (z1f p),z11g (z1f p))
 | _=>none
theorem z1m0 : FnOK 207 ziu:=by
 intro args ob rs os h hob
 unfold ziu at h
 split at h
 ·simp only[Option.bind_eq_some_iff,Option.some.injEq,Prod.mk.injEq] at h
  obtain⟨p,e0,rfl,rfl,rfl⟩:=h
  obtain rfl:=z57 e0
  exact⟨zd (M:=zbg) rfl (zf (l1:=[(235,z9t)]) (l2:=[]) (l3:=[]) (l4:=[]) (l5:=[]) ⟨zx7,trivial⟩ trivial trivial trivial trivial) Tryz.func207 (by kernel_rfl) zbh 1 [.o] (fun hwf=>(z1cg p (ze hwf (a:=.d (.v (cs p))) (List.mem_of_getElem? (i:=0) rfl)) (hob _ (List.mem_of_getElem? (i:=0) rfl)))),zb Tryz.func207 (by kernel_rfl) (by kernel_rfl)⟩
 ·simp at h
def z6q : Mc Un:=mach (tbl [(207,ziu)]) (tbl []) (tbl []) (tbl []) (tbl [])
def z11i (r:Bool) : List (A Un):=[.c (.s (.bool r))]
def z11j (_r:Bool) : List (Ob Un):=[]
def z5p (r:Bool) : RF Un:=(z11i r,z11j r)
def z5q : Nat→NS:=fun l=>(look l [(4,{ ts:=bl 87 1009,bs:=bl 87 0,nm:=[(.sl 5,348)] }),(15,{ ts:=bl 87 160,bs:=bl 87 0,nm:=[(.sl 5,349)] })]).getD ⟨[],[],[],[],[],false⟩
def z2j (s:ByteArray) (p:ByteArray) (v0:Int) (v1:Int) (v2:Int) (v3:Int) : S Un:=(st 87 87 350 0 [(0,at_ s),(4,ab false),(5,ao 348),(6,ai v2),(7,ai v0),(8,ai v1),(9,ai v3)] [] [(348,some ⟨(0:Nat),Ty.sign,z1f p,none,true⟩)])
def z35 (p:ByteArray) (v0:Int) : S Un:=(st 87 87 350 0 [(5,ao 349),(7,ai v0)] [] [(349,some ⟨(0:Nat),Ty.sign,z1f p,none,true⟩)])
noncomputable def zyd : Code:=sub (z8 Tryz.f167) [1,1,1,1,0,2,2]
def z54 : S Un→Option (EX Un):=zt (z5q 4) (fun s Q=>awf z6q z5q zyd s Q)
noncomputable def zug : Code:=sub (z8 Tryz.f167) [1,1,1,1,1,0,2,2]
def z67 : S Un→Option (EX Un):=zt (z5q 15) (fun s Q=>awf z6q z5q zug s Q)
def z8e : Exit→S Un→Option (RF Un):=ctxF z6q z5q (z8 Tryz.f167) [1,1,1,1,0,2] (retF z6q Tryz.f167.results.toList [.d])
def zjx : Exit→S Un→Option (RF Un):=ctxF z6q z5q (z8 Tryz.f167) [1,1,1,1,1,0,2] (retF z6q Tryz.f167.results.toList [.d])
def zgk (s:ByteArray) (p:ByteArray) : Option (RF Un):=awf z6q z5q (z8 Tryz.f167) (zg Tryz.f167.ntmps 2 [.d (.v (cs s)),.d (.v (cs p))]) (retF z6q Tryz.f167.results.toList [.d])
theorem z1m1 (s:ByteArray) (p:ByteArray) : zgk s p=obO (p.size≤(2000000:Nat)) ((z54 (z2j s p (0:Int) (-1:Int) (0:Int) (0:Int))).bind (zx z8e)):=by kernel_rfl
def zgl (s:ByteArray) (p:ByteArray) (v0:Int) (v1:Int) (v2:Int) (v3:Int) : Option (EX Un):=cndO (decide (v1≥0)) (z54 (z2j s p (IntKind.i64.wrap (v1+1)) v1 (IntKind.i64.wrap (v3+1)) (IntKind.i64.wrap (v3+1)))) (some (.ret,(z2j s p v0 v1 v2 v3)))
def zgm (s:ByteArray) (p:ByteArray) (v0:Int) (v1:Int) (v2:Int) (v3:Int) : Option (EX Un):=cndO (decide (v0<(↑(z1f p).length:Int))) (obO (0≤v0∧v0<(↑(z1f p).length:Int)) (cndO (((z1f p).getD v0.toNat zjs).kind == 1) (z54 (z2j s p (IntKind.i64.wrap (v0+1)) v1 (IntKind.i64.wrap (v2+1)) v3)) (obO (0≤v0∧v0<(↑(z1f p).length:Int)) (obO (0≤v2∧v2<(↑s.size:Int)) (cndO (((z1f p).getD v0.toNat zjs).b == (↑(s.toList.getD v2.toNat 0).toNat:Int)) (z54 (z2j s p (IntKind.i64.wrap (v0+1)) v1 (IntKind.i64.wrap (v2+1)) v3)) (zgl s p v0 v1 v2 v3)))))) (zgl s p v0 v1 v2 v3)
theorem zye (s:ByteArray) (p:ByteArray) (v0:Int) (v1:Int) (v2:Int) (v3:Int) : z54 (z2j s p v0 v1 v2 v3)=cndO (decide (v2<(↑s.size:Int))) (cndO (decide (v0<(↑(z1f p).length:Int))) (obO (0≤v0∧v0<(↑(z1f p).length:Int)) (cndO (((z1f p).getD v0.toNat zjs).kind == 2) (z54 (z2j s p (IntKind.i64.wrap (v0+1)) v0 v2 v2)) (zgm s p v0 v1 v2 v3))) (zgm s p v0 v1 v2 v3)) (some (.exit 0,(z2j s p v0 v1 v2 v3))):=(z11 (z5q 4) zyd _).trans (by kernel_rfl)
theorem z14m (s:ByteArray) (p:ByteArray) (v0:Int) (v1:Int) (v2:Int) (v3:Int) : z8e .ret (z2j s p v0 v1 v2 v3)=some (z5p (false)):=by kernel_rfl
theorem z19b (s:ByteArray) (p:ByteArray) (v0:Int) (v1:Int) (v2:Int) (v3:Int) : z8e (.exit 0) (z2j s p v0 v1 v2 v3)=(z67 (z35 p v0)).bind (zx zjx):=by kernel_rfl
theorem zjy (p:ByteArray) (v0:Int) : z67 (z35 p v0)=cndO (decide (v0<(↑(z1f p).length:Int))) (obO (0≤v0∧v0<(↑(z1f p).length:Int)) (cndO (((z1f p).getD v0.toNat zjs).kind == 2) (z67 (z35 p (IntKind.i64.wrap (v0+1)))) (some (.exit 3,(z35 p v0))))) (some (.exit 3,(z35 p v0))):=(z11 (z5q 15) zug _).trans (by kernel_rfl)
theorem zn3 (p:ByteArray) (v0:Int) : zjx (.exit 3) (z35 p v0)=some (z5p (v0 == (↑(z1f p).length:Int))):=by kernel_rfl
theorem z1z9 (s p:ByteArray) (hp:(z1f p).length≤2000000) : ∀ (c k:Nat),(z1f p).length - k=c→k≤(z1f p).length→∃ r,(z67 (z35 p (k:Int))).bind (zx zjx)=some (z5p r):=by
 intro c
 induction c with
 | zero =>
  intro k h1 h2
  have e:z67 (z35 p (k:Int))=some (.exit 3,z35 p (k:Int)):=by rw[zjy,za,if_neg (by simp;omega)]
  rw[zn e,zn3]
  exact⟨_,rfl⟩
 | succ c ih =>
  intro k h1 h2
  by_cases hk : ((z1f p).getD k zjs).kind=2
  ·have e:z67 (z35 p (k:Int))=z67 (z35 p ((k+1:Nat):Int)):=by
    rw[zjy,za,if_pos (by simp;omega),z6 (by omega),Int.toNat_natCast,za,if_pos (by simpa using hk),show IntKind.i64.wrap ((k:Int)+1)=((k+1:Nat):Int) by rw[z2n (by omega)];omega]
   rw[e]
   exact ih (k+1) (by omega) (by omega)
  ·have e:z67 (z35 p (k:Int))=some (.exit 3,z35 p (k:Int)):=by
    rw[zjy,za,if_pos (by simp;omega),z6 (by omega),Int.toNat_natCast,za,if_neg (by simpa using hk)]
   rw[zn e,zn3]
   exact⟨_,rfl⟩
theorem z1za (s p:ByteArray) (hs:s.size≤2000000) (hp:(z1f p).length≤2000000) : ∀ (a b c k at_ from_:Nat) (star:Int),s.size - from_=a→s.size - at_=b→(z1f p).length - k=c →
  at_≤s.size→from_≤at_→k≤(z1f p).length→star<((z1f p).length:Int)→-1≤star →
  ∃ r,(z54 (z2j s p (k:Int) star (at_:Int) (from_:Int))).bind (zx z8e)=some (z5p r):=by
 intro a
 induction a using Nat.strongRecOn with
 | ind a iha =>
  intro b
  induction b using Nat.strongRecOn with
  | ind b ihb =>
   intro c
   induction c using Nat.strongRecOn with
   | ind c ihc =>
    intro k at_ from_ star h1 h2 h3 h4 h5 h6 h7 h8
    rcases Nat.lt_or_ge at_ s.size with ha | ha
    ·have wk:k<(z1f p).length→IntKind.i64.wrap ((k:Int)+1)=((k+1:Nat):Int):=fun h=>by rw[z2n (by omega)];omega
     have wa:IntKind.i64.wrap ((at_:Int)+1)=((at_+1:Nat):Int):=by rw[z2n (by omega)];omega
     have wf:IntKind.i64.wrap ((from_:Int)+1)=((from_+1:Nat):Int):=by rw[z2n (by omega)];omega
     have t1:∃ r,(zgl s p (k:Int) star (at_:Int) (from_:Int)).bind (zx z8e)=some (z5p r):=by
      unfold zgl
      by_cases hst : star≥0
      ·obtain⟨q,rfl⟩:=Int.eq_ofNat_of_zero_le hst
       rw[za,if_pos (decide_eq_true hst),wf,show IntKind.i64.wrap ((q:Int)+1)=((q+1:Nat):Int) by rw[z2n (by omega)];omega]
       exact iha (s.size - (from_+1)) (by omega) _ _ (q+1) (from_+1) (from_+1) (q:Int) rfl rfl rfl (by omega) (by omega) (by omega) h7 h8
      ·have e:cndO (decide (star≥0)) (z54 (z2j s p (IntKind.i64.wrap (star+1)) star (IntKind.i64.wrap ((from_:Int)+1)) (IntKind.i64.wrap ((from_:Int)+1)))) (some (.ret,(z2j s p (k:Int) star (at_:Int) (from_:Int))))=some (.ret,(z2j s p (k:Int) star (at_:Int) (from_:Int))):=by rw[za,if_neg (by simpa using hst)]
       rw[zn e,z14m]
       exact⟨_,rfl⟩
     have t2:∃ r,(zgm s p (k:Int) star (at_:Int) (from_:Int)).bind (zx z8e)=some (z5p r):=by
      unfold zgm
      rcases Nat.lt_or_ge k (z1f p).length with hk | hk
      ·have ihm:∃ r,(z54 (z2j s p ((k+1:Nat):Int) star ((at_+1:Nat):Int) (from_:Int))).bind (zx z8e)=some (z5p r) :=
        ihb (s.size - (at_+1)) (by omega) _ (k+1) (at_+1) from_ star h1 rfl rfl (by omega) (by omega) (by omega) h7 h8
       rw[za,if_pos (by simp;omega),z6 (by omega),z6 (by omega),z6 (by omega),wk hk,wa,za,za]
       split
       ·exact ihm
       ·split
        ·exact ihm
        ·exact t1
      ·rw[za,if_neg (by simp;omega)]
       exact t1
     rw[zye,za,if_pos (by simp;omega),za]
     rcases Nat.lt_or_ge k (z1f p).length with hk | hk
     ·rw[if_pos (by simp;omega),z6 (by omega),za]
      split
      ·rw[wk hk]
       rcases Nat.lt_or_ge (s.size - at_) a with hlt | hge
       ·exact iha (s.size - at_) hlt _ _ (k+1) at_ at_ (k:Int) rfl rfl rfl (by omega) (by omega) (by omega) (by omega) (by omega)
       ·exact ihc ((z1f p).length - (k+1)) (by omega) (k+1) at_ at_ (k:Int) (by omega) h2 rfl (by omega) (by omega) (by omega) (by omega) (by omega)
      ·exact t2
     ·rw[if_neg (by simp;omega)]
      exact t2
    ·have e:z54 (z2j s p (k:Int) star (at_:Int) (from_:Int))=some (.exit 0,z2j s p (k:Int) star (at_:Int) (from_:Int)):=by rw[zye,za,if_neg (by simp;omega)]
     rw[zn e,z19b]
     exact z1z9 s p hp _ k rfl h6
theorem z1wi (s p:ByteArray) (hs:s.size≤2000000) (hp:p.size≤2000000) : ∃ r,zgk s p=some (z5p r):=by
 have hl:(z1f p).length≤2000000:=by
  have:=zx8 _ p.toList (Nat.le_refl _)
  rw[z38] at this
  unfold z1f;omega
 rw[z1m1,z6 hp]
 exact z1za s p hs hl _ _ _ 0 0 0 (-1) rfl rfl rfl (by omega) (by omega) (by omega) (by omega) (by omega)
noncomputable def zer (s p:ByteArray) : Bool:=@dite _ (∃ r,zgk s p=some (z5p r)) (Classical.propDecidable _) (fun h=>h.choose) (fun _=>false)
theorem z1ch (s p:ByteArray) (_hs:WStr s) (_hp:WStr p) (h1:s.size≤2000000) (h2:p.size≤2000000) : zgk s p=some (z5p (zer s p)):=by
 have h:=z1wi s p h1 h2
 unfold zer
 rw[dif_pos h]
 exact h.choose_spec
def ziv : FnC Un:=fun args=>match args with
 | [x0,x1]=>(dStr x0).bind fun s=>(dStr x1).bind fun p=>some ([s.size≤2000000,p.size≤2000000],z11i (zer s p),z11j (zer s p))
 | _=>none
theorem z1m2 : FnOK 167 ziv:=by
 intro args ob rs os h hob
 unfold ziv at h
 split at h
 ·simp only[Option.bind_eq_some_iff,Option.some.injEq,Prod.mk.injEq] at h
  obtain⟨s,e0,p,e1,rfl,rfl,rfl⟩:=h
  obtain rfl:=z57 e0
  obtain rfl:=z57 e1
  exact⟨zd (M:=z6q) rfl (zf (l1:=[(207,ziu)]) (l2:=[]) (l3:=[]) (l4:=[]) (l5:=[]) ⟨z1m0,trivial⟩ trivial trivial trivial trivial) Tryz.func167 (by kernel_rfl) z5q 2 [.d] (fun hwf=>(z1ch s p (ze hwf (a:=.d (.v (cs s))) (List.mem_of_getElem? (i:=0) rfl)) (ze hwf (a:=.d (.v (cs p))) (List.mem_of_getElem? (i:=1) rfl)) (hob _ (List.mem_of_getElem? (i:=0) rfl)) (hob _ (List.mem_of_getElem? (i:=1) rfl)))),zb Tryz.func167 (by kernel_rfl) (by kernel_rfl)⟩
 ·simp at h
end
end Go.Proofs.YtjfpbchdcbhfgaaGreat.B
namespace Go.Proofs.YtjfpbchdcbhfgaaGreat.B
open Go Go.RowKit
set_option maxRecDepth 100000
noncomputable section
attribute [local irreducible] awp ctxK z12 z1o retQ z2i awf ctxF zt
def zcx : Mc Un:=mach (tbl []) (tbl []) (tbl []) (tbl []) (tbl [])
def z15u (r:Int) : List (A Un):=[.c (.s (.int .i64 r))]
def z15v (_r:Int) : List (Ob Un):=[]
def zkt (r:Int) : RF Un:=(z15u r,z15v r)
def zcy : Nat→NS:=fun l=>(look l [(2,{ ts:=bl 19 403,bs:=bl 19 0,nm:=[] })]).getD ⟨[],[],[],[],[],false⟩
def z4x (s:List Val) (f_o:Val→Prop) (f:Val→Bool) (v0:Int) : S Un:=(st 19 19 76 0 [(0,al .val s),(1,AV.one (A.c (C.fv (zo f_o f)))),(4,ai (0:Int)),(7,ai (↑s.length:Int)),(8,ai v0)] [] [])
def zh7 (s:List Val) (f_o:Val→Prop) (f:Val→Bool) (v0:Int) (v1:Int) : S Un:=(st 19 19 76 0 [(0,al .val s),(1,AV.one (A.c (C.fv (zo f_o f)))),(4,ai v1),(7,ai (↑s.length:Int)),(8,ai v0)] [] [])
noncomputable def z11k : Code:=sub (z8 Tryz.f209) [1,0,1,2,2]
def z7v : S Un→Option (EX Un):=zt (zcy 2) (fun s Q=>awf zcx zcy z11k s Q)
def ziw : Exit→S Un→Option (RF Un):=ctxF zcx zcy (z8 Tryz.f209) [1,0,1,2] (retF zcx Tryz.f209.results.toList [.d])
def z11l (s:List Val) (f_o:Val→Prop) (f:Val→Bool) : Option (RF Un):=awf zcx zcy (z8 Tryz.f209) (zg Tryz.f209.ntmps 0 [.d (.v (.dat (U:=Un) Ty.val s)),.fn (zo f_o f)]) (retF zcx Tryz.f209.results.toList [.d])
theorem z1pm (s:List Val) (f_o:Val→Prop) (f:Val→Bool) : z11l s f_o f=(z7v (z4x s f_o f (0:Int))).bind (zx ziw):=by kernel_rfl
theorem zp3 (s:List Val) (f_o:Val→Prop) (f:Val→Bool) (v0:Int) : z7v (z4x s f_o f v0)=cndO (decide (v0<(↑s.length:Int))) (obO (0≤v0∧v0<(↑s.length:Int)) (obO (f_o (s.getD v0.toNat z7)) (cndO (f (s.getD v0.toNat z7)) (some (.ret,(zh7 s f_o f v0 v0))) (z7v (z4x s f_o f (IntKind.i64.wrap (v0+1))))))) (some (.exit 0,(z4x s f_o f v0))):=(z11 (zcy 2) z11k _).trans (by kernel_rfl)
theorem z19c (s:List Val) (f_o:Val→Prop) (f:Val→Bool) (v0:Int) (v1:Int) : ziw .ret (zh7 s f_o f v0 v1)=some (zkt (v1)):=by kernel_rfl
theorem z1ci (s:List Val) (f_o:Val→Prop) (f:Val→Bool) (v0:Int) : ziw (.exit 0) (z4x s f_o f v0)=some (zkt ((-1:Int))):=by kernel_rfl
def zas (o:Val→Prop) (s:List Val) : Prop:=∀ x∈s,o x
def z3r (s:List Val) (_o:Val→Prop) (f:Val→Bool) : Int:=match s.findIdx? f with | some i=>(i:Int) | none=>-1
theorem z19d (s:List Val) (o:Val→Prop) (f:Val→Bool) : 0≤z3r s o f↔s.any f=true:=by
 unfold z3r
 cases h : s.findIdx? f with
 | none =>
  have:=List.findIdx?_eq_none_iff.1 h
  simp only[List.any_eq_true]
  constructor
  ·intro h1;exact absurd h1 (by decide)
  ·rintro ⟨x,hx,hf⟩;rw[this x hx] at hf;simp at hf
 | some i =>
  obtain⟨h1,h2,_⟩:=List.findIdx?_eq_some_iff_getElem.1 h
  simp only[List.any_eq_true]
  exact⟨fun _=>⟨s[i],List.getElem_mem h1,h2⟩,fun _=>by omega⟩
theorem z1gq (s:List Val) (o:Val→Prop) (f:Val→Bool) (hs:WL .val s) (ho:zas o s) : z11l s o f=some (zkt (z3r s o f)):=by
 have key:∀ (r:List Val) (i:Nat),s.drop i=r→i≤s.length→(z7v (z4x s o f i)).bind (zx ziw)=some (zkt (match r.findIdx? f with | some k=>((i+k:Nat):Int) | none=>-1)):=by
  intro r
  induction r with
  | nil =>
   intro i hr hi
   have : s.length≤i:=by rw[← List.drop_eq_nil_iff];exact hr
   have e:z7v (z4x s o f i)=some (.exit 0,z4x s o f i):=by rw[zp3,za,if_neg (by simp;omega)]
   rw[zn e,z1ci];rfl
  | cons x r ih =>
   intro i hr hi
   obtain⟨a1,a2,a3,hm⟩:=z31 hr
   have hx:s.getD i z7=x:=a2 z7
   by_cases hf : f x=true
   ·have e:z7v (z4x s o f i)=some (.ret,zh7 s o f i i):=by
     rw[zp3,za,if_pos (by simp;omega),z6 (by omega),Int.toNat_natCast,hx,z6 (ho x hm),za,if_pos hf]
    rw[zn e,z19c]
    simp [List.findIdx?_cons,hf]
   ·have e:z7v (z4x s o f i)=z7v (z4x s o f ((i+1:Nat):Int)):=by
     rw[zp3,za,if_pos (by simp;omega),z6 (by omega),Int.toNat_natCast,hx,z6 (ho x hm),za,if_neg hf,z4v a1 hs.len]
    rw[e,ih (i+1) a3 (by omega)]
    congr 2
    simp only[List.findIdx?_cons,hf]
    cases r.findIdx? f with
    | none=>rfl
    | some k=>simp;omega
 rw[z1pm]
 have:=key s 0 rfl (Nat.zero_le _)
 refine Eq.trans this ?_
 unfold z3r
 cases s.findIdx? f<;>simp
def zcz : FnC Un:=fun args=>match args with
 | [x0,x1]=>(dL .val x0).bind fun s=>(dF x1).bind fun f=>some ([f=(zo (z16 f) (z1p f)),zas (z16 f) s],z15u (z3r s (z16 f) (z1p f)),z15v (z3r s (z16 f) (z1p f)))
 | _=>none
theorem z11m : FnOK 209 zcz:=by
 intro args ob rs os h hob
 unfold zcz at h
 split at h
 ·simp only[Option.bind_eq_some_iff,Option.some.injEq,Prod.mk.injEq] at h
  obtain⟨s,e0,f,e1,rfl,rfl,rfl⟩:=h
  obtain rfl:=z1i e0
  obtain rfl:=zki e1
  have hfv0:=hob _ (List.mem_of_getElem? (i:=0) rfl)
  generalize z1p f=pp0 at *
  generalize z16 f=qq0 at *
  subst hfv0
  exact⟨zd (M:=zcx) rfl (zf (l1:=[]) (l2:=[]) (l3:=[]) (l4:=[]) (l5:=[]) trivial trivial trivial trivial trivial) Tryz.func209 (by kernel_rfl) zcy 0 [.d] (fun hwf=>(z1gq s qq0 pp0 (ze hwf (a:=.d (.v (.dat (U:=Un) Ty.val s))) (List.mem_of_getElem? (i:=0) rfl)) (hob _ (List.mem_of_getElem? (i:=1) rfl)))),zb Tryz.func209 (by kernel_rfl) (by kernel_rfl)⟩
 ·simp at h
def zst : Mc Un:=mach (tbl [(209,zcz)]) (tbl []) (tbl []) (tbl []) (tbl [])
def z15w (r:Bool) : List (A Un):=[.c (.s (.bool r))]
def z15x (_r:Bool) : List (Ob Un):=[]
def z15y (r:Bool) : RF Un:=(z15w r,z15x r)
def z15z : Nat→NS:=fun l=>(look l []).getD ⟨[],[],[],[],[],false⟩
def z11n (s:List Val) (f_o:Val→Prop) (f:Val→Bool) : Option (RF Un):=awf zst z15z (z8 Tryz.f199) (zg Tryz.f199.ntmps 0 [.d (.v (.dat (U:=Un) Ty.val s)),.fn (zo f_o f)]) (retF zst Tryz.f199.results.toList [.d])
theorem z1pn (s:List Val) (f_o:Val→Prop) (f:Val→Bool) : z11n s f_o f=obO (zo f_o f=zo (z16 (zo f_o f)) (z1p (zo f_o f))) (obO (zas (z16 (zo f_o f)) s) (some (z15y (decide (z3r s (z16 (zo f_o f)) (z1p (zo f_o f))≥0))))):=by kernel_rfl
def zhq (s:List Val) (_o:Val→Prop) (f:Val→Bool) : Bool:=s.any f
theorem z1gr (s:List Val) (o:Val→Prop) (f:Val→Bool) (_hs:WL .val s) (ho:zas o s) : z11n s o f=some (z15y (zhq s o f)):=by
 rw[z1pn]
 simp only[zh3,zh2]
 rw[z6 trivial,z6 ho]
 unfold zhq
 congr 2
 have:=z19d s o f
 cases h : s.any f with
 | true=>simp;exact this.2 h
 | false =>
  have : ¬ 0≤z3r s o f:=fun e=>by rw[this.1 e] at h;simp at h
  simpa using this
def zku : FnC Un:=fun args=>match args with
 | [x0,x1]=>(dL .val x0).bind fun s=>(dF x1).bind fun f=>some ([f=(zo (z16 f) (z1p f)),zas (z16 f) s],z15w (zhq s (z16 f) (z1p f)),z15x (zhq s (z16 f) (z1p f)))
 | _=>none
theorem z1po : FnOK 199 zku:=by
 intro args ob rs os h hob
 unfold zku at h
 split at h
 ·simp only[Option.bind_eq_some_iff,Option.some.injEq,Prod.mk.injEq] at h
  obtain⟨s,e0,f,e1,rfl,rfl,rfl⟩:=h
  obtain rfl:=z1i e0
  obtain rfl:=zki e1
  have hfv0:=hob _ (List.mem_of_getElem? (i:=0) rfl)
  generalize z1p f=pp0 at *
  generalize z16 f=qq0 at *
  subst hfv0
  exact⟨zd (M:=zst) rfl (zf (l1:=[(209,zcz)]) (l2:=[]) (l3:=[]) (l4:=[]) (l5:=[]) ⟨z11m,trivial⟩ trivial trivial trivial trivial) Tryz.func199 (by kernel_rfl) z15z 0 [.d] (fun hwf=>(z1gr s qq0 pp0 (ze hwf (a:=.d (.v (.dat (U:=Un) Ty.val s))) (List.mem_of_getElem? (i:=0) rfl)) (hob _ (List.mem_of_getElem? (i:=1) rfl)))),zb Tryz.func199 (by kernel_rfl) (by kernel_rfl)⟩
 ·simp at h
end
end Go.Proofs.YtjfpbchdcbhfgaaGreat.B
namespace Go.Proofs.YtjfpbchdcbhfgaaGreat.B
open Go Go.RowKit
set_option maxRecDepth 100000
noncomputable section
attribute [local irreducible] awp ctxK z12 z1o retQ z2i awf ctxF zt
def zp4 : Mc Un:=mach (tbl []) (tbl []) (tbl []) (tbl []) (tbl [])
def zp5 (r:Val) : List (A Un):=[.agg (encC Ty.val r)]
def zp6 (_r:Val) : List (Ob Un):=[]
def zp7 (r:Val) : RF Un:=(zp5 r,zp6 r)
def z11o : Nat→NS:=fun l=>(look l []).getD ⟨[],[],[],[],[],false⟩
def zyf (b:Bool) : Option (RF Un):=awf zp4 z11o (z8 Tryz.f39) (zg Tryz.f39.ntmps 0 [.d (.v (cb b))]) (retF zp4 Tryz.f39.results.toList [.d])
theorem z1m3 (b:Bool) : zyf b=cndO (b) (some (zp7 ({ kind:=(1:Int),n:=(1:Int),s:=(ByteArray.mk #[]) }))) (some (zp7 ({ kind:=(1:Int),n:=(0:Int),s:=(ByteArray.mk #[]) }))):=by kernel_rfl
def z2z (b:Bool) : Val :=
  if (b)=true then
   ({ kind:=(1:Int),n:=(1:Int),s:=(ByteArray.mk #[]) })
  else
   ({ kind:=(1:Int),n:=(0:Int),s:=(ByteArray.mk #[]) })
theorem z1m4 (b:Bool) : zyf b=some (zp7 (z2z b)):=by rw[z1m3];unfold z2z;simp only[za];repeat (first | rfl | split)
def z7w : FnC Un:=fun args=>match args with
 | [x0]=>(dB x0).bind fun b=>some ([],zp5 (z2z b),zp6 (z2z b))
 | _=>none
theorem zmm : FnOK 39 z7w:=by
 intro args ob rs os h hob
 unfold z7w at h
 split at h
 ·simp only[Option.bind_eq_some_iff,Option.some.injEq,Prod.mk.injEq] at h
  obtain⟨b,e0,rfl,rfl,rfl⟩:=h
  obtain rfl:=z1nd e0
  exact⟨zd (M:=zp4) rfl (zf (l1:=[]) (l2:=[]) (l3:=[]) (l4:=[]) (l5:=[]) trivial trivial trivial trivial trivial) Tryz.func39 (by kernel_rfl) z11o 0 [.d] (fun hwf=>(z1m4 b)),zb Tryz.func39 (by kernel_rfl) (by kernel_rfl)⟩
 ·simp at h
def z27 (b:Bool) : Val:=⟨1,if b=true then 1 else 0,⟨#[]⟩⟩
@[simp] theorem zqu (b:Bool) : z2z b=z27 b:=by unfold z2z z27;cases b<;>rfl
end
end Go.Proofs.YtjfpbchdcbhfgaaGreat.B
namespace Go.Proofs.YtjfpbchdcbhfgaaGreat.B
open Go Go.RowKit
set_option maxRecDepth 1000000
def twoN (op a b:Int) : Int×Bool:=if op=5 then zo6 a b else if op=6 then zct a b else if op=7 then zo7 a b else if op=8 then zo8 a b else zo9 a b
def twoF (op:Int) : FV Un:=fun args=>match args with
 | [x0,x1]=>(dI .i64 (.d x0)).bind fun a=>(dI .i64 (.d x1)).bind fun b=>some ([],[.v (.s (.int .i64 (twoN op a b).1)),.v (.s (.bool (twoN op a b).2))])
 | _=>none
def zix : FnC Un:=fun args=>match args with
 | [x0]=>(dI .i64 x0).bind fun op=>some ([5≤op∧op≤9],[.c (.fv (twoF op))],[])
 | _=>none
def soB (op c:Int) : Bool:=if op=11 then decide (c=0) else if op=12 then decide (c=-1∨c=1) else if op=13 then decide (c=-1) else if op=14 then decide (c=-1∨c=0) else if op=15 then decide (c=1) else decide (c=0∨c=1)
def cmpO (op:Int) (a b:Val) : Val:=if (cmpV a b).2=true then z27 (soB op (cmpV a b).1) else z7
def z70 : FnC Un:=fun args=>match args with
 | [x0,x1,x2]=>(dI .i64 x0).bind fun op=>(dS .val x1).bind fun a=>(dS .val x2).bind fun b=>some ([11≤op∧op≤16],[.agg (encC Ty.val (cmpO op a b))],[])
 | _=>none
def zng (f b:Int) (c:UInt8) : UInt8:=if (c.toNat:Int)≥f∧(c.toNat:Int)<IntKind.u8.wrap (f+26) then UInt8.ofNat (IntKind.u8.wrap (IntKind.i64.wrap ((c.toNat:Int)+b))).toNat else c
def ziy (s:ByteArray) (f b:Int) : ByteArray:=⟨(s.toList.map (zng f b)).toArray⟩
theorem zx9 (s:ByteArray) (f b:Int) : (ziy s f b).size=s.size:=by
 unfold ziy
 show (s.toList.map (zng f b)).toArray.size=s.size
 rw[List.size_toArray,List.length_map,z38]
def zdi : FnC Un:=fun args=>match args with
 | [x0,x1,x2]=>(dStr x0).bind fun s=>(dI .u8 x1).bind fun f=>(dI .i64 x2).bind fun b=>some ([s.size≤2000000],[.c (.s (.string (ziy s f b)))],[])
 | _=>none
theorem z23h {f:FuncId} {φ:FV Un} (h:FvOK f φ) {St:Nat→Nat→Prop} {w:World} : FunRel Tryz.prog En St w (.func (.func f) #[] #[]) φ:=by
 refine⟨f,#[],rfl,h.1,fun St' w' hk hb hld args ob rs hφ hob vs hvs=>?_⟩
 have hc:=h.2 args ob rs hφ hob w' St' vs hb (All2.map_right D.d (fun _ _ h=>h) hvs) hld
 rw[Array.append_empty];exact hc
theorem updM {mt et:TypeId} (hm:Tryz.prog.underlying mt=some (.map 3 et)) (w:World) (es:Array MapEntry) (c:Nat) (k:Int) (v:Value) (hn:Instr.findNow (.int .i64) (.int .i64 k) es.toList 0=some none) :
  (Instr.mapUpdate mt (.map (some w.heap.size)) (.int .i64 k) v).run Tryz.prog (w.alloc (.map es c))=.ok () (w.alloc (.map (es.push { key:=.int .i64 k,val:=v,born:=c }) (c+1))):=by
 have hd:Tryz.prog.underlying 3=some (.int .i64):=by kernel_rfl
 have hb:(w.alloc (.map es c)).heap[w.heap.size]? = some (.map es c):=by unfold World.alloc;simp
 have hk:MapKept.IsKey (.int .i64) (.int .i64 k):=by simp [MapKept.IsKey]
 simp [Instr.mapUpdate,run_underlying hm,MapKept.run_getObj_map hb,MapKept.run_checkKey hd hk,MapKept.run_findKey hd hn,MapKept.run_setObj_map _ hb,Result.andThen]
 unfold World.alloc
 simp only
 congr 1
 apply Array.ext'
 simp [Array.toList_setIfInBounds]
theorem z25a {mt et:TypeId} (hm:Tryz.prog.underlying mt=some (.map 3 et)) (w:World) (es:Array MapEntry) (c:Nat) (k:Int) (i:Nat) (v:Value) (hn:Instr.findNow (.int .i64) (.int .i64 k) es.toList 0=some (some (i,v))) :
  (Instr.lookup mt (.map (some w.heap.size)) (.int .i64 k) false).run Tryz.prog (w.alloc (.map es c))=.ok v (w.alloc (.map es c)):=by
 have hd:Tryz.prog.underlying 3=some (.int .i64):=by kernel_rfl
 have hb:(w.alloc (.map es c)).heap[w.heap.size]? = some (.map es c):=by unfold World.alloc;simp
 have hk:MapKept.IsKey (.int .i64) (.int .i64 k):=by simp [MapKept.IsKey]
 simp [Instr.lookup,run_underlying hm,MapKept.run_getObj_map hb,MapKept.run_checkKey hd hk,MapKept.run_findKey hd hn,Result.andThen]
def twoE : List MapEntry:=[⟨.int .i64 5,.func (.func 202) #[] #[],0⟩,⟨.int .i64 6,.func (.func 201) #[] #[],1⟩,⟨.int .i64 7,.func (.func 203) #[] #[],2⟩,⟨.int .i64 8,.func (.func 204) #[] #[],3⟩,⟨.int .i64 9,.func (.func 205) #[] #[],4⟩]
theorem z21n (op:Int) (i:Nat) (v:Value) (hn:Instr.findNow (.int .i64) (.int .i64 op) twoE 0=some (some (i,v))) (w:World) : Calls Tryz.prog 162 #[.int .i64 op] w fun e w'=>e=.returned v∧Ext w w':=by
 have mixed:Tryz.prog.follows .mixedOrders=true:=by kernel_rfl
 have hmm:=@run_makeMap Tryz.prog
 have hm:Tryz.prog.underlying 192=some (.map 3 102):=by kernel_rfl
 have u1:=updM hm w #[] 0 5 (.func (.func 202) #[] #[]) rfl
 have u2:=updM hm w #[⟨.int .i64 5,.func (.func 202) #[] #[],0⟩] 1 6 (.func (.func 201) #[] #[]) rfl
 have u3:=updM hm w #[⟨.int .i64 5,.func (.func 202) #[] #[],0⟩,⟨.int .i64 6,.func (.func 201) #[] #[],1⟩] 2 7 (.func (.func 203) #[] #[]) rfl
 have u4:=updM hm w #[⟨.int .i64 5,.func (.func 202) #[] #[],0⟩,⟨.int .i64 6,.func (.func 201) #[] #[],1⟩,⟨.int .i64 7,.func (.func 203) #[] #[],2⟩] 3 8 (.func (.func 204) #[] #[]) rfl
 have u5:=updM hm w #[⟨.int .i64 5,.func (.func 202) #[] #[],0⟩,⟨.int .i64 6,.func (.func 201) #[] #[],1⟩,⟨.int .i64 7,.func (.func 203) #[] #[],2⟩,⟨.int .i64 8,.func (.func 204) #[] #[],3⟩] 4 9 (.func (.func 205) #[] #[]) rfl
 have lk:=z25a hm w #[⟨.int .i64 5,.func (.func 202) #[] #[],0⟩,⟨.int .i64 6,.func (.func 201) #[] #[],1⟩,⟨.int .i64 7,.func (.func 203) #[] #[],2⟩,⟨.int .i64 8,.func (.func 204) #[] #[],3⟩,⟨.int .i64 9,.func (.func 205) #[] #[],4⟩] 5 op i v hn
 go_enter Tryz.func162,Tryz.ntmps162
 go_wp2
 go_ret
 exact⟨rfl,(Ext.refl w).alloc _⟩
theorem zp8 {f:FuncId} {F:FnC Un} (g:Int→Int→Int×Bool) (op:Int) (hg:∀ a b,twoN op a b=g a b) (hb:z3q Tryz.prog f) (hok:FnOK f F)
  (hF:∀ a b,F [.d (.v (.s (.int .i64 a))),.d (.v (.s (.int .i64 b)))]=some ([],[.c (.s (.int .i64 (g a b).1)),.c (.s (.bool (g a b).2))],[])) : FvOK f (twoF op):=by
 refine⟨hb,fun args ob rs h hob=>?_⟩
 unfold twoF at h
 split at h
 ·simp only[Option.bind_eq_some_iff,Option.some.injEq,Prod.mk.injEq] at h
  obtain⟨a,e0,b,e1,rfl,rfl⟩:=h
  simp only[List.map_cons,List.map_nil]
  rw[z1t e0,z1t e1,hg]
  exact Contract.data (hok _ [] _ _ (hF a b) (by simp)).1
 ·simp at h
theorem z1m5 : FnOK 162 zix:=by
 have k5:FvOK 202 (twoF 5):=zp8 zo6 5 (fun _ _=>rfl) (zb Tryz.func202 (by kernel_rfl) (by kernel_rfl)) z1vt (fun a b=>rfl)
 have k6:FvOK 201 (twoF 6):=zp8 zct 6 (fun _ _=>rfl) (zb Tryz.func201 (by kernel_rfl) (by kernel_rfl)) z1bt (fun a b=>rfl)
 have k7:FvOK 203 (twoF 7):=zp8 zo7 7 (fun _ _=>rfl) (zb Tryz.func203 (by kernel_rfl) (by kernel_rfl)) z1vz (fun a b=>rfl)
 have k8:FvOK 204 (twoF 8):=zp8 zo8 8 (fun _ _=>rfl) (zb Tryz.func204 (by kernel_rfl) (by kernel_rfl)) z1w1 (fun a b=>rfl)
 have k9:FvOK 205 (twoF 9):=zp8 zo9 9 (fun _ _=>rfl) (zb Tryz.func205 (by kernel_rfl) (by kernel_rfl)) z1w3 (fun a b=>rfl)
 intro args ob rs os h hob
 unfold zix at h
 split at h
 ·rename_i x0
  simp only[Option.bind_eq_some_iff,Option.some.injEq,Prod.mk.injEq] at h
  obtain⟨op,e0,rfl,rfl,rfl⟩:=h
  obtain rfl:=z1t e0
  refine⟨?_,zb Tryz.func162 (by kernel_rfl) (by kernel_rfl)⟩
  have hr:=hob _ (List.mem_singleton.2 rfl)
  have fin:∀ (f:FuncId) (i:Nat),FvOK f (twoF op)→Instr.findNow (.int .i64) (.int .i64 op) twoE 0=some (some (i,.func (.func f) #[] #[]))→Contract Tryz.prog En 162 [.d (.v (.s (.int .i64 op)))] [.c (.fv (twoF op))] []:=by
   intro f i hk hn w St vs hbd hvs hld
   match vs,hvs with
   | [v0],⟨h0,_⟩ =>
    obtain⟨rfl,-⟩:=zot h0
    refine (z21n op i _ hn w).mono ?_
    rintro e w' ⟨rfl,hx⟩
    let gg : G:={ β:=fun _=>0,lb:=fun _=>False,ω:=fun _ _=>none,tk:=fun _=>(none,0) }
    exact⟨_,rfl,hx,gg,fun _ h=>h,fun b o x _ h=>by simp [gg] at h,fun b o x h=>by simp [gg] at h,z23h hk,fun k o h=>by simp at h⟩
  have hc:op=5∨op=6∨op=7∨op=8∨op=9:=by omega
  rcases hc with rfl | rfl | rfl | rfl | rfl
  ·exact fin _ 0 k5 rfl
  ·exact fin _ 1 k6 rfl
  ·exact fin _ 2 k7 rfl
  ·exact fin _ 3 k8 rfl
  ·exact fin _ 4 k9 rfl
 ·simp at h
end Go.Proofs.YtjfpbchdcbhfgaaGreat.B
