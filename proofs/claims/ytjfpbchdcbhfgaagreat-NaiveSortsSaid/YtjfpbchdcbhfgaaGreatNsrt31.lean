/- Part 31 of the proof: Sref15v. -/
import Derived.Test.YtjfpbchdcbhfgaaGreatNsrt30
namespace Go.Proofs.YtjfpbchdcbhfgaaGreat.B
open Go Go.RowKit
set_option maxRecDepth 100000
noncomputable section
attribute [local irreducible] awp ctxK z12 z1o retQ z2i awf ctxF zt
theorem zhd {α β:Type} {L:S Un→Option (EX Un)} {st:Int→S Un} {C:Exit→S Un→Option β} (R:Bool→Option β) {l:List α} {d:α} {e:Exit} (q:α→Bool) (hl:l.length≤9223372036854775807)
  (step:∀ (i:Nat) (x:α),(i:Int)<(l.length:Int)→l.getD i d=x→x∈l→L (st i)=if q x=true then L (st (IntKind.i64.wrap ((i:Int)+1))) else some (.ret,st i))
  (stop:L (st (l.length:Int))=some (e,st (l.length:Int))) (r1:∀ i : Int,C .ret (st i)=R false) (r2:∀ i : Int,C e (st i)=R true) : (L (st 0)).bind (zx C)=R (l.all q):=by
 have key:∀ (r:List α) (i:Nat),l.drop i=r→i≤l.length→(L (st i)).bind (zx C)=R (r.all q):=by
  intro r
  induction r with
  | nil =>
   intro i hr hi
   have : l.length≤i:=List.drop_eq_nil_iff.1 hr
   have e:i=l.length:=by omega
   rw[e,stop]
   exact r2 _
  | cons x r ih =>
   intro i hr hi
   have hlt:i<l.length:=by
    rcases Nat.lt_or_ge i l.length with h | h
    ·exact h
    ·rw[List.drop_eq_nil_of_le h] at hr;simp at hr
   have hx:l.getD i d=x:=by
    have:=List.getElem?_drop (xs:=l) (i:=i) (j:=0)
    rw[hr,Nat.add_zero] at this
    rw[List.getD_eq_getElem?_getD,← this];rfl
   have hm:x∈l:=by rw[← hx,List.getD_eq_getElem?_getD,List.getElem?_eq_getElem hlt];exact List.getElem_mem _
   have hr2:l.drop (i+1)=r:=by rw[← List.tail_drop,hr];rfl
   rw[step i x (by omega) hx hm,List.all_cons]
   cases hq : q x
   ·rw[if_neg (by decide)]
    exact r1 _
   ·rw[if_pos rfl,z2n (by omega),Bool.true_and]
    exact ih (i+1) hr2 (by omega)
 exact key l 0 rfl (Nat.zero_le _)
def z29 (env:List Int) (n:Nat) : Prop:=env.length+n≤8000000
def ztk : Mc Un:=mach (tbl []) (tbl []) (tbl []) (tbl []) (tbl [])
def z17l (r:Int×Int×Bool) : List (A Un):=[.c (.s (.int .i64 r.1)),.c (.s (.int .i64 r.2.1)),.c (.s (.bool r.2.2))]
def z17m (_r:Int×Int×Bool) : List (Ob Un):=[]
def z8y (r:Int×Int×Bool) : RF Un:=(z17l r,z17m r)
def z17n : Nat→NS:=fun l=>(look l []).getD ⟨[],[],[],[],[],true⟩
def z13p (name:ByteArray) : Option (RF Un):=awf ztk z17n (z8 Tryz.f104) (zg Tryz.f104.ntmps 0 [.d (.v (cs name))]) (retF ztk Tryz.f104.results.toList [.d,.d,.d])
theorem z1rh (name:ByteArray) : z13p name=cndO (name.toList == (ByteArray.mk #[108,101,110,103,116,104]).toList) (some (z8y ((1:Int),(1:Int),true))) (cndO (name.toList == (ByteArray.mk #[108,111,119,101,114]).toList) (some (z8y ((1:Int),(1:Int),true))) (cndO (name.toList == (ByteArray.mk #[117,112,112,101,114]).toList) (some (z8y ((1:Int),(1:Int),true))) (cndO (name.toList == (ByteArray.mk #[97,98,115]).toList) (some (z8y ((1:Int),(1:Int),true))) (cndO (name.toList == (ByteArray.mk #[110,117,108,108,105,102]).toList) (some (z8y ((2:Int),(2:Int),true))) (cndO (name.toList == (ByteArray.mk #[99,111,97,108,101,115,99,101]).toList) (some (z8y ((1:Int),(1099511627776:Int),true))) (some (z8y ((0:Int),(0:Int),false)))))))):=by kernel_rfl
def zc6 (name:ByteArray) : Int×Int×Bool :=
  if (name.toList == (ByteArray.mk #[(108:UInt8),(101:UInt8),(110:UInt8),(103:UInt8),(116:UInt8),(104:UInt8)]).toList)=true then
   ((1:Int),(1:Int),true)
  else
   if (name.toList == (ByteArray.mk #[(108:UInt8),(111:UInt8),(119:UInt8),(101:UInt8),(114:UInt8)]).toList)=true then
    ((1:Int),(1:Int),true)
   else
    if (name.toList == (ByteArray.mk #[(117:UInt8),(112:UInt8),(112:UInt8),(101:UInt8),(114:UInt8)]).toList)=true then
     ((1:Int),(1:Int),true)
    else
     if (name.toList == (ByteArray.mk #[(97:UInt8),(98:UInt8),(115:UInt8)]).toList)=true then
      ((1:Int),(1:Int),true)
     else
      if (name.toList == (ByteArray.mk #[(110:UInt8),(117:UInt8),(108:UInt8),(108:UInt8),(105:UInt8),(102:UInt8)]).toList)=true then
       ((2:Int),(2:Int),true)
      else
       if (name.toList == (ByteArray.mk #[(99:UInt8),(111:UInt8),(97:UInt8),(108:UInt8),(101:UInt8),(115:UInt8),(99:UInt8),(101:UInt8)]).toList)=true then
        ((1:Int),(1099511627776:Int),true)
       else
        ((0:Int),(0:Int),false)
theorem z1ri (name:ByteArray) : z13p name=some (z8y (zc6 name)):=by rw[z1rh];unfold zc6;simp only[za];repeat (first | rfl | split)
def zla : FnC Un:=fun args=>match args with
 | [x0]=>(dStr x0).bind fun name=>some ([],z17l (zc6 name),z17m (zc6 name))
 | _=>none
theorem z1rj : FnOK 104 zla:=by
 intro args ob rs os h hob
 unfold zla at h
 split at h
 ·simp only[Option.bind_eq_some_iff,Option.some.injEq,Prod.mk.injEq] at h
  obtain⟨name,e0,rfl,rfl,rfl⟩:=h
  obtain rfl:=z57 e0
  exact⟨zd (M:=ztk) rfl (zf (l1:=[]) (l2:=[]) (l3:=[]) (l4:=[]) (l5:=[]) trivial trivial trivial trivial trivial) Tryz.func104 (by kernel_rfl) z17n 0 [.d,.d,.d] (fun hwf=>(z1ri name)),zb Tryz.func104 (by kernel_rfl) (by kernel_rfl)⟩
 ·simp at h
def z1af : Mc Un:=mach (tbl [(104,zla)]) (tbl []) (tbl []) (tbl []) (tbl [])
def z1rk (r:Int×Int×Bool) : List (A Un):=[.c (.s (.int .i64 r.1)),.c (.s (.int .i64 r.2.1)),.c (.s (.bool r.2.2))]
def z1rl (_r:Int×Int×Bool) : List (Ob Un):=[]
def z2g (r:Int×Int×Bool) : RF Un:=(z1rk r,z1rl r)
def z1rm : Nat→NS:=fun l=>(look l []).getD ⟨[],[],[],[],[],true⟩
def z1le (t:Term) : Option (RF Un):=awf z1af z1rm (z8 Tryz.f56) (zg Tryz.f56.ntmps 0 [.d (.agg (enc Ty.term t))]) (retF z1af Tryz.f56.results.toList [.d,.d,.d])
theorem z208 (t:Term) : z1le t=cndO (t.op == 1) (some (z2g ((0:Int),(0:Int),true))) (cndO (t.op == 2) (some (z2g ((0:Int),(0:Int),true))) (cndO (t.op == 26) (some (z2g ((0:Int),(0:Int),true))) (cndO (t.op == 27) (some (z2g ((0:Int),(0:Int),true))) (cndO (t.op == 3) (some (z2g ((1:Int),(1:Int),true))) (cndO (t.op == 4) (some (z2g ((1:Int),(1:Int),true))) (cndO (t.op == 19) (some (z2g ((1:Int),(1:Int),true))) (cndO (t.op == 28) (some (z2g ((1:Int),(1:Int),true))) (cndO (t.op == 5) (some (z2g ((2:Int),(2:Int),true))) (cndO (t.op == 6) (some (z2g ((2:Int),(2:Int),true))) (cndO (t.op == 7) (some (z2g ((2:Int),(2:Int),true))) (cndO (t.op == 8) (some (z2g ((2:Int),(2:Int),true))) (cndO (t.op == 9) (some (z2g ((2:Int),(2:Int),true))) (cndO (t.op == 10) (some (z2g ((2:Int),(2:Int),true))) (cndO (t.op == 11) (some (z2g ((2:Int),(2:Int),true))) (cndO (t.op == 12) (some (z2g ((2:Int),(2:Int),true))) (cndO (t.op == 13) (some (z2g ((2:Int),(2:Int),true))) (cndO (t.op == 14) (some (z2g ((2:Int),(2:Int),true))) (cndO (t.op == 15) (some (z2g ((2:Int),(2:Int),true))) (cndO (t.op == 16) (some (z2g ((2:Int),(2:Int),true))) (cndO (t.op == 17) (some (z2g ((2:Int),(2:Int),true))) (cndO (t.op == 18) (some (z2g ((2:Int),(2:Int),true))) (cndO (t.op == 20) (some (z2g ((2:Int),(2:Int),true))) (cndO (t.op == 22) (some (z2g ((3:Int),(3:Int),true))) (cndO (t.op == 21) (some (z2g ((2:Int),(1099511627776:Int),true))) (cndO (t.op == 23) (some (z2g ((2:Int),(1099511627776:Int),true))) (cndO (t.op == 24) (some (z2g ((zc6 t.name).fst,(zc6 t.name).snd.fst,(zc6 t.name).snd.snd))) (some (z2g ((0:Int),(0:Int),false))))))))))))))))))))))))))))):=by kernel_rfl
def zee (t:Term) : Int×Int×Bool :=
 if t.op=1∨t.op=2∨t.op=26∨t.op=27 then (0,0,true)
 else if t.op=3∨t.op=4∨t.op=19∨t.op=28 then (1,1,true)
 else if t.op=5∨t.op=6∨t.op=7∨t.op=8∨t.op=9∨t.op=10∨t.op=11∨t.op=12∨t.op=13∨t.op=14∨t.op=15∨t.op=16∨t.op=17∨t.op=18∨t.op=20 then (2,2,true)
 else if t.op=22 then (3,3,true)
 else if t.op=21∨t.op=23 then (2,1099511627776,true)
 else if t.op=24 then zc6 t.name
 else (0,0,false)
theorem z1th (t:Term) (_ht:WS .term t) : z1le t=some (z2g (zee t)):=by
 rw[z208]
 unfold zee
 simp only[zhu]
 simp only[za,Bool.or_eq_true,beq_iff_eq]
 by_cases h1 : t.op=1∨t.op=2∨t.op=26∨t.op=27
 ·rw[if_pos (by omega),if_pos h1]
 rw[if_neg (by omega),if_neg h1]
 by_cases h2 : t.op=3∨t.op=4∨t.op=19∨t.op=28
 ·rw[if_pos (by omega),if_pos h2]
 rw[if_neg (by omega),if_neg h2]
 by_cases h3 : t.op=5∨t.op=6∨t.op=7∨t.op=8∨t.op=9∨t.op=10∨t.op=11∨t.op=12∨t.op=13∨t.op=14∨t.op=15∨t.op=16∨t.op=17∨t.op=18∨t.op=20
 ·rw[if_pos (by omega),if_pos h3]
 rw[if_neg (by omega),if_neg h3]
 by_cases h4 : t.op=22
 ·rw[if_pos h4,if_pos h4]
 rw[if_neg h4,if_neg h4]
 by_cases h5 : t.op=21∨t.op=23
 ·rw[if_pos (by omega),if_pos h5]
 rw[if_neg (by omega),if_neg h5]
 by_cases h6 : t.op=24
 ·rw[if_pos h6,if_pos h6]
 rw[if_neg h6,if_neg h6]
def zxv : FnC Un:=fun args=>match args with
 | [x0]=>(dS .term x0).bind fun t=>some ([],z1rk (zee t),z1rl (zee t))
 | _=>none
theorem z209 : FnOK 56 zxv:=by
 intro args ob rs os h hob
 unfold zxv at h
 split at h
 ·simp only[Option.bind_eq_some_iff,Option.some.injEq,Prod.mk.injEq] at h
  obtain⟨t,e0,rfl,rfl,rfl⟩:=h
  obtain rfl:=z18 e0
  exact⟨zd (M:=z1af) rfl (zf (l1:=[(104,zla)]) (l2:=[]) (l3:=[]) (l4:=[]) (l5:=[]) ⟨z1rj,trivial⟩ trivial trivial trivial trivial) Tryz.func56 (by kernel_rfl) z1rm 0 [.d,.d,.d] (fun hwf=>(z1th t (ze hwf (a:=.d (.agg (enc Ty.term t))) (List.mem_of_getElem? (i:=0) rfl)))),zb Tryz.func56 (by kernel_rfl) (by kernel_rfl)⟩
 ·simp at h
def zxw : Mc Un:=mach (tbl []) (tbl []) (tbl []) (tbl []) (tbl [])
def z1ew (r:Int) : List (A Un):=[.c (.s (.int .i64 r))]
def z1ex (_r:Int) : List (Ob Un):=[]
def zjj (r:Int) : RF Un:=(z1ew r,z1ex r)
def z1ey : Nat→NS:=fun l=>(look l []).getD ⟨[],[],[],[],[],true⟩
def z17o (t:Term) : Option (RF Un):=awf zxw z1ey (z8 Tryz.f57) (zg Tryz.f57.ntmps 0 [.d (.agg (enc Ty.term t))]) (retF zxw Tryz.f57.results.toList [.d])
theorem z1ti (t:Term) : z17o t=cndO (t.op == 26) (some (zjj ((1:Int)))) (cndO (t.op == 27) (some (zjj ((1:Int)))) (cndO (t.op == 28) (some (zjj ((1:Int)))) (some (zjj ((0:Int)))))):=by kernel_rfl
def zhe (t:Term) : Int:=if t.op=26∨t.op=27∨t.op=28 then 1 else 0
theorem z1n1 (t:Term) (_ht:WS .term t) : z17o t=some (zjj (zhe t)):=by
 rw[z1ti]
 unfold zhe
 simp only[zhu]
 simp only[za,Bool.or_eq_true,beq_iff_eq]
 by_cases h1 : t.op=26∨t.op=27∨t.op=28
 ·rw[if_pos (by omega),if_pos h1]
 rw[if_neg (by omega),if_neg h1]
def znu : FnC Un:=fun args=>match args with
 | [x0]=>(dS .term x0).bind fun t=>some ([],z1ew (zhe t),z1ex (zhe t))
 | _=>none
theorem z1tj : FnOK 57 znu:=by
 intro args ob rs os h hob
 unfold znu at h
 split at h
 ·simp only[Option.bind_eq_some_iff,Option.some.injEq,Prod.mk.injEq] at h
  obtain⟨t,e0,rfl,rfl,rfl⟩:=h
  obtain rfl:=z18 e0
  exact⟨zd (M:=zxw) rfl (zf (l1:=[]) (l2:=[]) (l3:=[]) (l4:=[]) (l5:=[]) trivial trivial trivial trivial trivial) Tryz.func57 (by kernel_rfl) z1ey 0 [.d] (fun hwf=>(z1n1 t (ze hwf (a:=.d (.agg (enc Ty.term t))) (List.mem_of_getElem? (i:=0) rfl)))),zb Tryz.func57 (by kernel_rfl) (by kernel_rfl)⟩
 ·simp at h
def z13q : Mc Un:=mach (tbl [(38,zcu)]) (tbl []) (tbl []) (tbl []) (tbl [])
def z1lf (r:Bool) : List (A Un):=[.c (.s (.bool r))]
def z1lg (_r:Bool) : List (Ob Un):=[]
def zaw (r:Bool) : RF Un:=(z1lf r,z1lg r)
def z1lh : Nat→NS:=fun l=>(look l []).getD ⟨[],[],[],[],[],true⟩
def z1ez (t:Term) (env:List Int) : Option (RF Un):=awf z13q z1lh (z8 Tryz.f58) (zg Tryz.f58.ntmps 0 [.d (.agg (enc Ty.term t)),.d (.v (.dat (U:=Un) Ty.int env))]) (retF z13q Tryz.f58.results.toList [.d])
theorem z1x7 (t:Term) (env:List Int) : z1ez t env=cndO (decide (t.type<0)) (some (zaw (false))) (cndO (decide (t.type > 3)) (some (zaw (false))) (cndO (t.op == 1) (some (zaw (zc3 t.v))) (cndO (t.op == 2) (cndO (decide (t.depth≥0)) (cndO (decide (t.depth<(↑env.length:Int))) (cndO (decide (t.at_≥0)) (obO (0≤t.depth∧t.depth<(↑env.length:Int)) (some (zaw (decide (t.at_<env.getD t.depth.toNat (0:Int)))))) (some (zaw (false)))) (some (zaw (false)))) (some (zaw (false)))) (some (zaw (true)))))):=by kernel_rfl
def zkc (t:Term) (env:List Int) : Bool:=decide (0≤t.type∧t.type≤3) && (if t.op=1 then zak t.v else if t.op=2 then decide (0≤t.depth∧t.depth<(env.length:Int)∧0≤t.at_∧t.at_<env.getD t.depth.toNat 0) else true)
theorem z1rn (t:Term) (env:List Int) (_ht:WS .term t) (_he:WL .int env) : z1ez t env=some (zaw (zkc t env)):=by
 rw[z1x7]
 unfold zkc
 simp only[za,beq_iff_eq,decide_eq_true_eq,z11c]
 by_cases h0 : t.type<0
 ·rw[if_pos h0,decide_eq_false (by omega)];rfl
 by_cases h3 : t.type > 3
 ·rw[if_neg h0,if_pos h3,decide_eq_false (by omega)];rfl
 rw[if_neg h0,if_neg h3,decide_eq_true (show 0≤t.type∧t.type≤3 by omega),Bool.true_and]
 by_cases h1 : t.op=1
 ·rw[if_pos h1,if_pos h1]
 rw[if_neg h1,if_neg h1]
 by_cases h2 : t.op=2
 ·rw[if_pos h2,if_pos h2]
  by_cases d1 : t.depth≥0
  ·rw[if_pos d1]
   by_cases d2 : t.depth<(env.length:Int)
   ·rw[if_pos d2]
    by_cases d3 : t.at_≥0
    ·rw[if_pos d3,z6 ⟨d1,d2⟩]
     congr 2
     by_cases d4 : t.at_<env.getD t.depth.toNat 0
     ·rw[decide_eq_true d4,decide_eq_true ⟨d1,d2,d3,d4⟩]
     ·rw[decide_eq_false d4,decide_eq_false (fun e=>d4 e.2.2.2)]
    ·rw[if_neg d3,decide_eq_false (fun e=>d3 e.2.2.1)]
   ·rw[if_neg d2,decide_eq_false (fun e=>d2 e.2.1)]
  ·rw[if_neg d1,decide_eq_false (fun e=>d1 e.1)]
 ·rw[if_neg h2,if_neg h2]
def zs9 : FnC Un:=fun args=>match args with
 | [x0,x1]=>(dS .term x0).bind fun t=>(dL .int x1).bind fun env=>some ([],z1lf (zkc t env),z1lg (zkc t env))
 | _=>none
theorem z1x8 : FnOK 58 zs9:=by
 intro args ob rs os h hob
 unfold zs9 at h
 split at h
 ·simp only[Option.bind_eq_some_iff,Option.some.injEq,Prod.mk.injEq] at h
  obtain⟨t,e0,env,e1,rfl,rfl,rfl⟩:=h
  obtain rfl:=z18 e0
  obtain rfl:=z1i e1
  exact⟨zd (M:=z13q) rfl (zf (l1:=[(38,zcu)]) (l2:=[]) (l3:=[]) (l4:=[]) (l5:=[]) ⟨z11d,trivial⟩ trivial trivial trivial trivial) Tryz.func58 (by kernel_rfl) z1lh 0 [.d] (fun hwf=>(z1rn t env (ze hwf (a:=.d (.agg (enc Ty.term t))) (List.mem_of_getElem? (i:=0) rfl)) (ze hwf (a:=.d (.v (.dat (U:=Un) Ty.int env))) (List.mem_of_getElem? (i:=1) rfl)))),zb Tryz.func58 (by kernel_rfl) (by kernel_rfl)⟩
 ·simp at h
def z1ag : Mc Un:=mach (tbl [(19,z6j)]) (tbl []) (tbl []) (tbl []) (tbl [])
def z1ro (r:List Int) : List (A Un):=[.c (.sl (U:=Un) Ty.int r false)]
def z1rp (_r:List Int) : List (Ob Un):=[]
def zpz (r:List Int) : RF Un:=(z1ro r,z1rp r)
def z1rq : Nat→NS:=fun l=>(look l []).getD ⟨[],[],[],[],[],true⟩
def z1li (r:Rel) (env:List Int) : Option (RF Un):=awf z1ag z1rq (z8 Tryz.f112) (zg Tryz.f112.ntmps 0 [.d (.agg (enc Ty.rel r)),.d (.v (.dat (U:=Un) Ty.int env))]) (retF z1ag Tryz.f112.results.toList [.d])
def zsa (r:Rel) (env:List Int) : Option (RF Un):=obO (([z2r (Rel.ids (r.kids.getD 0 zi))].length+env.length)*(8:Nat)≤zw) (some (zpz (z2r (Rel.ids (r.kids.getD 0 zi))::env)))
def z13r (r:Rel) (env:List Int) : Option (RF Un):=cndO (decide ((↑r.kids.length:Int) > (1:Int))) (obO ((0:Int)≤(1:Int)∧(1:Int)<(↑r.kids.length:Int)) (obO (([IntKind.i64.wrap (z2r (Rel.ids (r.kids.getD 0 zi))+z2r (Rel.ids (r.kids.getD 1 zi)))].length+env.length)*(8:Nat)≤zw) (some (zpz (IntKind.i64.wrap (z2r (Rel.ids (r.kids.getD 0 zi))+z2r (Rel.ids (r.kids.getD 1 zi)))::env))))) (zsa r env)
def zsb (env:List Int) : Option (RF Un):=obO (([(0:Int)].length+env.length)*(8:Nat)≤zw) (some (zpz ((0:Int)::env)))
def z13s (r:Rel) (env:List Int) : Option (RF Un):=cndO (decide ((↑r.kids.length:Int) > (1:Int))) (obO ((0:Int)≤(1:Int)∧(1:Int)<(↑r.kids.length:Int)) (obO (([IntKind.i64.wrap ((0:Int)+z2r (Rel.ids (r.kids.getD 1 zi)))].length+env.length)*(8:Nat)≤zw) (some (zpz (IntKind.i64.wrap ((0:Int)+z2r (Rel.ids (r.kids.getD 1 zi)))::env))))) (zsb env)
theorem z20a (r:Rel) (env:List Int) : z1li r env=cndO (decide ((↑r.kids.length:Int) > (0:Int))) (obO ((0:Int)≤(0:Int)∧(0:Int)<(↑r.kids.length:Int)) (cndO (r.op == 5) (z13r r env) (cndO (r.op == 6) (z13r r env) (zsa r env)))) (cndO (r.op == 5) (z13s r env) (cndO (r.op == 6) (z13s r env) (zsb env))):=by kernel_rfl
def z1x9 (r:Rel) : Int:=if r.kids.length > 0 then z45 (r.kids.getD 0 zi) else 0
def zci (r:Rel) : Int:=if (r.op=5∨r.op=6)∧r.kids.length > 1 then IntKind.i64.wrap (z1x9 r+z45 (r.kids.getD 1 zi)) else z1x9 r
def z9m (r:Rel) (env:List Int) : List Int:=zci r::env
theorem z1tk (r:Rel) (env:List Int) (_hr:WS .rel r) (_he:WL .int env) (h:z29 env 1) : z1li r env=some (zpz (z9m r env)):=by
 unfold z29 at h
 rw[z20a]
 unfold zsa z13r zsb z13s zsb zsa
 simp only[zhu,Rel.ids_eq,z9l]
 simp only[za,Bool.or_eq_true,beq_iff_eq,decide_eq_true_eq]
 unfold z9m zci z1x9
 by_cases h0 : r.kids.length > 0
 ·rw[if_pos (by omega),if_pos h0,z6 (by omega)]
  by_cases h5 : r.op=5∨r.op=6
  ·rw[if_pos h5]
   by_cases h1 : r.kids.length > 1
   ·rw[if_pos (by omega),if_pos ⟨h5,h1⟩,z6 (by omega),z6 (by unfold zw;rw[List.length_singleton];omega)]
   ·rw[if_neg (by omega),if_neg (fun e=>h1 e.2),z6 (by unfold zw;rw[List.length_singleton];omega)]
  ·rw[if_neg h5,if_neg (fun e=>h5 e.1),z6 (by unfold zw;rw[List.length_singleton];omega)]
 ·rw[if_neg (by omega),if_neg h0,if_neg (show ¬ ((r.op=5∨r.op=6)∧r.kids.length > 1) from fun e=>by omega)]
  split
  ·rw[if_neg (by omega),z6 (by unfold zw;rw[List.length_singleton];omega)]
  ·rw[z6 (by unfold zw;rw[List.length_singleton];omega)]
def zxx : FnC Un:=fun args=>match args with
 | [x0,x1]=>(dS .rel x0).bind fun r=>(dL .int x1).bind fun env=>some ([z29 env 1],z1ro (z9m r env),z1rp (z9m r env))
 | _=>none
theorem z20b : FnOK 112 zxx:=by
 intro args ob rs os h hob
 unfold zxx at h
 split at h
 ·simp only[Option.bind_eq_some_iff,Option.some.injEq,Prod.mk.injEq] at h
  obtain⟨r,e0,env,e1,rfl,rfl,rfl⟩:=h
  obtain rfl:=z18 e0
  obtain rfl:=z1i e1
  exact⟨zd (M:=z1ag) rfl (zf (l1:=[(19,z6j)]) (l2:=[]) (l3:=[]) (l4:=[]) (l5:=[]) ⟨zji,trivial⟩ trivial trivial trivial trivial) Tryz.func112 (by kernel_rfl) z1rq 0 [.d] (fun hwf=>(z1tk r env (ze hwf (a:=.d (.agg (enc Ty.rel r))) (List.mem_of_getElem? (i:=0) rfl)) (ze hwf (a:=.d (.v (.dat (U:=Un) Ty.int env))) (List.mem_of_getElem? (i:=1) rfl)) (hob _ (List.mem_of_getElem? (i:=0) rfl)))),zb Tryz.func112 (by kernel_rfl) (by kernel_rfl)⟩
 ·simp at h
def zbv : Mc Un:=mach (tbl [(38,zcu)]) (tbl []) (tbl []) (tbl []) (tbl [])
def z13t (r:Bool) : List (A Un):=[.c (.s (.bool r))]
def z13u (_r:Bool) : List (Ob Un):=[]
def zjk (r:Bool) : RF Un:=(z13t r,z13u r)
def zbw : Nat→NS:=fun l=>(look l [(2,{ ts:=bl 16 13,bs:=bl 16 0,nm:=[],cs:=true })]).getD ⟨[],[],[],[],[],true⟩
def z78 (r:List Val) (v0:Int) : S Un:=(st 16 16 64 0 [(0,al .val r),(2,ab false),(3,ai v0)] [] [])
noncomputable def zzv : Code:=sub (z8 Tryz.f35) [1,0,1,2,2]
def zh0 : S Un→Option (EX Un):=zt (zbw 2) (fun s Q=>awf zbv zbw zzv s Q)
def zn0 : Exit→S Un→Option (RF Un):=ctxF zbv zbw (z8 Tryz.f35) [1,0,1,2] (retF zbv Tryz.f35.results.toList [.d])
def zzw (r:List Val) : Option (RF Un):=awf zbv zbw (z8 Tryz.f35) (zg Tryz.f35.ntmps 0 [.d (.v (.dat (U:=Un) Ty.val r))]) (retF zbv Tryz.f35.results.toList [.d])
theorem z1n2 (r:List Val) : zzw r=(zh0 (z78 r (0:Int))).bind (zx zn0):=by kernel_rfl
theorem zzx (r:List Val) (v0:Int) : zh0 (z78 r v0)=cndO (decide (v0<(↑r.length:Int))) (obO (0≤v0∧v0<(↑r.length:Int)) (cndO (!zc3 (r.getD v0.toNat z7)) (some (.ret,(z78 r v0))) (zh0 (z78 r (IntKind.i64.wrap (v0+1)))))) (some (.exit 0,(z78 r v0))):=(z11 (zbw 2) zzv _).trans (by kernel_rfl)
theorem z156 (r:List Val) (v0:Int) : zn0 .ret (z78 r v0)=some (zjk (false)):=by kernel_rfl
theorem z1ah (r:List Val) (v0:Int) : zn0 (.exit 0) (z78 r v0)=some (zjk (true)):=by kernel_rfl
def zcj (r:List Val) : Bool:=r.all zak
theorem z1f0 (r:List Val) (hr:WL .val r) : zzw r=some (zjk (zcj r)):=by
 rw[z1n2]
 exact zhd (L:=zh0) (st:=fun i=>z78 r i) (fun b=>some (zjk b)) (d:=z7) zak hr.len
  (fun i x hi hx _=>by
   rw[zzx]
   simp only[za,hi,decide_true,if_true,and_true,Int.toNat_natCast,hx,z11c]
   rw[z6 (by omega)]
   cases zak x<;>rfl)
  (by rw[zzx];simp [za]) (fun i=>z156 _ _) (fun i=>z1ah _ _)
def zjl : FnC Un:=fun args=>match args with
 | [x0]=>(dL .val x0).bind fun r=>some ([],z13t (zcj r),z13u (zcj r))
 | _=>none
theorem z1n3 : FnOK 35 zjl:=by
 intro args ob rs os h hob
 unfold zjl at h
 split at h
 ·simp only[Option.bind_eq_some_iff,Option.some.injEq,Prod.mk.injEq] at h
  obtain⟨r,e0,rfl,rfl,rfl⟩:=h
  obtain rfl:=z1i e0
  exact⟨zd (M:=zbv) rfl (zf (l1:=[(38,zcu)]) (l2:=[]) (l3:=[]) (l4:=[]) (l5:=[]) ⟨z11d,trivial⟩ trivial trivial trivial trivial) Tryz.func35 (by kernel_rfl) zbw 0 [.d] (fun hwf=>(z1f0 r (ze hwf (a:=.d (.v (.dat (U:=Un) Ty.val r))) (List.mem_of_getElem? (i:=0) rfl)))),zb Tryz.func35 (by kernel_rfl) (by kernel_rfl)⟩
 ·simp at h
def zfe : Mc Un:=mach (tbl [(35,zjl)]) (tbl []) (tbl []) (tbl []) (tbl [])
def z1f1 (r:Bool) : List (A Un):=[.c (.s (.bool r))]
def z1f2 (_r:Bool) : List (Ob Un):=[]
def znv (r:Bool) : RF Un:=(z1f1 r,z1f2 r)
def zff : Nat→NS:=fun l=>(look l [(2,{ ts:=bl 27 51,bs:=bl 27 0,nm:=[],cs:=true })]).getD ⟨[],[],[],[],[],true⟩
def z7s (l:List (List Val)) (n:Int) (v0:Int) : S Un:=(st 27 27 108 0 [(0,al .row l),(1,ai n),(4,ab false),(5,ai v0)] [] [])
noncomputable def z17p : Code:=sub (z8 Tryz.f113) [1,0,1,2,2]
def zlb : S Un→Option (EX Un):=zt (zff 2) (fun s Q=>awf zfe zff z17p s Q)
def ztl : Exit→S Un→Option (RF Un):=ctxF zfe zff (z8 Tryz.f113) [1,0,1,2] (retF zfe Tryz.f113.results.toList [.d])
def z17q (l:List (List Val)) (n:Int) : Option (RF Un):=awf zfe zff (z8 Tryz.f113) (zg Tryz.f113.ntmps 0 [.d (.v (.dat (U:=Un) Ty.row l)),.d (.v (.s (.int .i64 n)))]) (retF zfe Tryz.f113.results.toList [.d])
theorem z1tl (l:List (List Val)) (n:Int) : z17q l n=(zlb (z7s l n (0:Int))).bind (zx ztl):=by kernel_rfl
theorem z17r (l:List (List Val)) (n:Int) (v0:Int) : zlb (z7s l n v0)=cndO (decide (v0<(↑l.length:Int))) (obO (0≤v0∧v0<(↑l.length:Int)) (cndO ((↑(List.length (l.getD v0.toNat [])):Int) != n) (some (.ret,(z7s l n v0))) (obO (0≤v0∧v0<(↑l.length:Int)) (cndO (!zcj (l.getD v0.toNat [])) (some (.ret,(z7s l n v0))) (zlb (z7s l n (IntKind.i64.wrap (v0+1)))))))) (some (.exit 0,(z7s l n v0))):=(z11 (zff 2) z17p _).trans (by kernel_rfl)
theorem z1f3 (l:List (List Val)) (n:Int) (v0:Int) : ztl .ret (z7s l n v0)=some (znv (false)):=by kernel_rfl
theorem z1i8 (l:List (List Val)) (n:Int) (v0:Int) : ztl (.exit 0) (z7s l n v0)=some (znv (true)):=by kernel_rfl
def zkd (l:List (List Val)) (n:Int) : Bool:=l.all fun x=>decide ((x.length:Int)=n) && zcj x
theorem z1n4 (l:List (List Val)) (n:Int) (hl:WL .row l) (_hn:WI n) : z17q l n=some (znv (zkd l n)):=by
 rw[z1tl]
 exact zhd (L:=zlb) (st:=fun i=>z7s l n i) (fun b=>some (znv b)) (d:=[]) (fun x=>decide ((x.length:Int)=n) && zcj x) hl.len
  (fun i x hi hx _=>by
   rw[z17r]
   simp only[za,hi,decide_true,if_true,and_true,Int.toNat_natCast,hx]
   rw[z6 (by omega),z6 (by omega)]
   by_cases h : (x.length:Int)=n
   ·rw[if_neg (by simpa using h),decide_eq_true h,Bool.true_and]
    cases zcj x<;>rfl
   ·rw[if_pos (by simpa using h),decide_eq_false h,Bool.false_and,if_neg (by decide)])
  (by rw[z17r];simp [za]) (fun i=>z1f3 _ _ _) (fun i=>z1i8 _ _ _)
def znw : FnC Un:=fun args=>match args with
 | [x0,x1]=>(dL .row x0).bind fun l=>(dI .i64 x1).bind fun n=>some ([],z1f1 (zkd l n),z1f2 (zkd l n))
 | _=>none
theorem z1tm : FnOK 113 znw:=by
 intro args ob rs os h hob
 unfold znw at h
 split at h
 ·simp only[Option.bind_eq_some_iff,Option.some.injEq,Prod.mk.injEq] at h
  obtain⟨l,e0,n,e1,rfl,rfl,rfl⟩:=h
  obtain rfl:=z1i e0
  obtain rfl:=z1t e1
  exact⟨zd (M:=zfe) rfl (zf (l1:=[(35,zjl)]) (l2:=[]) (l3:=[]) (l4:=[]) (l5:=[]) ⟨z1n3,trivial⟩ trivial trivial trivial trivial) Tryz.func113 (by kernel_rfl) zff 0 [.d] (fun hwf=>(z1n4 l n (ze hwf (a:=.d (.v (.dat (U:=Un) Ty.row l))) (List.mem_of_getElem? (i:=0) rfl)) (ze hwf (a:=.d (.v (.s (.int .i64 n)))) (List.mem_of_getElem? (i:=1) rfl)))),zb Tryz.func113 (by kernel_rfl) (by kernel_rfl)⟩
 ·simp at h
def zfg : Mc Un:=mach (tbl []) (tbl []) (tbl []) (tbl []) (tbl [])
def z1f4 (r:Bool) : List (A Un):=[.c (.s (.bool r))]
def z1f5 (_r:Bool) : List (Ob Un):=[]
def znx (r:Bool) : RF Un:=(z1f4 r,z1f5 r)
def zfh : Nat→NS:=fun l=>(look l [(2,{ ts:=bl 27 51,bs:=bl 27 0,nm:=[],cs:=true })]).getD ⟨[],[],[],[],[],true⟩
def z7t (l:List By) (n:Int) (v0:Int) : S Un:=(st 27 27 108 0 [(0,al .by_ l),(1,ai n),(4,ab false),(5,ai v0)] [] [])
noncomputable def z17s : Code:=sub (z8 Tryz.f116) [1,0,1,2,2]
def zlc : S Un→Option (EX Un):=zt (zfh 2) (fun s Q=>awf zfg zfh z17s s Q)
def ztm : Exit→S Un→Option (RF Un):=ctxF zfg zfh (z8 Tryz.f116) [1,0,1,2] (retF zfg Tryz.f116.results.toList [.d])
def z17t (l:List By) (n:Int) : Option (RF Un):=awf zfg zfh (z8 Tryz.f116) (zg Tryz.f116.ntmps 0 [.d (.v (.dat (U:=Un) Ty.by_ l)),.d (.v (.s (.int .i64 n)))]) (retF zfg Tryz.f116.results.toList [.d])
theorem z1tn (l:List By) (n:Int) : z17t l n=(zlc (z7t l n (0:Int))).bind (zx ztm):=by kernel_rfl
theorem z17u (l:List By) (n:Int) (v0:Int) : zlc (z7t l n v0)=cndO (decide (v0<(↑l.length:Int))) (obO (0≤v0∧v0<(↑l.length:Int)) (cndO (decide ((l.getD v0.toNat z6n).at_<0)) (some (.ret,(z7t l n v0))) (obO (0≤v0∧v0<(↑l.length:Int)) (cndO (decide ((l.getD v0.toNat z6n).at_≥n)) (some (.ret,(z7t l n v0))) (zlc (z7t l n (IntKind.i64.wrap (v0+1)))))))) (some (.exit 0,(z7t l n v0))):=(z11 (zfh 2) z17s _).trans (by kernel_rfl)
theorem z1f6 (l:List By) (n:Int) (v0:Int) : ztm .ret (z7t l n v0)=some (znx (false)):=by kernel_rfl
theorem z1i9 (l:List By) (n:Int) (v0:Int) : ztm (.exit 0) (z7t l n v0)=some (znx (true)):=by kernel_rfl
def zke (l:List By) (n:Int) : Bool:=l.all fun k=>decide (0≤k.at_∧k.at_<n)
theorem z1n5 (l:List By) (n:Int) (hl:WL .by_ l) (_hn:WI n) : z17t l n=some (znx (zke l n)):=by
 rw[z1tn]
 exact zhd (L:=zlc) (st:=fun i=>z7t l n i) (fun b=>some (znx b)) (d:=z6n) (fun k=>decide (0≤k.at_∧k.at_<n)) hl.len
  (fun i x hi hx _=>by
   rw[z17u]
   simp only[za,hi,decide_true,if_true,and_true,Int.toNat_natCast,hx,decide_eq_true_eq]
   rw[z6 (by omega),z6 (by omega)]
   by_cases h : x.at_<0
   ·rw[if_pos h,if_neg (by omega)]
   ·rw[if_neg h]
    by_cases h2 : x.at_≥n
    ·rw[if_pos h2,if_neg (by omega)]
    ·rw[if_neg h2,if_pos (by omega)])
  (by rw[z17u];simp [za]) (fun i=>z1f6 _ _ _) (fun i=>z1i9 _ _ _)
def zny : FnC Un:=fun args=>match args with
 | [x0,x1]=>(dL .by_ x0).bind fun l=>(dI .i64 x1).bind fun n=>some ([],z1f4 (zke l n),z1f5 (zke l n))
 | _=>none
theorem z1to : FnOK 116 zny:=by
 intro args ob rs os h hob
 unfold zny at h
 split at h
 ·simp only[Option.bind_eq_some_iff,Option.some.injEq,Prod.mk.injEq] at h
  obtain⟨l,e0,n,e1,rfl,rfl,rfl⟩:=h
  obtain rfl:=z1i e0
  obtain rfl:=z1t e1
  exact⟨zd (M:=zfg) rfl (zf (l1:=[]) (l2:=[]) (l3:=[]) (l4:=[]) (l5:=[]) trivial trivial trivial trivial trivial) Tryz.func116 (by kernel_rfl) zfh 0 [.d] (fun hwf=>(z1n5 l n (ze hwf (a:=.d (.v (.dat (U:=Un) Ty.by_ l))) (List.mem_of_getElem? (i:=0) rfl)) (ze hwf (a:=.d (.v (.s (.int .i64 n)))) (List.mem_of_getElem? (i:=1) rfl)))),zb Tryz.func116 (by kernel_rfl) (by kernel_rfl)⟩
 ·simp at h
end
end Go.Proofs.YtjfpbchdcbhfgaaGreat.B
