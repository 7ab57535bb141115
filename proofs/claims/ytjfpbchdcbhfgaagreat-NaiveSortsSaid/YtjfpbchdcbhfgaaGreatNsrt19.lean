/- Part 19 of the proof: Stermsz Sevalg Sscal3 Saggspec. -/
import Derived.Test.YtjfpbchdcbhfgaaGreatNsrt18
namespace Go.Proofs.YtjfpbchdcbhfgaaGreat.B
open Go Go.RowKit
set_option maxRecDepth 100000
noncomputable section
attribute [local irreducible] awp ctxK z12 z1o retQ z2i awf ctxF zt
mutual
def Term.sz : Term→Nat
 | .mk _ _ _ _ _ kids sub _=>szTs kids+szRs sub+1
def szTs : List Term→Nat
 | []=>0
 | t::r=>t.sz+szTs r
def Agg.sz : Agg→Nat
 | .mk _ _ t=>szTs t+1
def szAs : List Agg→Nat
 | []=>0
 | t::r=>t.sz+szAs r
def Rel.sz : Rel→Nat
 | .mk _ _ _ kids terms aggs _ _ _ _ rows=>szRs kids+szTs terms+szAs aggs+rows.length+1
def szRs : List Rel→Nat
 | []=>0
 | t::r=>t.sz+szRs r
end
theorem Term.sz_eq (t:Term) : t.sz=szTs t.kids+szRs t.sub+1:=by cases t;simp only[Term.sz,Term.kids_mk,Term.sub_mk]
theorem Agg.sz_eq (a:Agg) : a.sz=szTs a.t+1:=by cases a;simp only[Agg.sz,Agg.t_mk]
theorem Rel.sz_eq (r:Rel) : r.sz=szRs r.kids+szTs r.terms+szAs r.aggs+r.rows.length+1:=by cases r;simp only[Rel.sz,Rel.kids_mk,Rel.terms_mk,Rel.aggs_mk,Rel.rows_mk]
theorem z1pw {t:Term} : ∀ {l:List Term},t∈l→t.sz≤szTs l
 | x::l,h=>by
  simp only[szTs]
  rcases List.mem_cons.1 h with rfl | h
  ·omega
  ·have:=z1pw h;omega
theorem z19l : ∀ l : List Term,l.length≤szTs l
 | []=>Nat.zero_le _
 | x::l=>by have:=z19l l;have h:=x.sz_eq;simp only[szTs,List.length_cons];omega
end
end Go.Proofs.YtjfpbchdcbhfgaaGreat.B
namespace Go.Proofs.YtjfpbchdcbhfgaaGreat.B
open Go Go.RowKit
set_option maxRecDepth 100000
noncomputable section
attribute [local irreducible] awp ctxK z12 z1o retQ z2i awf ctxF zt
def colV (depth at_:Int) (env:List (List Val)) : Val:=if 0≤depth∧depth<(env.length:Int)∧0≤at_∧at_<((env.getD depth.toNat []).length:Int) then (env.getD depth.toNat []).getD at_.toNat z7 else z7
mutual
def zrd (ap:Int→ByteArray→List Val→Val) (env:List (List Val)) : Term→Val
 | .mk op v depth at_ name kids _ _=>if op=1 then v else if op=2 then colV depth at_ env else if op=26∨op=27∨op=28 then z7 else ap op name (zg6 ap env kids)
def zg6 (ap:Int→ByteArray→List Val→Val) (env:List (List Val)) : List Term→List Val
 | []=>[]
 | t::l=>zrd ap env t::zg6 ap env l
end
theorem z19m (ap:Int→ByteArray→List Val→Val) (env:List (List Val)) (t:Term) : zrd ap env t=if t.op=1 then t.v else if t.op=2 then colV t.depth t.at_ env else if t.op=26∨t.op=27∨t.op=28 then z7 else ap t.op t.name (zg6 ap env t.kids):=by cases t;simp only[zrd];rfl
theorem zxb (ap:Int→ByteArray→List Val→Val) (env:List (List Val)) : ∀ l : List Term,zg6 ap env l=l.map (zrd ap env)
 | []=>rfl
 | t::l=>by simp only[zg6,List.map_cons,zxb ap env l]
end
end Go.Proofs.YtjfpbchdcbhfgaaGreat.B
namespace Go.Proofs.YtjfpbchdcbhfgaaGreat.B
open Go Go.RowKit
set_option maxRecDepth 100000
noncomputable section
attribute [local irreducible] awp ctxK z12 z1o retQ z2i awf ctxF zt
def z43 (v:Val) : Prop:=v.s.size≤2000000
mutual
def strT : Term→Prop
 | .mk _ v _ _ _ kids _ _=>v.s.size≤2000000∧zre kids
def zre : List Term→Prop
 | []=>True
 | t::l=>strT t∧zre l
end
theorem z1gw (t:Term) : strT t↔(t.v.s.size≤2000000∧zre t.kids):=by cases t;simp only[strT,Term.v_mk,Term.kids_mk]
theorem strTs_mem : ∀ {l:List Term},zre l↔∀ t∈l,strT t
 | []=>by simp [zre]
 | t::l=>by simp only[zre,List.mem_cons,forall_eq_or_imp,strTs_mem (l:=l)]
def zex (env:List (List Val)) : Prop:=∀ r∈env,∀ v∈r,z43 v
theorem z7k : z43 z7:=Nat.zero_le _
theorem zrf (n:Int) : z43 (zh n):=Nat.zero_le _
theorem z1cx (n:Int) (b:Bool) : z43 (z3y n b):=by
 unfold z3y;split
 ·exact z7k
 ·exact zrf n
theorem z1wq (b:Bool) : z43 (z2z b):=by rw[zqu];exact Nat.zero_le _
theorem z11v (a:Int) : z43 (z5j a):=by
 unfold z5j
 repeat' split
 all_goals exact Nat.zero_le _
theorem z1zg (op:Int) (a b:Val) : z43 (cmpO op a b):=by
 unfold cmpO;split
 ·exact Nat.zero_le _
 ·exact z7k
theorem zxc {l:List Val} (h:∀ x∈l,z43 x) (i:Nat) : z43 (l.getD i z7):=by
 rw[List.getD_eq_getElem?_getD]
 cases e : l[i]? with
 | none=>exact z7k
 | some v=>exact h v (List.mem_of_getElem? e)
theorem z164 : ∀ (l:List Val),(∀ x∈l,z43 x)→z43 (zpa l)
 | [],_=>z7k
 | [x],h=>h x (by simp)
 | c::v::r,h=>by
  simp only[zpa]
  split
  ·exact h v (by simp)
  ·exact z164 r fun x hx=>h x (by simp [hx])
theorem z1zh {c:Prop} [Decidable c] {a b:Val} (ha:c→z43 a) (hb:¬ c→z43 b) : z43 (if c then a else b):=by split<;>simp_all
theorem z1px (name:ByteArray) {l:List Val} (h:∀ x∈l,z43 x) : z43 (z74 name l):=by
 have g:=zxc h
 have gt:∀ (x:Val) f b,z43 x→z43 (z7x (ziy x.s f b)):=fun x f b hx=>by
  show (ziy x.s f b).size≤2000000
  rw[zx9];exact hx
 unfold z74 z1pu z14a z149
 repeat' split
 all_goals first | exact z7k | exact g _ | exact z1cx _ _ | exact zrf _ | exact gt _ _ _ (g _)
theorem z1t2 (op:Int) (name:ByteArray) {l:List Val} (h:∀ x∈l,z43 x) : z43 (z1x op name l):=by
 have g:=zxc h
 unfold z1x
 split
 ·exact z7k
 unfold z1ct
 repeat' (first | refine z1zh (fun _=>?_) (fun _=>?_) | exact z7k | exact z1cx _ _ | exact z1wq _ | exact z1zg _ _ _ | exact z11v _ | (unfold z6h;exact z11v _) | (unfold zbj;exact z11v _) | exact z164 l h | exact z1px name h)
 all_goals first
  | exact g _
  | (show (ziy _ _ _).size≤2000000;rw[zx9];exact g _)
  | (rename_i hs;show (_++_ : ByteArray).size≤2000000;rw[ByteArray.size_append];omega)
theorem z1zi {env:List (List Val)} (h:zex env) (d a:Int) : z43 (colV d a env):=by
 unfold colV
 split
 ·rename_i hc
  have hm:env.getD d.toNat []∈env:=by
   rw[List.getD_eq_getElem?_getD,List.getElem?_eq_getElem (by omega)];exact List.getElem_mem _
  exact zxc (h _ hm) _
 ·exact z7k
mutual
theorem z1wr {env:List (List Val)} (h:zex env) : ∀ t : Term,strT t→z43 (zrd z1x env t)
 | .mk op v depth at_ name kids _ _,ht=>by
  simp only[strT] at ht
  simp only[zrd]
  split
  ·exact ht.1
  ·split
   ·exact z1zi h _ _
   ·split
    ·exact z7k
    ·exact z1t2 _ _ (zsv h kids ht.2)
theorem zsv {env:List (List Val)} (h:zex env) : ∀ l : List Term,zre l→∀ x∈zg6 z1x env l,z43 x
 | [],_=>by simp [zg6]
 | t::l,ht=>by
  simp only[zre] at ht
  simp only[zg6,List.mem_cons,forall_eq_or_imp]
  exact⟨z1wr h t ht.1,zsv h l ht.2⟩
end
def z3d (t:Term) (env:List (List Val)) : Val:=zrd z1x env t
def zmq (r:Val) : List (A Un):=[.agg (encC Ty.val r)]
def zmr (_r:Val) : List (Ob Un):=[]
def z59 (m:Nat) : FnC Un:=fun args=>match args with
 | [x0,x1]=>(dS .term x0).bind fun t=>(dL .row x1).bind fun env=>some ([t.ht<m,t.sz≤2000000,strT t,zex env],zmq (z3d t env),zmr (z3d t env))
 | _=>none
def za0 (m:Nat) : Mc Un:=mach (tbl [(117,z59 m),(120,z94)]) (tbl []) (tbl []) (tbl []) (tbl [])
def z3t (r:Val) : RF Un:=(zmq r,zmr r)
def za1 : Nat→NS:=fun l=>(look l [(14,{ ts:=bl 81 32281802128991715382,bs:=bl 81 20,nm:=[(.sl 5,324)],cs:=true })]).getD ⟨[],[],[],[],[],true⟩
def z6s (t:Term) (env:List (List Val)) (v0:Int) (v1:List Val) : S Un:=(st 81 81 325 0 [(1,al .row env),(2,ax 2),(4,ax 4),(5,ao 324),(62,al .term t.kids),(63,ai (↑t.kids.length:Int)),(64,ai v0)] [(2,bg .term t),(4,bg .val z7)] [(324,some ⟨(0:Nat),Ty.val,v1,some (0:Nat),true⟩)])
noncomputable def zrg : Code:=sub (z8 Tryz.f117) [1,1,1,0,1,2,2]
def zat (m:Nat) : S Un→Option (EX Un):=zt (za1 14) (fun s Q=>awf (za0 m) za1 zrg s Q)
def zj1 (m:Nat) : Exit→S Un→Option (RF Un):=ctxF (za0 m) za1 (z8 Tryz.f117) [1,1,1,0,1,2] (retF (za0 m) Tryz.f117.results.toList [.d])
def zuz (m:Nat) (t:Term) (env:List (List Val)) : Option (RF Un):=awf (za0 m) za1 (z8 Tryz.f117) (zg Tryz.f117.ntmps 1 [.d (.agg (enc Ty.term t)),.d (.v (.dat (U:=Un) Ty.row env))]) (retF (za0 m) Tryz.f117.results.toList [.d])
theorem z1gx (m:Nat) (t:Term) (env:List (List Val)) : zuz m t env=cndO (t.op == 1) (some (z3t (t.v))) (cndO (t.op == 2) (cndO (decide (t.depth≥0)) (cndO (decide (t.depth<(↑env.length:Int))) (cndO (decide (t.at_≥0)) (obO (0≤t.depth∧t.depth<(↑env.length:Int)) (cndO (decide (t.at_<(↑(List.length (env.getD t.depth.toNat [])):Int))) (obO (0≤t.depth∧t.depth<(↑env.length:Int)) (obO (0≤t.at_∧t.at_<(↑(List.length (env.getD t.depth.toNat [])):Int)) (some (z3t (List.getD (env.getD t.depth.toNat []) t.at_.toNat z7))))) (some (z3t (z7))))) (some (z3t (z7)))) (some (z3t (z7)))) (some (z3t (z7)))) (cndO (t.op == 26) (some (z3t (z7))) (cndO (t.op == 27) (some (z3t (z7))) (cndO (t.op == 28) (some (z3t (z7))) (obO ((0:Int)≤(0:Int)∧(0:Int)≤(↑t.kids.length:Int)∧(↑t.kids.length:Int).toNat*(32:Nat)≤zw) ((zat m (z6s t env (0:Int) ([]))).bind (zx (zj1 m)))))))):=by kernel_rfl
theorem zrh (m:Nat) (t:Term) (env:List (List Val)) (v0:Int) (v1:List Val) : zat m (z6s t env v0 v1)=cndO (decide (v0<(↑t.kids.length:Int))) (obO (0≤v0∧v0<(↑t.kids.length:Int)) (obO ((Term.ids (t.kids.getD v0.toNat z1h)).ht<m) (obO ((Term.ids (t.kids.getD v0.toNat z1h)).sz≤(2000000:Nat)) (obO (strT (Term.ids (t.kids.getD v0.toNat z1h))) (obO (zex env) (obO ((v1.length+[(z3d (Term.ids (t.kids.getD v0.toNat z1h)) env)].length)*(32:Nat)≤zw) (zat m (z6s t env (IntKind.i64.wrap (v0+1)) (v1++[(z3d (Term.ids (t.kids.getD v0.toNat z1h)) env)]))))))))) (some (.exit 1,(z6s t env v0 v1))):=(z11 (za1 14) zrg _).trans (by kernel_rfl)
theorem z11w (m:Nat) (t:Term) (env:List (List Val)) (v0:Int) (v1:List Val) : zj1 m (.exit 1) (z6s t env v0 v1)=obO (txts v1) (some (z3t (z1x t.op t.name v1))):=by kernel_rfl
theorem z1zj (m:Nat) (t:Term) (env:List (List Val)) (ht:WS .term t) (hm:t.ht<m+1) (h1:t.sz≤2000000) (h2:strT t) (h3:zex env) :
  (zat m (z6s t env (0:Int) [])).bind (zx (zj1 m))=some (z3t (z1x t.op t.name (zg6 z1x env t.kids))):=by
 have hk:WL .term t.kids:=ht.term_kids
 have hsz:=t.sz_eq
 have hlen:=z19l t.kids
 have hst:=(z1gw t).1 h2
 obtain⟨lp,_⟩:=z42 (e:=.exit 1) (L:=zat m) (st:=fun (o:List Val) i=>z6s t env i o) (l:=t.kids) (d:=z1h) (g:=fun o x=>o++[z3d x env]) (fun i o=>o.length=i) hk.len
  (fun o i x hi hx hI=>by
   have hI':o.length=i:=hI
   have hmem:x∈t.kids:=by rw[← hx,List.getD_eq_getElem?_getD,List.getElem?_eq_getElem (by omega)];exact List.getElem_mem _
   refine⟨by show (o++[_]).length=i+1;rw[List.length_append,List.length_singleton];omega,?_⟩
   have hht:=Term.ht_kid hmem
   have hxs:=z1pw hmem
   rw[zrh]
   simp only[za,hi,decide_true,if_true,and_true,Int.toNat_natCast,hx,Term.ids_eq]
   rw[z6 (by omega),z6 (by omega),z6 (by omega),z6 (strTs_mem.1 hst.2 x hmem),z6 h3,z6 (by unfold zw;rw[List.length_singleton];omega)])
  (fun o _=>by rw[zrh];simp [za]) [] rfl
 rw[ze5,List.nil_append] at lp
 have he:t.kids.map (fun x=>z3d x env)=zg6 z1x env t.kids:=(zxb _ _ _).symm
 rw[he] at lp
 refine (zn lp).trans ?_
 rw[z11w,z6]
 refine⟨by rw[zxb,List.length_map];omega,zsv h3 t.kids hst.2⟩
theorem z19n (m:Nat) (t:Term) (env:List (List Val)) (ht:WS .term t) (_he:WL .row env) (hm:t.ht<m+1) (h1:t.sz≤2000000) (h2:strT t) (h3:zex env) : zuz m t env=some (z3t (z3d t env)):=by
 have hlen:=z19l t.kids
 have hsz:=t.sz_eq
 rw[z1gx,z1zj m t env ht hm h1 h2 h3]
 have e:z3d t env=zrd z1x env t:=rfl
 rw[e,z19m]
 simp only[zhu]
 simp only[za,Bool.or_eq_true,beq_iff_eq,decide_eq_true_eq]
 by_cases c1 : t.op=1
 ·rw[if_pos c1,if_pos c1]
 rw[if_neg c1,if_neg c1]
 by_cases c2 : t.op=2
 ·rw[if_pos c2,if_pos c2]
  unfold colV
  by_cases d1 : t.depth≥0
  ·rw[if_pos d1]
   by_cases d2 : t.depth<(env.length:Int)
   ·rw[if_pos d2]
    by_cases d3 : t.at_≥0
    ·rw[if_pos d3,z6 ⟨d1,d2⟩]
     by_cases d4 : t.at_<((env.getD t.depth.toNat []).length:Int)
     ·rw[if_pos d4,if_pos ⟨d1,d2,d3,d4⟩,z6 ⟨d1,d2⟩,z6 ⟨d3,d4⟩]
     ·rw[if_neg d4,if_neg (fun e=>d4 e.2.2.2)]
    ·rw[if_neg d3,if_neg (fun e=>d3 e.2.2.1)]
   ·rw[if_neg d2,if_neg (fun e=>d2 e.2.1)]
  ·rw[if_neg d1,if_neg (fun e=>d1 e.1)]
 rw[if_neg c2,if_neg c2]
 by_cases c3 : t.op=26∨t.op=27∨t.op=28
 ·rw[if_pos (by omega),if_pos c3]
 ·rw[if_neg (by omega),if_neg c3,z6 (by unfold zw;omega)]
theorem z1cy (m:Nat) (h_scalar_Eval:FnOK 117 (z59 m)) : FnOK 117 (z59 (m+1)):=by
 intro args ob rs os h hob
 unfold z59 at h
 split at h
 ·simp only[Option.bind_eq_some_iff,Option.some.injEq,Prod.mk.injEq] at h
  obtain⟨t,e0,env,e1,rfl,rfl,rfl⟩:=h
  obtain rfl:=z18 e0
  obtain rfl:=z1i e1
  exact⟨zd (M:=(za0 m)) rfl (zf (l1:=[(117,z59 m),(120,z94)]) (l2:=[]) (l3:=[]) (l4:=[]) (l5:=[]) ⟨h_scalar_Eval,zrc,trivial⟩ trivial trivial trivial trivial) Tryz.func117 (by kernel_rfl) za1 1 [.d] (fun hwf=>(z19n m t env (ze hwf (a:=.d (.agg (enc Ty.term t))) (List.mem_of_getElem? (i:=0) rfl)) (ze hwf (a:=.d (.v (.dat (U:=Un) Ty.row env))) (List.mem_of_getElem? (i:=1) rfl)) (hob _ (List.mem_of_getElem? (i:=0) rfl)) (hob _ (List.mem_of_getElem? (i:=1) rfl)) (hob _ (List.mem_of_getElem? (i:=2) rfl)) (hob _ (List.mem_of_getElem? (i:=3) rfl)))),zb Tryz.func117 (by kernel_rfl) (by kernel_rfl)⟩
 ·simp at h
theorem z165 : ∀ m,FnOK 117 (z59 m)
 | 0=>by
  skip
  intro args ob rs os h hob
  unfold z59 at h
  split at h
  ·simp only[Option.bind_eq_some_iff,Option.some.injEq,Prod.mk.injEq] at h
   obtain⟨_,_,_,_,rfl,_,_⟩:=h
   exact absurd (hob _ (List.mem_of_getElem? (i:=0) rfl)) (Nat.not_lt_zero _)
  ·simp at h
 | m+1=>by
  have ih:=z165 m
  exact z1cy m ih
def zgo : FnC Un:=fun args=>match args with
 | [x0,x1]=>(dS .term x0).bind fun t=>(dL .row x1).bind fun env=>some ([t.sz≤2000000,strT t,zex env],zmq (z3d t env),zmr (z3d t env))
 | _=>none
theorem z1gy : FnOK 117 zgo:=by
 intro args ob rs os h hob
 unfold zgo at h
 split at h
 ·simp only[Option.bind_eq_some_iff,Option.some.injEq,Prod.mk.injEq] at h
  obtain⟨t,e0,env,e1,rfl,rfl,rfl⟩:=h
  refine ((z165 (t.ht+1))) _ [t.ht<t.ht+1,t.sz≤2000000,strT t,zex env] _ _ (?_ : z59 (t.ht+1) _=some _) ?_
  ·unfold z59
   simp only[e0,e1,Option.bind_some]
  ·intro p hp
   simp only[List.mem_cons,List.not_mem_nil,or_false] at hp
   rcases hp with rfl | rfl | rfl | rfl
   ·exact Nat.lt_succ_self _
   ·exact hob _ (List.mem_of_getElem? (i:=0) rfl)
   ·exact hob _ (List.mem_of_getElem? (i:=1) rfl)
   ·exact hob _ (List.mem_of_getElem? (i:=2) rfl)
 ·simp at h
end
end Go.Proofs.YtjfpbchdcbhfgaaGreat.B
namespace Go.Proofs.YtjfpbchdcbhfgaaGreat.B
open Go Go.RowKit
set_option maxRecDepth 100000
noncomputable section
attribute [local irreducible] awp ctxK z12 z1o retQ z2i awf ctxF zt
def za2 : ByteArray:=⟨#[99,111,117,110,116]⟩
def nmSum : ByteArray:=⟨#[115,117,109]⟩
def zey : ByteArray:=⟨#[109,105,110]⟩
def zgp : ByteArray:=⟨#[109,97,120]⟩
def zau : ByteArray:=⟨#[114,111,119,115]⟩
def zm3 : ByteArray:=⟨#[]⟩
def numV (n:Int) : Val:=⟨2,n,⟨#[]⟩⟩
open Classical in
def cntV (nm:ByteArray) (v:Val) : Bool:=decide (v.kind≠0) && zak v && (decide (nm≠nmSum) || decide (v.kind=2))
open Classical in
def addU (acc:List Val) (v:Val) : List Val:=if v∈acc then acc else acc++[v]
theorem z1py : (ByteArray.mk #[99,111,117,110,116])=za2:=rfl
theorem z1cz : (ByteArray.mk #[115,117,109])=nmSum:=rfl
theorem z1pz : (ByteArray.mk #[109,105,110])=zey:=rfl
theorem z1q0 : (ByteArray.mk #[109,97,120])=zgp:=rfl
theorem z1gz : (ByteArray.mk #[114,111,119,115])=zau:=rfl
theorem z23i : (ByteArray.mk #[])=zm3:=rfl
theorem zk3 (a b:ByteArray) : (a.toList == b.toList)=true↔a=b:=by rw[beq_iff_eq];exact⟨z1jg,fun h=>by rw[h]⟩
open Classical in
theorem z21q (a b:ByteArray) : (a.toList == b.toList)=decide (a=b):=by
 cases h : (a.toList == b.toList) with
 | true=>exact (decide_eq_true ((zk3 a b).1 h)).symm
 | false=>exact (decide_eq_false (fun e=>by rw[(zk3 a b).2 e] at h;simp at h)).symm
theorem z11x (a b:Int) : cmpI b a=- cmpI a b:=by unfold cmpI;split<;>split<;>(try split)<;>omega
theorem z1kv : ∀ a b : List UInt8,cmpL b a=- cmpL a b
 | [],[]=>rfl
 | [],_::_=>rfl
 | _::_,[]=>rfl
 | a::l,b::r=>by
  simp only[cmpL]
  by_cases h : a=b
  ·subst h;simp only[if_true];exact z1kv l r
  ·rw[if_neg h,if_neg (Ne.symm h)];exact z11x _ _
theorem zhv (a b:Val) : ordV b a=- ordV a b:=by
 unfold ordV
 by_cases h : a.kind=b.kind
 ·rw[if_pos h,if_pos h.symm]
  by_cases h2 : a.n=b.n
  ·rw[if_pos h2,if_pos h2.symm];exact z1kv _ _
  ·rw[if_neg h2,if_neg (Ne.symm h2)];exact z11x _ _
 ·rw[if_neg h,if_neg (Ne.symm h)];exact z11x _ _
theorem zb2 {a b:Int} : cmpI a b<0↔a<b:=by unfold cmpI;split<;>(try split)<;>omega
theorem z1d0 : ∀ {a b c:List UInt8},cmpL a b<0→cmpL b c<0→cmpL a c<0
 | [],[],_,h,_=>by simp [cmpL] at h
 | [],_::_,[],_,h=>by simp [cmpL] at h
 | [],_::_,_::_,_,_=>by simp [cmpL]
 | _::_,[],_,h,_=>by simp [cmpL] at h
 | _::_,_::_,[],_,h=>by simp [cmpL] at h
 | a::l,b::r,c::t,h1,h2=>by
  simp only[cmpL] at h1 h2 ⊢
  by_cases e1 : a=b
  ·subst e1
   by_cases e2 : a=c
   ·subst e2;simp only[if_true] at h1 h2 ⊢;exact z1d0 h1 h2
   ·rw[if_neg e2] at h2 ⊢;exact h2
  ·rw[if_neg e1] at h1
   by_cases e2 : b=c
   ·subst e2;rw[if_neg e1];exact h1
   ·rw[if_neg e2] at h2
    rw[zb2] at h1 h2
    have : a≠c:=by rintro rfl;omega
    rw[if_neg this,zb2];omega
theorem zj2 {a b c:Val} (h1:ordV a b<0) (h2:ordV b c<0) : ordV a c<0:=by
 unfold ordV at h1 h2 ⊢
 by_cases k1 : a.kind=b.kind
 ·rw[if_pos k1] at h1
  by_cases k2 : b.kind=c.kind
  ·rw[if_pos k2] at h2
   rw[if_pos (k1.trans k2)]
   by_cases n1 : a.n=b.n
   ·rw[if_pos n1] at h1
    by_cases n2 : b.n=c.n
    ·rw[if_pos n2] at h2;rw[if_pos (n1.trans n2)];exact z1d0 h1 h2
    ·rw[if_neg n2] at h2;rw[if_neg (by rw[n1];exact n2),n1];exact h2
   ·rw[if_neg n1,zb2] at h1
    by_cases n2 : b.n=c.n
    ·rw[if_neg (by rw[← n2];exact n1),← n2,zb2];exact h1
    ·rw[if_neg n2,zb2] at h2;rw[if_neg (by omega),zb2];omega
  ·rw[if_neg k2] at h2;rw[if_neg (by rw[k1];exact k2),k1];exact h2
 ·rw[if_neg k1,zb2] at h1
  by_cases k2 : b.kind=c.kind
  ·rw[if_neg (by rw[← k2];exact k1),← k2,zb2];exact h1
  ·rw[if_neg k2,zb2] at h2;rw[if_neg (by omega),zb2];omega
theorem z1kw (a:Val) : ordV a a=0:=ordV_zero.2 rfl
def bigM : Int:=1000000000000000
open Classical in
def zv0 (a:Agg) : Acc :=
 if a.name=za2 then (if a.t=[] then ⟨zau,false,0,0,0,z7,[]⟩ else ⟨a.name,a.distinct,0,0,0,z7,[]⟩)
 else if a.name=nmSum∨a.name=zey∨a.name=zgp then ⟨a.name,a.distinct,0,0,0,z7,[]⟩
 else ⟨zm3,a.distinct,0,0,0,z7,[]⟩
open Classical in
def zk4 (nm:ByteArray) (v:Val) : Bool:=decide (nm=zau) || cntV nm v
open Classical in
def zbl (x:Acc) (v:Val) : Acc :=
 if x.name=nmSum then ⟨x.name,x.distinct,x.n+1,x.hi+(x.lo+v.n).tdiv bigM,(x.lo+v.n).tmod bigM,x.v,x.l⟩
 else if x.name=zey then ⟨x.name,x.distinct,x.n+1,x.hi,x.lo,if x.n+1=1∨ordV v x.v<0 then v else x.v,x.l⟩
 else if x.name=zgp then ⟨x.name,x.distinct,x.n+1,x.hi,x.lo,if x.n+1=1∨ordV v x.v > 0 then v else x.v,x.l⟩
 else ⟨x.name,x.distinct,x.n+1,x.hi,x.lo,x.v,x.l⟩
def posV (l:List Val) (v:Val) : Nat:=(l.takeWhile fun x=>ordV x v<0).length
open Classical in
def insV (l:List Val) (v:Val) : List Val:=if v∈l then l else l.take (posV l v)++v::l.drop (posV l v)
def zxd (x:Acc) (v:Val) : Acc :=
 if zk4 x.name v=true then (if x.distinct=true then ⟨x.name,x.distinct,x.n,x.hi,x.lo,x.v,insV x.l v⟩ else zbl x v) else x
def z1q1 (x:Acc) : Val:=if x.n=0∨x.hi < -1∨x.hi > 1 then z7 else if inN (x.hi*bigM+x.lo) then numV (x.hi*bigM+x.lo) else z7
open Classical in
def endA (x:Acc) : Val :=
 if x.name=za2∨x.name=zau then numV x.n else if x.name=nmSum then z1q1 x else if x.name=zey∨x.name=zgp then x.v else z7
def z1d1 (x:Acc) : Val:=endA (x.l.foldl zbl x)
def runA (a:Agg) (l:List Val) : Val:=z1d1 (l.foldl zxd (zv0 a))
theorem z1ws {v:Val} (h:zak v=true) (hk:v.kind=2) : -bigM≤v.n∧v.n≤bigM:=by
 unfold zak at h
 rw[hk] at h
 simp [inN] at h
 unfold bigM;omega
theorem z21r {v:Val} (h:cntV nmSum v=true) : -bigM≤v.n∧v.n≤bigM:=by
 unfold cntV at h
 simp only[Bool.and_eq_true,Bool.or_eq_true,decide_eq_true_eq,ne_eq,not_true_eq_false,false_or] at h
 exact z1ws h.1.2 h.2
theorem nm_ne : za2≠nmSum∧za2≠zey∧za2≠zgp∧za2≠zau∧nmSum≠zey∧nmSum≠zgp∧nmSum≠zau∧zey≠zgp∧zey≠zau∧zgp≠zau∧zm3≠za2∧zm3≠nmSum∧zm3≠zey∧zm3≠zgp∧zm3≠zau:=by
 simp [za2,nmSum,zey,zgp,zau,zm3]
theorem z166 {n:Int} : n.tdiv bigM*bigM+n.tmod bigM=n:=by rw[Int.mul_comm];exact Int.mul_tdiv_add_tmod n bigM
theorem z19o (n:Int) : -bigM<n.tmod bigM∧n.tmod bigM<bigM:=by
 have hb:(0:Int)<bigM:=by decide
 refine⟨?_,Int.tmod_lt_of_pos n hb⟩
 have:=Int.tmod_lt_of_pos (-n) hb
 rw[Int.neg_tmod] at this;omega
theorem z21s {n:Int} (h1:-2*bigM<n) (h2:n<2*bigM) : -1≤n.tdiv bigM∧n.tdiv bigM≤1:=by
 have h:=z166 (n:=n)
 have h3:=z19o n
 unfold bigM at *
 rcases Int.le_total 0 n with h0 | h0
 ·have:=Int.tmod_nonneg (1000000000000000:Int) h0;omega
 ·have:=Int.tmod_nonneg (1000000000000000:Int) (show 0≤-n by omega)
  rw[Int.neg_tmod] at this;omega
theorem z167 (x:Acc) (v:Val) : (zbl x v).l=x.l∧(zbl x v).distinct=x.distinct∧(zbl x v).name=x.name:=by
 unfold zbl;repeat' split
 all_goals exact⟨rfl,rfl,rfl⟩
theorem z1uf (l:List Val) (v:Val) : posV l v≤l.length:=(List.takeWhile_sublist _).length_le
theorem z21t (l:List Val) (v u:Val) : u∈insV l v↔u∈l∨u=v:=by
 unfold insV
 split
 ·rename_i h;constructor
  ·exact .inl
  ·rintro (h1 | rfl);exact h1;exact h
 ·rw[List.mem_append,List.mem_cons]
  have : u∈l↔u∈l.take (posV l v)∨u∈l.drop (posV l v):=by rw[← List.mem_append,List.take_append_drop]
  rw[this]
  constructor
  ·rintro (h | h | h);exact .inl (.inl h);exact .inr h;exact .inl (.inr h)
  ·rintro ((h | h) | h);exact .inl h;exact .inr (.inr h);exact .inr (.inl h)
theorem zyn {p:Val→Bool} : ∀ (l:List Val),∀ u∈l.takeWhile p,p u=true
 | [],u,h=>by simp at h
 | a::l,u,h=>by
  rw[List.takeWhile_cons] at h
  split at h
  ·rename_i hp
   rcases List.mem_cons.1 h with rfl | h
   ·exact hp
   ·exact zyn l u h
  ·simp at h
theorem zv1 {p:Val→Bool} : ∀ (l:List Val) {y:Val} {r:List Val},l.dropWhile p=y::r→p y=false
 | [],y,r,h=>by simp at h
 | a::l,y,r,h=>by
  rw[List.dropWhile_cons] at h
  split at h
  ·exact zv1 l h
  ·rename_i hp
   simp at h
   rw[← h.1];simpa using hp
theorem zxe {l:List Val} {v:Val} : ∀ u∈l.take (posV l v),ordV u v<0:=by
 intro u hu
 have e:l.take (posV l v)=l.takeWhile fun x=>ordV x v<0:=by
  unfold posV
  conv=>lhs;arg 2;rw[← List.takeWhile_append_dropWhile (p:=fun x=>decide (ordV x v<0)) (l:=l)]
  rw[List.take_left]
 rw[e] at hu
 have:=zyn l u hu
 simpa using this
theorem zxf {l:List Val} (h:l.Pairwise fun a b=>ordV a b<0) {v:Val} : ∀ u∈l.drop (posV l v),¬ ordV u v<0:=by
 have e:l.drop (posV l v)=l.dropWhile fun x=>ordV x v<0:=by
  unfold posV
  conv=>lhs;arg 2;rw[← List.takeWhile_append_dropWhile (p:=fun x=>decide (ordV x v<0)) (l:=l)]
  rw[List.drop_left]
 rw[e]
 intro u hu hlt
 have hp:(l.dropWhile fun x=>ordV x v<0).Pairwise fun a b=>ordV a b<0:=h.sublist (List.dropWhile_sublist _)
 cases hd : l.dropWhile fun x=>ordV x v<0 with
 | nil=>rw[hd] at hu;simp at hu
 | cons y r =>
  have hy:¬ ordV y v<0:=by
   have:=zv1 l hd
   simpa using this
  rw[hd] at hu hp
  rcases List.mem_cons.1 hu with rfl | hu
  ·exact hy hlt
  ·have:=(List.pairwise_cons.1 hp).1 u hu
   exact hy (zj2 this hlt)
theorem z1t3 {l:List Val} (h:l.Pairwise fun a b=>ordV a b<0) (v:Val) : (insV l v).Pairwise fun a b=>ordV a b<0:=by
 unfold insV
 split
 ·exact h
 ·rename_i hn
  have hs:∀ u∈l.drop (posV l v),ordV v u<0:=fun u hu=>by
   have h1:=zxf h u hu
   have h2:ordV u v≠0:=fun e=>hn (by rw[ordV_zero] at e;subst e;exact List.mem_of_mem_drop hu)
   rw[zhv u v];omega
  rw[List.pairwise_append]
  refine⟨h.sublist (List.take_sublist _ _),List.pairwise_cons.2 ⟨hs,h.sublist (List.drop_sublist _ _)⟩,fun a ha b hb=>?_⟩
  rcases List.mem_cons.1 hb with rfl | hb
  ·exact zxe a ha
  ·exact zj2 (zxe a ha) (hs b hb)
theorem z1t4 (l:List Val) (v:Val) : (insV l v).length≤l.length+1:=by
 unfold insV
 split
 ·omega
 ·have:=z1uf l v
  simp;omega
theorem zxg {nm:ByteArray} {v:Val} (h:zk4 nm v=true) (hs:nm=nmSum) : -bigM≤v.n∧v.n≤bigM:=by
 subst hs
 unfold zk4 at h
 simp only[Bool.or_eq_true,decide_eq_true_eq] at h
 rcases h with h | h
 ·exact (nm_ne.2.2.2.2.2.2.1 h).elim
 ·exact z21r h
end
end Go.Proofs.YtjfpbchdcbhfgaaGreat.B
