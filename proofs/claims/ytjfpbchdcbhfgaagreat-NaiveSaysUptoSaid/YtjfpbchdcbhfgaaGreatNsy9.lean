/- Part 9 of the proof: Slight2 Slight3 Slight4. -/
import Derived.Test.YtjfpbchdcbhfgaaGreatNsy8
set_option linter.unusedVariables false
set_option linter.unusedSimpArgs false
set_option linter.defProp false
namespace Go.Proofs.YtjfpbchdcbhfgaaGreat
namespace B
open Go Go.RowKit
set_option maxRecDepth 100000
noncomputable section
attribute [local irreducible] aB bk zw br aK b9 aR bu bA
def Mz:Nat→NS:=aO [(3,{ts:=bl 29 99,bs:=bl 29 0,nm:=[],cs:=true})] true
def sY(table:ByteArray)(db:List Data)(v0:Int)(v1:Int):S Un:=(st 29 29 116 0 [(0,at_ table),(1,al .data db),(5,ai v0),(6,ai v1)] [] [])
def BV:S Un→Option (EX Un):=aC av Mz Tryz.f64 [1,1,0,1,2,2] 3
def Vr:Exit→S Un→Option (RF Un):=aE av Mz Tryz.f64 [1,1,0,1,2] [.d]
def Vs(table:ByteArray)(db:List Data):Option (RF Un):=aw av Mz Tryz.f64 0 [.d] [.d<|.v<|cs table,.d<|.v<|.dat (U:=Un) Ty.data db]
def alE(table db):Vs table db=(BV<|sY table db (0:Int) (0:Int)).bind (zd Vr):=ah
def Vt(table db v0 v1):BV (sY table db v0 v1)=af (decide<|v1<(↑db.length:Int)) (ae (0≤v1∧v1<(↑db.length:Int))<|af ((db.getD v1.toNat dx).table.toList ==table.toList) (ae (0≤v1∧v1<(↑db.length:Int))<|BV<|sY table db (IntKind.i64.wrap<|v0+(↑(db.getD v1.toNat dx).rows.length:Int))<|IntKind.i64.wrap<|v1+1)<|BV<|sY table db v0<|IntKind.i64.wrap<|v1+1) (some (.exit 0,(sY table db v0 v1))):=aF
def alF(table db v0 v1):Vr (.exit 0) (sY table db v0 v1)=some (ay v0):=ah
def ko{σ α:Type}{L:S Un→Option (EX Un)}{st:σ→Int→S Un}{l:List α}{d} g{e}(hl:l.length≤9223372036854775807)(step:∀(a:σ)(i:Nat)(x:α),(i:Int)<(l.length:Int)→l.getD i d=x→x∈l→L (st a i)=L (st (g a x)<|IntKind.i64.wrap<|(i:Int)+1))(stop:∀a,L (st a (l.length:Int))=some (e,st a (l.length:Int))) a:L (st a (0:Int))=some (e,st (l.foldl g a) (l.length:Int)):=
 (zy (e:=e) (L:=L) (st:=st) (l:=l) (d:=d) (g:=g) (fun _ _=>True) hl (fun a i x hi hx _=>⟨trivial,step a i x hi hx<|by grind⟩) (fun a _=>stop a) a trivial).1
def bW(n x:Int):Int:=IntKind.i64.wrap<|n+x
def cU(a b:Int):Int:=List.foldl (fun a b=>if b<a then b else a) a [b]
def lr(table:ByteArray)(n:Int)(d:Data):Int:=if(d.table.toList==table.toList)=true then bW n d.rows.length else n
def mH(table:ByteArray)(db:List Data):Int:=db.foldl (lr table) 0
def alG table(db:List Data)(_ht:cm table)(hd:WL .data db):Vs table db=some (ay<|mH table db):=by
 have lp:=ko (e:=.exit 0) (L:=BV) (st:=fun(n:Int) i=>sY table db n i) (l:=db) (d:=dx) (lr table) hd.len
  (fun n i k hi hk _=>by
   rw[Vt];simp only[z8,hi,decide_true,if_true,and_true,y5,hk];rw[z6<|by omega,z6<|by omega];unfold lr;by_cases c:(k.table.toList==table.toList)=true
   ·rw[if_pos c,if_pos c];rfl
   grind)
  (fun n=>by rw[Vt];simp[z8]) 0
 rw[alE];refine(zf lp).trans ?_;rw[alF];rfl
def Vu:au Un:=aD cB (dL .data) fun table db=>([],ay<|mH table db)
def alH:aj 64 Vu:=aJ cN zi (M:=av) rfl trivial Tryz.func64 fun table db=>GiF.r fun w _=>alG table db (am w 0)<|am w 1
def zZ(op held rl n:Int)(rows:List Int)(asks:Int):Int×Int:=
 let out (i o:Int):Int×Int:=(cU o 1048576,cU (bW n<|IntKind.i64.wrap<|cU i 1048576*cU asks 1048576) 1048576)
 if op=1 then out held held
 else if rows.length=0 then out rl rl
 else if rows.length=1 then out (rows.getD 0 0) (dh (rows.getD 0 0) 1)
 else if op=5∨op=6 then out (IntKind.i64.wrap<|rows.getD 0 0*dh (rows.getD 1 0) 1) (IntKind.i64.wrap<|rows.getD 0 0*dh (rows.getD 1 0) 1)
 else out (IntKind.i64.wrap<|rows.getD 0 0+rows.getD 1 0) (IntKind.i64.wrap<|rows.getD 0 0+rows.getD 1 0)
mutual
def dH(db:List Data):Term→Int
 | .mk _ _ _ _ _ kids sub _=>Ab db (uK db 0 kids) sub
def uK(db:List Data):Int→List Term→Int
 |n,[]=>n
 |n,t::l=>uK db (eY n<|dH db t) l
def lu(db:List Data):Int→List Term→Int
 |n,[]=>n
 |n,t::l=>lu db (bW n<|dH db t) l
def Vv(db:List Data):Int→Agg→Int
 |n,.mk _ _ t=>lu db n t
def nC(db:List Data):Int→List Agg→Int
 |n,[]=>n
 |n,a::l=>nC db (Vv db n a) l
def bd(db:List Data):Rel→Int×Int
 | .mk op table _ kids terms aggs _ _ _ _ rows=>zZ op (mH table db) rows.length ((Aa db kids).foldl (fun n p=>bW n p.2) 0) ((Aa db kids).map (·.1))<|nC db (lu db 1 terms) aggs
def Aa(db:List Data):List Rel→List (Int×Int)
 |[]=>[]
 |r::l=>bd db r::Aa db l
def Ab(db:List Data):Int→List Rel→Int
 |n,[]=>n
 |n,r::l=>Ab db (eY n (bd db r).2) l
end
def Er db:∀(l:List Term)(n:Int),l.foldl (fun n t=>eY n<|dH db t) n=uK db n l
 |[],n=>by rfl
 |t::l,n=>by rw[yq,Er db l,uK]
theorem BW db:∀(l:List Term)(n:Int),l.foldl (fun n t=>bW n<|dH db t) n=lu db n l
 |[],n=>by rfl
 |t::l,n=>by rw[yq,BW db l,lu]
theorem Vw db n a:Vv db n a=lu db n a.t:=by cases a;rfl
def Vx db:∀(l:List Agg)(n:Int),l.foldl (fun n a=>lu db n a.t) n=nC db n l
 |[],n=>by rfl
 |t::l,n=>by rw[yq,Vx db l,nC,Vw]
def Es db:∀(l:List Rel)(n:Int),l.foldl (fun n t=>eY n (bd db t).2) n=Ab db n l
 |[],n=>by rfl
 |t::l,n=>by rw[yq,Es db l,Ab]
theorem Vy db:∀l:List Rel,Aa db l=l.map (bd db)
 |[]=>by rfl
 |r::l=>by rw[Aa,Vy db l,cL]
theorem MA db t:dH db t=Ab db (uK db 0 t.kids) t.sub:=by cases t;rfl
def Vz db r:bd db r=zZ r.op (mH r.table db) r.rows.length (r.kids.foldl (fun n k=>bW n (bd db k).2) 0) (r.kids.map fun k=>(bd db k).1) (nC db (lu db 1 r.terms) r.aggs):=by
 cases r;simp only[bd,Vy,P5,List.map_map,Rel.op_mk,Rel.table_mk,Rel.kids_mk,Rel.terms_mk,Rel.aggs_mk,Rel.rows_mk];rfl
def wq(t:Term)(db:List Data):Int:=dH db t
def mI(r:Rel)(db:List Data):Int×Int:=bd db r
def VA db:∀(l:List Rel)(n:Int)(x:List Int),l.foldl (fun(p:Int×List Int) k=>(bW p.1 (bd db k).2,p.2++[(bd db k).1])) (n,x)=(l.foldl (fun n k=>bW n (bd db k).2) n,x++l.map fun k=>(bd db k).1)
 |[],n,x=>by simp
 |r::l,n,x=>by rw[yq,VA db l,yq,cL,yw];rfl
def Ac(r:Rel):(∀t∈r.terms,t.ht<r.ht∧t.sz<r.sz)∧∀a∈r.aggs,∀t∈a.t,t.ht<r.ht∧t.sz<r.sz:=by
 have h5:aY r.terms<r.ht∧fx r.aggs<r.ht:=by cases r;grind[Rel.ht,Rel.terms_mk,Rel.aggs_mk]
 have h3:=r.sz_eq;refine⟨fun t h=>⟨by have:=jy h;omega,by have:=p4 h;omega⟩,fun a ha t h=>?_⟩;have h1:=D4 ha;have h2:=vI ha;have h6:=a.sz_eq;have h7:=jy h;have h8:=p4 h;have h9:aY a.t<a.ht:=by cases a;simp[Agg.t_mk,Agg.ht]
 omega
def Hf(m:Nat):au Un:=aD (dS .term) (dL .data) fun t db=>bB (2*t.ht) m ([t.sz≤2000000],ay<|wq t db)
def aS(r:Int×Int):RF Un:=([.c<|.s<|.int .i64 r.1,.c<|.s<|.int .i64 r.2],[])
def Hg(m:Nat):au Un:=aD (dS .rel) (dL .data) fun r db=>bB (2*r.ht+1) m ([r.sz≤2000000],aS<|mI r db)
def wt(m:Nat):Mc Un:=az [(34,Hf m),(29,Hg m)] [] [] [] []
def BX:Nat→NS:=aO [(3,{ts:=bl 49 102,bs:=bl 49 4,nm:=[],cs:=true}),(7,{ts:=bl 49 166,bs:=bl 49 4,nm:=[],cs:=true})] true
def wu(t:Term)(db:List Data)(v0:Int)(v1:Int):S Un:=(st 49 49 196 0 [(1,al .data db),(2,ax 2),(5,ai v0),(6,ai v1)] [(2,bg .term t)] [])
def wv(t:Term)(db:List Data)(v0:Int)(v2:Int):S Un:=(st 49 49 196 0 [(1,al .data db),(2,ax 2),(5,ai v0),(7,ai v2)] [(2,bg .term t)] [])
def Hh(m:Nat):S Un→Option (EX Un):=aC (wt m) BX Tryz.f34 [1,1,0,1,2,2] 3
def Hi(m:Nat):S Un→Option (EX Un):=aC (wt m) BX Tryz.f34 [1,1,1,0,1,2,2] 7
def VC(m:Nat):Exit→S Un→Option (RF Un):=aE (wt m) BX Tryz.f34 [1,1,0,1,2] [.d]
def VD(m:Nat):Exit→S Un→Option (RF Un):=aE (wt m) BX Tryz.f34 [1,1,1,0,1,2] [.d]
def VE(m:Nat)(t:Term)(db:List Data):Option (RF Un):=aw (wt m) BX Tryz.f34 0 [.d] [.d<|.agg<|enc Ty.term t,.d<|.v<|.dat (U:=Un) Ty.data db]
def alI(m t db):VE m t db=(Hh m<|wu t db (0:Int) (0:Int)).bind (zd<|VC m):=ah
def VF(m t db v0 v1):Hh m (wu t db v0 v1)=af (decide<|v1<(↑t.kids.length:Int)) (ae (0≤v1∧v1<(↑t.kids.length:Int))<|ae ((2:Nat)*(Term.ids<|t.kids.getD v1.toNat zb).ht<m)<|ae ((Term.ids<|t.kids.getD v1.toNat zb).sz≤(2000000:Nat))<|Hh m<|wu t db (List.foldl (fun a b=>if b<a then b else a) (IntKind.i64.wrap<|v0+wq (Term.ids<|t.kids.getD v1.toNat zb) db) [(1048576:Int)])<|IntKind.i64.wrap<|v1+1) (some (.exit 0,(wu t db v0 v1))):=aF
theorem alJ(m t db v0 v1):VC m (.exit 0) (wu t db v0 v1)=(Hi m<|wv t db v0 (0:Int)).bind (zd<|VD m):=ah
def VG(m t db v0 v2):Hi m (wv t db v0 v2)=af (decide<|v2<(↑t.sub.length:Int)) (ae (0≤v2∧v2<(↑t.sub.length:Int))<|ae ((2:Nat)*(Rel.ids<|t.sub.getD v2.toNat za).ht+(1:Nat)<m)<|ae ((Rel.ids<|t.sub.getD v2.toNat za).sz≤(2000000:Nat))<|Hi m<|wv t db (List.foldl (fun a b=>if b<a then b else a) (IntKind.i64.wrap<|v0+(mI (Rel.ids<|t.sub.getD v2.toNat za) db).snd) [(1048576:Int)])<|IntKind.i64.wrap<|v2+1) (some (.exit 2,(wv t db v0 v2))):=aF
theorem alK(m t db v0 v2):VD m (.exit 2) (wv t db v0 v2)=some (ay v0):=ah
def alL m(t:Term)(db:List Data)(ht:WS .term t)(_hd:WL .data db)(hm:2*t.ht<m+1)(h:t.sz≤2000000):VE m t db=some (ay<|wq t db):=by
 have lp:=ko (e:=.exit 0) (L:=Hh m) (st:=fun(n:Int) i=>wu t db n i) (l:=t.kids) (d:=zb) (fun n k=>eY n<|dH db k) (ht.term_kids).len
  (fun n i k hi hk hmem=>by
   have h1:=Term.ht_kid hmem;have h2:=oq hmem;rw[VF];simp only[z8,hi,decide_true,if_true,and_true,y5,hk,Term.ids_eq];rw[z6<|by omega,z6<|by omega,z6<|by omega]
   rfl)
  (fun n=>by rw[VF];simp[z8]) 0
 rw[Er]at lp
 have lq:=ko (e:=.exit 2) (L:=Hi m) (st:=fun(n:Int) i=>wv t db n i) (l:=t.sub) (d:=za) (fun n k=>eY n (bd db k).2) (ht.term_sub).len
  (fun n i k hi hk hmem=>by
   have h1:=Term.ht_sub hmem;have h2:=ot hmem;rw[VG];simp only[z8,hi,decide_true,if_true,and_true,y5,hk,Rel.ids_eq];rw[z6<|by omega,z6<|by omega,z6<|by omega]
   rfl)
  (fun n=>by rw[VG];simp[z8]) (uK db 0 t.kids)
 rw[Es]at lq;rw[alI];grind[zf,trans,alJ,alK,wq,MA]
abbrev MB(m:Nat):Prop:=aj 34 (Hf m)∧aj 29 (Hg m)
def alM(m:Nat)(hG:MB m):aj 34 (Hf<|m+1):=aJ zo zi (M:=(wt m)) rfl ⟨hG.1,hG.2,trivial⟩ Tryz.func34 fun t db=>GiF.r fun w o=>alL m t db (am w 0) (am w 1) (aA o 0)<|aA o 1
def mJ(m:Nat):Mc Un:=az [(29,Hg m),(34,Hf m),(64,Vu)] [] [] [] []
def kp:Nat→NS:=aO [(3,{ts:=bl 156 454,bs:=bl 156 4,nm:=[(.sl 6,624)],cs:=true}),(10,{ts:=bl 156 6342,bs:=bl 156 4,nm:=[(.sl 6,625)],cs:=true}),(14,{ts:=bl 156 10438,bs:=bl 156 4,nm:=[(.sl 6,626)],cs:=true}),(17,{ts:=bl 156 26822,bs:=bl 156 4,nm:=[(.sl 6,627)],cs:=true})] true
def BY(r:Rel)(db:List Data)(v1:Int):=mI (Rel.mk (Rel.op<|r.kids.getD v1.toNat za) (Rel.table<|r.kids.getD v1.toNat za) (Rel.cols<|r.kids.getD v1.toNat za) (Rel.kids<|r.kids.getD v1.toNat za) (Rel.terms<|r.kids.getD v1.toNat za) (Rel.aggs<|r.kids.getD v1.toNat za) (Rel.keys<|r.kids.getD v1.toNat za) (Rel.limit<|r.kids.getD v1.toNat za) (Rel.skip<|r.kids.getD v1.toNat za) (Rel.all<|r.kids.getD v1.toNat za)<|Rel.rows<|r.kids.getD v1.toNat za) db
def ww(r:Rel)(db:List Data)(v0:Int)(v1:Int)(v2:List Int):S Un:=(st 156 156 628 0 [(1,al .data db),(2,ax 2),(6,ao 624),(7,ai v0),(8,ai v1)] [(2,bg .rel r)] [(624,some ⟨(0:Nat),Ty.int,v2,some (0:Nat),true⟩)])
def wy(r:Rel)(db:List Data)(v0:Int)(v2:List Int)(v3:Int)(v4:Int):S Un:=(st 156 156 628 0 [(1,al .data db),(2,ax 2),(6,ao 625),(7,ai v0),(11,ai v3),(12,ai v4)] [(2,bg .rel r)] [(625,some ⟨(0:Nat),Ty.int,v2,some (0:Nat),true⟩)])
def wz(r:Rel)(db:List Data)(v0:Int)(v3:Int)(v2:List Int)(v5:Int):S Un:=(st 156 156 628 0 [(1,al .data db),(2,ax 2),(6,ao 626),(7,ai v0),(11,ai v3),(13,ai v5)] [(2,bg .rel r)] [(626,some ⟨(0:Nat),Ty.int,v2,some (0:Nat),true⟩)])
def wA(r:Rel)(db:List Data)(v0:Int)(v3:Int)(v5:Int)(v2:List Int)(v6:Int):S Un:=(st 156 156 628 0 [(1,al .data db),(2,ax 2),(6,ao 627),(7,ai v0),(11,ai v3),(13,ai v5),(14,ai v6)] [(2,bg .rel r)] [(627,some ⟨(0:Nat),Ty.int,v2,some (0:Nat),true⟩)])
def Hj(m:Nat):S Un→Option (EX Un):=aC (mJ m) kp Tryz.f29 [1,1,0,1,2,2] 3
def Hk(m:Nat):S Un→Option (EX Un):=aC (mJ m) kp Tryz.f29 [1,1,1,1,0,1,2,2] 10
def BZ(m:Nat):S Un→Option (EX Un):=aC (mJ m) kp Tryz.f29 [1,1,1,1,1,0,1,2,2] 14
noncomputable def VH:Code:=sub (sub (zh Tryz.f29) [1,1,1,1,1,0,1,2,2]) [1,0,2,1,2,2]
def Hl(m:Nat):S Un→Option (EX Un):=bA (kp 17) fun s Q=>aR (mJ m) kp VH s Q
def VI(m:Nat):Exit→S Un→Option (RF Un):=aE (mJ m) kp Tryz.f29 [1,1,0,1,2] [.d,.d]
def VJ(m:Nat):Exit→S Un→Option (RF Un):=aE (mJ m) kp Tryz.f29 [1,1,1,1,0,1,2] [.d,.d]
def VK(m:Nat):Exit→S Un→Option (RF Un):=aE (mJ m) kp Tryz.f29 [1,1,1,1,1,0,1,2] [.d,.d]
def VL(m:Nat):Exit→S Un→Option (EX Un):=bu (mJ m) kp (sub (zh Tryz.f29) [1,1,1,1,1,0,1,2,2]) [1,0,2,1,2]<|eV (kp 14)<|BZ m
def VM(m:Nat)(r:Rel)(db:List Data):Option (RF Un):=aw (mJ m) kp Tryz.f29 4 [.d,.d] [.d<|.agg<|enc Ty.rel r,.d<|.v<|.dat (U:=Un) Ty.data db]
def alN(m r db):VM m r db=(Hj m<|ww r db (0:Int) (0:Int)<|[]).bind (zd<|VI m):=ah
def VN(m r db v0 v1 v2):Hj m (ww r db v0 v1 v2)=af (decide<|v1<(↑r.kids.length:Int)) (ae (0≤v1∧v1<(↑r.kids.length:Int))<|ae ((2:Nat)*(Rel.ids<|r.kids.getD v1.toNat za).ht+(1:Nat)<m)<|ae ((Rel.ids<|r.kids.getD v1.toNat za).sz≤(2000000:Nat))<|ae ((v2.length+[(BY r db v1).fst].length)*(8:Nat)≤ze)<|Hj m<|ww r db (IntKind.i64.wrap<|v0+(BY r db v1).snd) (IntKind.i64.wrap<|v1+1)<|v2++[(BY r db v1).fst]) (some (.exit 0,(ww r db v0 v1 v2))):=aF
def alO(m r db v0 v1 v2):VI m (.exit 0) (ww r db v0 v1 v2)=(Hk m<|wy r db v0 v2 (1:Int) (0:Int)).bind (zd<|VJ m):=ah
def VO(m r db v0 v2 v3 v4):Hk m (wy r db v0 v2 v3 v4)=af (decide<|v4<(↑r.terms.length:Int)) (ae (0≤v4∧v4<(↑r.terms.length:Int))<|ae ((2:Nat)*(Term.ids<|r.terms.getD v4.toNat zb).ht<m)<|ae ((Term.ids<|r.terms.getD v4.toNat zb).sz≤(2000000:Nat))<|Hk m<|wy r db v0 v2 (IntKind.i64.wrap<|v3+wq (Term.ids<|r.terms.getD v4.toNat zb) db)<|IntKind.i64.wrap<|v4+1) (some (.exit 2,(wy r db v0 v2 v3 v4))):=aF
def alP(m r db v0 v2 v3 v4):VJ m (.exit 2) (wy r db v0 v2 v3 v4)=(BZ m<|wz r db v0 v3 v2 (0:Int)).bind (zd<|VK m):=ah
def VP(m r db v0 v3 v2 v5):BZ m (wz r db v0 v3 v2 v5)=af (decide<|v5<(↑r.aggs.length:Int)) ((Hl m<|wA r db v0 v3 v5 v2 (0:Int)).bind<|zd<|VL m) (some (.exit 4,(wz r db v0 v3 v2 v5))):=aF
def Qv(v0:Int)(v2:List Int)(v3:Int):Option (RF Un):=ae ((0:Int)≤(0:Int)∧(0:Int)<(↑v2.length:Int))<|ae ((0:Int)≤(1:Int)∧(1:Int)<(↑v2.length:Int))<|some<|aS (List.foldl (fun a b=>if b<a then b else a) (IntKind.i64.wrap<|v2.getD 0 (0:Int)*List.foldl (fun a b=>if a<b then b else a) (v2.getD 1 (0:Int)) [(1:Int)]) [(1048576:Int)],List.foldl (fun a b=>if b<a then b else a) (IntKind.i64.wrap<|v0+IntKind.i64.wrap (List.foldl (fun a b=>if b<a then b else a) (IntKind.i64.wrap<|v2.getD 0 (0:Int)*List.foldl (fun a b=>if a<b then b else a) (v2.getD 1 (0:Int)) [(1:Int)]) [(1048576:Int)]*List.foldl (fun a b=>if b<a then b else a) v3 [(1048576:Int)])) [(1048576:Int)])
def alQ(m r db v0 v3 v2 v5):VK m (.exit 4) (wz r db v0 v3 v2 v5)=af (r.op==1) (some<|aS (List.foldl (fun a b=>if b<a then b else a) (mH r.table db) [(1048576:Int)],List.foldl (fun a b=>if b<a then b else a) (IntKind.i64.wrap<|v0+IntKind.i64.wrap (List.foldl (fun a b=>if b<a then b else a) (mH r.table db) [(1048576:Int)]*List.foldl (fun a b=>if b<a then b else a) v3 [(1048576:Int)])) [(1048576:Int)])) (af ((↑v2.length:Int)==(0:Int)) (some<|aS (List.foldl (fun a b=>if b<a then b else a) (↑r.rows.length:Int) [(1048576:Int)],List.foldl (fun a b=>if b<a then b else a) (IntKind.i64.wrap<|v0+IntKind.i64.wrap (List.foldl (fun a b=>if b<a then b else a) (↑r.rows.length:Int) [(1048576:Int)]*List.foldl (fun a b=>if b<a then b else a) v3 [(1048576:Int)])) [(1048576:Int)]))<|af ((↑v2.length:Int)==(1:Int)) (ae ((0:Int)≤(0:Int)∧(0:Int)<(↑v2.length:Int))<|some<|aS (List.foldl (fun a b=>if b<a then b else a) (List.foldl (fun a b=>if a<b then b else a) (v2.getD 0 (0:Int)) [(1:Int)]) [(1048576:Int)],List.foldl (fun a b=>if b<a then b else a) (IntKind.i64.wrap<|v0+IntKind.i64.wrap (List.foldl (fun a b=>if b<a then b else a) (v2.getD 0 (0:Int)) [(1048576:Int)]*List.foldl (fun a b=>if b<a then b else a) v3 [(1048576:Int)])) [(1048576:Int)]))<|af (r.op==5) (Qv v0 v2 v3)<|af (r.op==6) (Qv v0 v2 v3)<|ae ((0:Int)≤(0:Int)∧(0:Int)<(↑v2.length:Int))<|ae ((0:Int)≤(1:Int)∧(1:Int)<(↑v2.length:Int))<|some<|aS (List.foldl (fun a b=>if b<a then b else a) (IntKind.i64.wrap<|v2.getD 0 (0:Int)+v2.getD 1 (0:Int)) [(1048576:Int)],List.foldl (fun a b=>if b<a then b else a) (IntKind.i64.wrap<|v0+IntKind.i64.wrap (List.foldl (fun a b=>if b<a then b else a) (IntKind.i64.wrap<|v2.getD 0 (0:Int)+v2.getD 1 (0:Int)) [(1048576:Int)]*List.foldl (fun a b=>if b<a then b else a) v3 [(1048576:Int)])) [(1048576:Int)])):=ah
def VQ m r db v0 v3 v5 v2 v6:Hl m (wA r db v0 v3 v5 v2 v6)=ae (0≤v5∧v5<(↑r.aggs.length:Int)) (af (decide<|v6<(↑(Agg.t<|r.aggs.getD v5.toNat zr).length:Int)) (ae (0≤v5∧v5<(↑r.aggs.length:Int))<|ae (0≤v6∧v6<(↑(Agg.t<|r.aggs.getD v5.toNat zr).length:Int))<|ae ((2:Nat)*(Term.ids<|(Agg.t<|r.aggs.getD v5.toNat zr).getD v6.toNat zb).ht<m)<|ae ((Term.ids<|(Agg.t<|r.aggs.getD v5.toNat zr).getD v6.toNat zb).sz≤(2000000:Nat))<|Hl m<|wA r db v0 (IntKind.i64.wrap<|v3+wq (Term.ids<|(Agg.t<|r.aggs.getD v5.toNat zr).getD v6.toNat zb) db) v5 v2<|IntKind.i64.wrap<|v6+1)<|some (.exit 6,(wA r db v0 v3 v5 v2 v6))):=(fU (kp 17) VH _).trans<|by kernel_rfl
theorem alR(m r db v0 v3 v5 v2 v6):VL m (.exit 6) (wA r db v0 v3 v5 v2 v6)=BZ m (wz r db v0 v3 v2<|IntKind.i64.wrap<|v5+1):=ah
def alS m(r:Rel)(db:List Data)(hr:WS .rel r)(_hd:WL .data db)(hm:2*r.ht+1<m+1)(h:r.sz≤2000000):VM m r db=some (aS<|mI r db):=by
 obtain⟨p1,p2⟩:=Ac r;have hkl:=D5 r.kids;have h3:=r.sz_eq
 obtain⟨lp,_⟩:=zy (e:=.exit 0) (L:=Hj m) (st:=fun(p:Int×List Int) i=>ww r db p.1 i p.2) (l:=r.kids) (d:=za) (g:=fun p k=>(bW p.1 (bd db k).2,p.2++[(bd db k).1])) (fun i p=>p.2.length=i) (hr.rel_kids).len
  (fun p i k hi hk hI=>by
   have hmem:k∈r.kids:=by grind
   have h1:=Rel.ht_kid hmem;have h2:=hU hmem;have hc:BY r db (i:Int)=bd db k:=by unfold BY mI;rw[y5,hk];exact congrArg (bd db) (by cases k;rfl)
   refine⟨by grind,?_⟩;rw[VN];simp only[hc,z8,hi,decide_true,if_true,and_true,y5,hk,Rel.ids_eq];rw[z6<|by omega,z6<|by omega,z6<|by omega,z6<|by grind[ze,List.length_singleton]]
   rfl)
  (fun n _=>by rw[VN];simp[z8]) (0,[]) rfl
 rw[VA]at lp
 have lq:=fun(n:Int)(x:List Int)=>ko (e:=.exit 2) (L:=Hk m) (st:=fun(a:Int) i=>wy r db n x a i) (l:=r.terms) (d:=zb) (fun n k=>bW n<|dH db k) (hr.rel_terms).len
  (fun a i k hi hk hmem=>by
   obtain⟨h1,h2⟩:=p1 k hmem;rw[VO];simp only[z8,hi,decide_true,if_true,and_true,y5,hk,Term.ids_eq];rw[z6<|by omega,z6<|by omega,z6<|by omega]
   rfl)
  (fun n=>by rw[VO];simp[z8]) 1
 have ls:=fun(n:Int)(x:List Int)=>ko (e:=.exit 4) (L:=BZ m) (st:=fun(a:Int) i=>wz r db n a x i) (l:=r.aggs) (d:=zr) (fun n a=>lu db n a.t) (hr.rel_aggs).len
  (fun a i k hi hk hmem=>by
   have li:=ko (e:=.exit 6) (L:=Hl m) (st:=fun(a:Int) j=>wA r db n a i x j) (l:=k.t) (d:=zb) (fun n k=>bW n<|dH db k) (by have:=fG k.t;have:=vI hmem;have:=k.sz_eq;omega)
    (fun a j t hj ht htm=>by
     obtain⟨h1,h2⟩:=p2 k hmem t htm;rw[VQ];simp only[hk,z8,hi,hj,decide_true,if_true,and_true,y5,ht,Term.ids_eq];rw[z6<|by omega,z6<|by omega,z6<|by omega,z6<|by omega,z6<|by omega]
     rfl)
    (fun n=>by rw[VQ];simp_all[z8,y5,decide_eq_true_eq,z6,if_neg]) a
   rw[BW]at li;rw[VP];simp only[z8,hi,decide_true,if_true]
   grind[zf,trans,alR])
  (fun n=>by rw[VP];simp[z8]) (lu db 1 r.terms)
 rw[alN];refine(zf lp).trans ?_;rw[alO];refine(zf<|lq _ _).trans ?_;rw[BW,alP];refine(zf<|ls _ _).trans ?_;rw[Vx,alQ,mI,Vz,yr];generalize(r.kids.map fun k=>(bd db k).1)=x;unfold zZ Qv;simp only[z8,beq_iff_eq];by_cases c1:r.op=1
 ·rw[if_pos c1,if_pos c1];rfl
 rw[if_neg c1,if_neg c1];by_cases c2:x.length=0
 ·rw[if_pos<|by omega,if_pos c2];rfl
 rw[if_neg<|by omega,if_neg c2];by_cases c3:x.length=1
 ·rw[if_pos<|by omega,if_pos c3,z6<|by omega];rfl
 rw[if_neg<|by omega,if_neg c3];by_cases c5:r.op=5
 ·rw[if_pos c5,if_pos<|.inl c5,z6<|by omega,z6<|by omega];rfl
 by_cases c6:r.op=6
 ·rw[if_neg c5,if_pos c6,if_pos<|.inr c6,z6<|by omega,z6<|by omega];rfl
 rw[if_neg c5,if_neg c6,if_neg<|by omega,z6<|by omega,z6<|by omega];rfl
def alT(m:Nat)(hG:MB m):aj 29 (Hg<|m+1):=aJ zo zi (M:=(mJ m)) rfl ⟨hG.2,hG.1,alH,trivial⟩ Tryz.func29 fun r db=>GiF.r fun w o=>alS m r db (am w 0) (am w 1) (aA o 0)<|aA o 1
def Qw:∀m,MB m
 |0=>⟨ew,ew⟩
 |m+1=>⟨alM m<|Qw m,alT m<|Qw m⟩
def VR:au Un:=aD (dS .rel) (dL .data) fun r db=>([r.sz≤2000000],aS<|mI r db)
def alU:aj 29 VR:=rP fun m=>(Qw m).2
def hd1(r:Rel):Int:=if r.kids.length>1 then 2 else IntKind.i64.wrap (1+(r.rows.length:Int))
mutual
def rT:Term→Int
 | .mk _ _ _ _ _ kids sub _=>Ae (jE 0 kids) sub
def jE:Int→List Term→Int
 |n,[]=>n
 |n,t::l=>jE (bW n<|rT t) l
def VS:Int→Agg→Int
 |n,.mk _ _ t=>jE n t
def Ad:Int→List Agg→Int
 |n,[]=>n
 |n,a::l=>Ad (VS n a) l
def pz:Rel→Int
 | .mk _ _ _ kids terms aggs _ _ _ _ rows=>Ad (jE (rU (if kids.length>1 then 2 else IntKind.i64.wrap (1+(rows.length:Int))) kids) terms) aggs
def rU:Int→List Rel→Int
 |n,[]=>n
 |n,r::l=>rU (bW n<|pz r) l
def Ae:Int→List Rel→Int
 |n,[]=>n
 |n,r::l=>Ae (bW (bW n 4)<|pz r) l
end
def Et:∀(l:List Term)(n:Int),l.foldl (fun n t=>bW n<|rT t) n=jE n l
 |[],n=>by rfl
 |t::l,n=>by rw[yq,Et l,jE]
def VT:∀(l:List Rel)(n:Int),l.foldl (fun n t=>bW n<|pz t) n=rU n l
 |[],n=>by rfl
 |t::l,n=>by rw[yq,VT l,rU]
def VU:∀(l:List Rel)(n:Int),l.foldl (fun n t=>bW (bW n 4)<|pz t) n=Ae n l
 |[],n=>by rfl
 |t::l,n=>by rw[yq,VU l,Ae]
def alV n a:VS n a=jE n a.t:=by cases a;rfl
def VV:∀(l:List Agg)(n:Int),l.foldl (fun n a=>jE n a.t) n=Ad n l
 |[],n=>by rfl
 |t::l,n=>by rw[yq,VV l,Ad,alV]
theorem alW t:rT t=Ae (jE 0 t.kids) t.sub:=by cases t;rfl
theorem alX r:pz r=Ad (jE (rU (hd1 r) r.kids) r.terms) r.aggs:=by
 cases r;rfl
def wB(t:Term):Int:=rT t
def qf(r:Rel):Int:=pz r
def Hm(m:Nat):au Un:=aQ (dS .term) fun t=>bB (2*t.ht) m ([t.sz≤2000000],ay<|wB t)
def Hn(m:Nat):au Un:=aQ (dS .rel) fun r=>bB (2*r.ht+1) m ([r.sz≤2000000],ay<|qf r)
def wC(m:Nat):Mc Un:=az [(21,Hm m),(28,Hn m)] [] [] [] []
def B0:Nat→NS:=aO [(3,{ts:=bl 38 26,bs:=bl 38 2,nm:=[],cs:=true}),(7,{ts:=bl 38 42,bs:=bl 38 2,nm:=[],cs:=true})] true
def wD(t:Term)(v0:Int)(v1:Int):S Un:=(st 38 38 152 0 [(1,ax 1),(3,ai v0),(4,ai v1)] [(1,bg .term t)] [])
def wE(t:Term)(v0:Int)(v2:Int):S Un:=(st 38 38 152 0 [(1,ax 1),(3,ai v0),(5,ai v2)] [(1,bg .term t)] [])
def Ho(m:Nat):S Un→Option (EX Un):=aC (wC m) B0 Tryz.f21 [1,1,0,1,2,2] 3
def Hp(m:Nat):S Un→Option (EX Un):=aC (wC m) B0 Tryz.f21 [1,1,1,0,1,2,2] 7
def VW(m:Nat):Exit→S Un→Option (RF Un):=aE (wC m) B0 Tryz.f21 [1,1,0,1,2] [.d]
def VY(m:Nat):Exit→S Un→Option (RF Un):=aE (wC m) B0 Tryz.f21 [1,1,1,0,1,2] [.d]
def VZ(m:Nat)(t:Term):Option (RF Un):=aw (wC m) B0 Tryz.f21 0 [.d] [.d<|.agg<|enc Ty.term t]
def alY(m t):VZ m t=(Ho m<|wD t (0:Int) (0:Int)).bind (zd<|VW m):=ah
def V0(m t v0 v1):Ho m (wD t v0 v1)=af (decide<|v1<(↑t.kids.length:Int)) (ae (0≤v1∧v1<(↑t.kids.length:Int))<|ae ((2:Nat)*(Term.ids<|t.kids.getD v1.toNat zb).ht<m)<|ae ((Term.ids<|t.kids.getD v1.toNat zb).sz≤(2000000:Nat))<|Ho m<|wD t (IntKind.i64.wrap<|v0+wB (Term.ids<|t.kids.getD v1.toNat zb))<|IntKind.i64.wrap<|v1+1) (some (.exit 0,(wD t v0 v1))):=aF
theorem alZ(m t v0 v1):VW m (.exit 0) (wD t v0 v1)=(Hp m<|wE t v0 (0:Int)).bind (zd<|VY m):=ah
def V1(m t v0 v2):Hp m (wE t v0 v2)=af (decide<|v2<(↑t.sub.length:Int)) (ae (0≤v2∧v2<(↑t.sub.length:Int))<|ae ((2:Nat)*(Rel.ids<|t.sub.getD v2.toNat za).ht+(1:Nat)<m)<|ae ((Rel.ids<|t.sub.getD v2.toNat za).sz≤(2000000:Nat))<|Hp m<|wE t (IntKind.i64.wrap<|IntKind.i64.wrap (v0+4)+qf (Rel.ids<|t.sub.getD v2.toNat za))<|IntKind.i64.wrap<|v2+1) (some (.exit 2,(wE t v0 v2))):=aF
theorem al1(m t v0 v2):VY m (.exit 2) (wE t v0 v2)=some (ay v0):=ah
def al2 m(t:Term)(ht:WS .term t)(hm:2*t.ht<m+1)(h:t.sz≤2000000):VZ m t=some (ay<|wB t):=by
 have lp:=ko (e:=.exit 0) (L:=Ho m) (st:=fun(n:Int) i=>wD t n i) (l:=t.kids) (d:=zb) (fun n k=>bW n<|rT k) (ht.term_kids).len
  (fun n i k hi hk hmem=>by
   have h1:=Term.ht_kid hmem;have h2:=oq hmem;rw[V0];simp only[z8,hi,decide_true,if_true,and_true,y5,hk,Term.ids_eq];rw[z6<|by omega,z6<|by omega,z6<|by omega]
   rfl)
  (fun n=>by rw[V0];simp[z8]) 0
 rw[Et]at lp
 have lq:=ko (e:=.exit 2) (L:=Hp m) (st:=fun(n:Int) i=>wE t n i) (l:=t.sub) (d:=za) (fun n k=>bW (bW n 4)<|pz k) (ht.term_sub).len
  (fun n i k hi hk hmem=>by
   have h1:=Term.ht_sub hmem;have h2:=ot hmem;rw[V1];simp only[z8,hi,decide_true,if_true,and_true,y5,hk,Rel.ids_eq];rw[z6<|by omega,z6<|by omega,z6<|by omega]
   rfl)
  (fun n=>by rw[V1];simp[z8]) (jE 0 t.kids)
 rw[VU]at lq;rw[alY];grind[zf,trans,alZ,al1,wB,alW]
abbrev MC(m:Nat):Prop:=aj 21 (Hm m)∧aj 28 (Hn m)
def al3(m:Nat)(hG:MC m):aj 21 (Hm<|m+1):=aU zo (M:=(wC m)) rfl ⟨hG.1,hG.2,trivial⟩ Tryz.func21 fun t=>GiF.r fun w o=>al2 m t (am w 0) (aA o 0)<|aA o 1
def mK(m:Nat):Mc Un:=az [(28,Hn m),(21,Hm m)] [] [] [] []
def kq:Nat→NS:=aO [(5,{ts:=bl 77 26,bs:=bl 77 2,nm:=[],cs:=true}),(9,{ts:=bl 77 42,bs:=bl 77 2,nm:=[],cs:=true}),(13,{ts:=bl 77 74,bs:=bl 77 2,nm:=[],cs:=true}),(16,{ts:=bl 77 202,bs:=bl 77 2,nm:=[],cs:=true})] true
def qg(r:Rel)(v0:Int)(v1:Int):S Un:=(st 77 77 308 0 [(1,ax 1),(3,ai v0),(4,ai v1)] [(1,bg .rel r)] [])
def wF(r:Rel)(v0:Int)(v2:Int):S Un:=(st 77 77 308 0 [(1,ax 1),(3,ai v0),(5,ai v2)] [(1,bg .rel r)] [])
def wG(r:Rel)(v0:Int)(v3:Int):S Un:=(st 77 77 308 0 [(1,ax 1),(3,ai v0),(6,ai v3)] [(1,bg .rel r)] [])
def wH(r:Rel)(v0:Int)(v3:Int)(v4:Int):S Un:=(st 77 77 308 0 [(1,ax 1),(3,ai v0),(6,ai v3),(7,ai v4)] [(1,bg .rel r)] [])
def wI(m:Nat):S Un→Option (EX Un):=aC (mK m) kq Tryz.f28 [1,1,1,0,1,2,2] 5
def Hq(m:Nat):S Un→Option (EX Un):=aC (mK m) kq Tryz.f28 [1,1,1,1,0,1,2,2] 9
def B3(m:Nat):S Un→Option (EX Un):=aC (mK m) kq Tryz.f28 [1,1,1,1,1,0,1,2,2] 13
noncomputable def V2:Code:=sub (sub (zh Tryz.f28) [1,1,1,1,1,0,1,2,2]) [1,0,2,1,2,2]
def Hr(m:Nat):S Un→Option (EX Un):=bA (kq 16) fun s Q=>aR (mK m) kq V2 s Q
def Hs(m:Nat):Exit→S Un→Option (RF Un):=aE (mK m) kq Tryz.f28 [1,1,1,0,1,2] [.d]
def V3(m:Nat):Exit→S Un→Option (RF Un):=aE (mK m) kq Tryz.f28 [1,1,1,1,0,1,2] [.d]
def V4(m:Nat):Exit→S Un→Option (RF Un):=aE (mK m) kq Tryz.f28 [1,1,1,1,1,0,1,2] [.d]
def V5(m:Nat):Exit→S Un→Option (EX Un):=bu (mK m) kq (sub (zh Tryz.f28) [1,1,1,1,1,0,1,2,2]) [1,0,2,1,2]<|eV (kq 13)<|B3 m
def MD(m:Nat)(r:Rel):Option (RF Un):=aw (mK m) kq Tryz.f28 0 [.d] [.d<|.agg<|enc Ty.rel r]
def al4(m r):MD m r=af (decide<|(↑r.kids.length:Int)>(1:Int)) ((wI m<|qg r (2:Int) (0:Int)).bind<|zd<|Hs m) ((wI m<|qg r (IntKind.i64.wrap<|(1:Int)+(↑r.rows.length:Int)) (0:Int)).bind<|zd<|Hs m):=ah
def V6(m r v0 v1):wI m (qg r v0 v1)=af (decide<|v1<(↑r.kids.length:Int)) (ae (0≤v1∧v1<(↑r.kids.length:Int))<|ae ((2:Nat)*(Rel.ids<|r.kids.getD v1.toNat za).ht+(1:Nat)<m)<|ae ((Rel.ids<|r.kids.getD v1.toNat za).sz≤(2000000:Nat))<|wI m<|qg r (IntKind.i64.wrap<|v0+qf (Rel.ids<|r.kids.getD v1.toNat za))<|IntKind.i64.wrap<|v1+1) (some (.exit 0,(qg r v0 v1))):=aF
def al5(m r v0 v1):Hs m (.exit 0) (qg r v0 v1)=(Hq m<|wF r v0 (0:Int)).bind (zd<|V3 m):=ah
def V7(m r v0 v2):Hq m (wF r v0 v2)=af (decide<|v2<(↑r.terms.length:Int)) (ae (0≤v2∧v2<(↑r.terms.length:Int))<|ae ((2:Nat)*(Term.ids<|r.terms.getD v2.toNat zb).ht<m)<|ae ((Term.ids<|r.terms.getD v2.toNat zb).sz≤(2000000:Nat))<|Hq m<|wF r (IntKind.i64.wrap<|v0+wB (Term.ids<|r.terms.getD v2.toNat zb))<|IntKind.i64.wrap<|v2+1) (some (.exit 2,(wF r v0 v2))):=aF
theorem al6(m r v0 v2):V3 m (.exit 2) (wF r v0 v2)=(B3 m<|wG r v0 (0:Int)).bind (zd<|V4 m):=ah
def V8(m r v0 v3):B3 m (wG r v0 v3)=af (decide<|v3<(↑r.aggs.length:Int)) ((Hr m<|wH r v0 v3 (0:Int)).bind<|zd<|V5 m) (some (.exit 4,(wG r v0 v3))):=aF
theorem al7(m r v0 v3):V4 m (.exit 4) (wG r v0 v3)=some (ay v0):=ah
def V9 m r v0 v3 v4:Hr m (wH r v0 v3 v4)=ae (0≤v3∧v3<(↑r.aggs.length:Int)) (af (decide<|v4<(↑(Agg.t<|r.aggs.getD v3.toNat zr).length:Int)) (ae (0≤v3∧v3<(↑r.aggs.length:Int))<|ae (0≤v4∧v4<(↑(Agg.t<|r.aggs.getD v3.toNat zr).length:Int))<|ae ((2:Nat)*(Term.ids<|(Agg.t<|r.aggs.getD v3.toNat zr).getD v4.toNat zb).ht<m)<|ae ((Term.ids<|(Agg.t<|r.aggs.getD v3.toNat zr).getD v4.toNat zb).sz≤(2000000:Nat))<|Hr m<|wH r (IntKind.i64.wrap<|v0+wB (Term.ids<|(Agg.t<|r.aggs.getD v3.toNat zr).getD v4.toNat zb)) v3<|IntKind.i64.wrap<|v4+1)<|some (.exit 6,(wH r v0 v3 v4))):=(fU (kq 16) V2 _).trans<|by kernel_rfl
theorem al8(m r v0 v3 v4):V5 m (.exit 6) (wH r v0 v3 v4)=B3 m (wG r v0<|IntKind.i64.wrap<|v3+1):=ah
def al9 m(r:Rel)(hr:WS .rel r)(hm:2*r.ht+1<m+1)(h:r.sz≤2000000):MD m r=some (ay<|qf r):=by
 obtain⟨p1,p2⟩:=Ac r;have h3:=r.sz_eq
 have lp:=ko (e:=.exit 0) (L:=wI m) (st:=fun(n:Int) i=>qg r n i) (l:=r.kids) (d:=za) (fun n k=>bW n<|pz k) (hr.rel_kids).len
  (fun p i k hi hk hmem=>by
   have h1:=Rel.ht_kid hmem;have h2:=hU hmem;rw[V6];simp only[z8,hi,decide_true,if_true,and_true,y5,hk,Rel.ids_eq];rw[z6<|by omega,z6<|by omega,z6<|by omega]
   rfl)
  (fun n=>by rw[V6];simp[z8]) (hd1 r)
 rw[VT]at lp
 have lq:=ko (e:=.exit 2) (L:=Hq m) (st:=fun(a:Int) i=>wF r a i) (l:=r.terms) (d:=zb) (fun n k=>bW n<|rT k) (hr.rel_terms).len
  (fun a i k hi hk hmem=>by
   obtain⟨h1,h2⟩:=p1 k hmem;rw[V7];simp only[z8,hi,decide_true,if_true,and_true,y5,hk,Term.ids_eq];rw[z6<|by omega,z6<|by omega,z6<|by omega]
   rfl)
  (fun n=>by rw[V7];simp[z8]) (rU (hd1 r) r.kids)
 rw[Et]at lq
 have ls:=ko (e:=.exit 4) (L:=B3 m) (st:=fun(a:Int) i=>wG r a i) (l:=r.aggs) (d:=zr) (fun n a=>jE n a.t) (hr.rel_aggs).len
  (fun a i k hi hk hmem=>by
   have li:=ko (e:=.exit 6) (L:=Hr m) (st:=fun(a:Int) j=>wH r a i j) (l:=k.t) (d:=zb) (fun n k=>bW n<|rT k) (by have:=fG k.t;have:=vI hmem;have:=k.sz_eq;omega)
    (fun a j t hj ht htm=>by
     obtain⟨h1,h2⟩:=p2 k hmem t htm;rw[V9];simp only[hk,z8,hi,hj,decide_true,if_true,and_true,y5,ht,Term.ids_eq];rw[z6<|by omega,z6<|by omega,z6<|by omega,z6<|by omega,z6<|by omega]
     rfl)
    (fun n=>by rw[V9];simp_all[z8,y5,decide_eq_true_eq,z6,if_neg]) a
   rw[Et]at li;rw[V8];simp only[z8,hi,decide_true,if_true]
   grind[zf,trans,al8])
  (fun n=>by rw[V8];simp[z8]) (jE (rU (hd1 r) r.kids) r.terms)
 rw[VV]at ls;have e:MD m r=(wI m<|qg r (hd1 r) (0:Int)).bind (zd<|Hs m):=by
  rw[al4,z8];unfold hd1;grind
 rw[e];refine(zf lp).trans ?_;rw[al5];grind[zf,trans,al6,al7,qf,alX]
def ama(m:Nat)(hG:MC m):aj 28 (Hn<|m+1):=aU zo (M:=(mK m)) rfl ⟨hG.2,hG.1,trivial⟩ Tryz.func28 fun r=>GiF.r fun w o=>al9 m r (am w 0) (aA o 0)<|aA o 1
def ME:∀m,MC m
 |0=>⟨rO,rO⟩
 |m+1=>⟨al3 m<|ME m,ama m<|ME m⟩
def Wa:au Un:=aQ (dS .rel) fun r=>([r.sz≤2000000],ay<|qf r)
def amb:aj 28 Wa:=D3 fun m=>(ME m).2
def MF:Nat→NS:=aO [(4,{ts:=bl 41 51,bs:=bl 41 0,nm:=[],cs:=true})] true
def ov(x:List Val)(cols:List Col)(v0:Int):S Un:=(st 41 41 164 0 [(0,al .val x),(1,al .col cols),(4,ab false),(5,ai v0)] [] [])
def B6:S Un→Option (EX Un):=aC py MF Tryz.f79 [1,1,0,1,2,2] 4
def Eu:Exit→S Un→Option (RF Un):=aE py MF Tryz.f79 [1,1,0,1,2] [.d]
def Wb(x:List Val)(cols:List Col):Option (RF Un):=aw py MF Tryz.f79 0 [.d] [.d<|.v<|.dat (U:=Un) Ty.val x,.d<|.v<|.dat (U:=Un) Ty.col cols]
def amc(x cols):Wb x cols=af ((↑x.length:Int) !=(↑cols.length:Int)) (some<|ak false) (af (!sW x) (some<|ak false)<|(B6<|ov x cols (0:Int)).bind<|zd Eu):=ah
def Wc(x cols v0):B6 (ov x cols v0)=af (decide<|v0<(↑x.length:Int)) (ae (0≤v0∧v0<(↑x.length:Int))<|af ((x.getD v0.toNat z7).kind !=0) (ae (0≤v0∧v0<(↑x.length:Int))<|ae (0≤v0∧v0<(↑cols.length:Int))<|af ((x.getD v0.toNat z7).kind !=(cols.getD v0.toNat mq).type) (some (.ret,(ov x cols v0)))<|B6<|ov x cols<|IntKind.i64.wrap<|v0+1)<|B6<|ov x cols<|IntKind.i64.wrap<|v0+1) (some (.exit 0,(ov x cols v0))):=aF
def amd(x cols v0):Eu .ret (ov x cols v0)=some (ak false):=ah
def ame(x cols v0):Eu (.exit 0) (ov x cols v0)=some (ak true):=ah
def MG(x:List Val)(cols:List Col)(i:Nat):Bool:=(x.getD i z7).kind ==0||(x.getD i z7).kind ==(cols.getD i mq).type
def gj(x:List Val)(cols:List Col):Bool:=decide (x.length=cols.length)&&x.all fV&&(List.range x.length).all (MG x cols)
def amf(x:List Val)(cols:List Col)(hx:WL .val x)(_hc:WL .col cols):Wb x cols=some (ak<|gj x cols):=by
 have hlen:=hx.len;rw[amc];unfold gj;by_cases c:x.length=cols.length
 ·rw[z8,if_neg<|by grind,decide_eq_true c,dQ];have e:sW x=x.all fV:=rfl;rw[e];cases x.all fV
  ·rfl
  ·refine Eq.trans ?_ (dU (L:=B6) (st:=fun i=>ov x cols i) (C:=Eu) (e:=.exit 0) (fun b=>some (ak b)) (l:=List.range x.length) (d:=0) (MG x cols) (by grind)
    (fun i k hi hk _=>by
     rw[vt]at hi;rw[Wc];simp only[z8,hi,decide_true,if_true,and_true,y5];rw[z6<|by omega,z6<|by omega,z6<|by omega];unfold MG
     grind)
    (by rw[vt,Wc];simp[z8]) (fun i=>amd _ _ _) (fun i=>ame _ _ _))
   rfl
 ·rw[z8,if_pos<|by grind,decide_eq_false c];rfl
def MH:au Un:=aD (dL .val) (dL .col) fun x cols=>([],ak<|gj x cols)
def Wd:aj 79 MH:=aJ zi zi (M:=py) rfl ⟨UA,trivial⟩ Tryz.func79 fun x cols=>GiF.r fun w _=>amf x cols (am w 0)<|am w 1
def wJ:Mc Un:=az [(79,MH)] [] [] [] []
def qh:Nat→NS:=aO [(2,{ts:=bl 43 54,bs:=bl 43 4,nm:=[],cs:=true}),(6,{ts:=bl 43 118,bs:=bl 43 4,nm:=[],cs:=true})] true
def lv(r:Rel)(db:List Data)(v0:Int):S Un:=(st 43 43 172 0 [(1,al .data db),(2,ax 2),(4,ab false),(5,ai v0)] [(2,bg .rel r)] [])
def qi(r:Rel)(db:List Data)(v0:Int)(v1:Int):S Un:=(st 43 43 172 0 [(1,al .data db),(2,ax 2),(4,ab false),(5,ai v0),(6,ai v1)] [(2,bg .rel r)] [])
def sZ:S Un→Option (EX Un):=aC wJ qh Tryz.f78 [1,0,1,2,2] 2
noncomputable def We:Code:=sub (sub (zh Tryz.f78) [1,0,1,2,2]) [1,0,2,1,1,2,2]
def Ht:S Un→Option (EX Un):=bA (qh 6) fun s Q=>aR wJ qh We s Q
def Hu:Exit→S Un→Option (RF Un):=aE wJ qh Tryz.f78 [1,0,1,2] [.d]
def Hv:Exit→S Un→Option (EX Un):=bu wJ qh (sub (zh Tryz.f78) [1,0,1,2,2]) [1,0,2,1,1,2]<|eV (qh 2) sZ
def Wf(r:Rel)(db:List Data):Option (RF Un):=aw wJ qh Tryz.f78 0 [.d] [.d<|.agg<|enc Ty.rel r,.d<|.v<|.dat (U:=Un) Ty.data db]
def amg(r db):Wf r db=(sZ<|lv r db (0:Int)).bind (zd Hu):=ah
def Wg(r db v0):sZ (lv r db v0)=af (decide<|v0<(↑db.length:Int)) (ae (0≤v0∧v0<(↑db.length:Int))<|af (!(db.getD v0.toNat dx).table.toList ==r.table.toList) (sZ<|lv r db<|IntKind.i64.wrap<|v0+1)<|(Ht<|qi r db v0 (0:Int)).bind<|zd Hv) (some (.exit 0,(lv r db v0))):=aF
def amh(r db v0):Hu (.exit 0) (lv r db v0)=some (ak true):=ah
def Wh r db v0 v1:Ht (qi r db v0 v1)=ae (0≤v0∧v0<(↑db.length:Int)) (af (decide<|v1<(↑(db.getD v0.toNat dx).rows.length:Int)) (ae (0≤v0∧v0<(↑db.length:Int))<|ae (0≤v1∧v1<(↑(db.getD v0.toNat dx).rows.length:Int))<|af (!gj ((db.getD v0.toNat dx).rows.getD v1.toNat []) r.cols) (some (.ret,(qi r db v0 v1)))<|Ht<|qi r db v0<|IntKind.i64.wrap<|v1+1)<|some (.exit 2,(qi r db v0 v1))):=(fU (qh 6) We _).trans<|by kernel_rfl
def ami(r db v0 v1):Hv .ret (qi r db v0 v1)=some (.ret,(lv r db v0)):=ah
def amj(r db v0):Hu .ret (lv r db v0)=some (ak false):=ah
def amk(r db v0 v1):Hv (.exit 2) (qi r db v0 v1)=sZ (lv r db<|IntKind.i64.wrap<|v0+1):=ah
def wK(r:Rel)(db:List Data):Bool:=db.all fun d=>!(d.table.toList==r.table.toList)||d.rows.all fun x=>gj x r.cols
def aml(r:Rel)(db:List Data)(_hr:WS .rel r)(hd:WL .data db):Wf r db=some (ak<|wK r db):=by
 rw[amg]
 exact dU (L:=sZ) (st:=fun i=>lv r db i) (C:=Hu) (e:=.exit 0) (fun b=>some<|ak b) (l:=db) (d:=dx) (fun d=>!(d.table.toList==r.table.toList)||d.rows.all fun x=>gj x r.cols) hd.len
  (fun i d hi hk hmem=>by
   have li:=dU (L:=Ht) (st:=fun j=>qi r db i j) (C:=Hv) (e:=.exit 2) (fun b=>if b=true then sZ (lv r db<|IntKind.i64.wrap<|(i:Int)+1)else some (.ret,lv r db i)) (l:=d.rows) (d:=[]) (fun x=>gj x r.cols) (WS.data_rows<|WL.get hd hmem).len
    (fun j x hj hx _=>by
     rw[Wh];simp only[z8,hi,y5,hk,hj,hx,decide_true,if_true,and_true]
     grind[z6,gj])
    (by rw[Wh];simp_all[z8,y5,decide_eq_true_eq,z6,if_neg]) (fun j=>ami _ _ _ _) (fun j=>amk _ _ _ _)
   rw[Wg];simp only[z8,hi,y5,hk,decide_true,if_true,and_true]
   grind[z6])
  (by rw[Wg];simp[z8]) (fun i=>amj _ _ _) (fun i=>amh _ _ _)
def Wi:au Un:=aD (dS .rel) (dL .data) fun r db=>([],ak<|wK r db)
def amm:aj 78 Wi:=aJ zo zi (M:=wJ) rfl ⟨Wd,trivial⟩ Tryz.func78 fun r db=>GiF.r fun w _=>aml r db (am w 0)<|am w 1
mutual
def eR(db:List Data):Term→Bool
 | .mk _ _ _ _ _ kids sub _=>rV db kids&&Af db sub
def rV(db:List Data):List Term→Bool
 |[]=>true
 |t::l=>eR db t&&rV db l
def Wj(db:List Data):Agg→Bool
 | .mk _ _ t=>rV db t
def Ev(db:List Data):List Agg→Bool
 |[]=>true
 |a::l=>Wj db a&&Ev db l
def jn(db:List Data):Rel→Bool
 | .mk op table cols kids terms aggs keys limit skip all rows=>if op=1 then wK (.mk op table cols kids terms aggs keys limit skip all rows) db else Af db kids&&(rV db terms&&Ev db aggs)
def Af(db:List Data):List Rel→Bool
 |[]=>true
 |r::l=>jn db r&&Af db l
end
theorem Ew db:∀l:List Term,rV db l=l.all fun t=>eR db t
 |[]=>by rfl
 |t::l=>by simp only[rV,fb,Ew db l]
theorem MI db:∀l:List Rel,Af db l=l.all fun t=>jn db t
 |[]=>by rfl
 |t::l=>by simp only[Af,fb,MI db l]
theorem amn db a:Wj db a=rV db a.t:=by cases a;rfl
theorem Wk db:∀l:List Agg,Ev db l=l.all fun a=>a.t.all fun t=>eR db t
 |[]=>by rfl
 |t::l=>by simp only[Ev,fb,Wk db l,amn,Ew]
def MJ db t:eR db t=(t.kids.all (fun t=>eR db t)&&t.sub.all fun t=>jn db t):=by cases t;simp only[eR,Ew,MI,Term.kids_mk,Term.sub_mk]
def Ex db r:jn db r=if r.op=1 then wK r db else r.kids.all (fun t=>jn db t)&&(r.terms.all (fun t=>eR db t)&&r.aggs.all fun a=>a.t.all fun t=>eR db t):=by
 cases r;simp only[jn,Ew,MI,Wk,Rel.op_mk,Rel.kids_mk,Rel.terms_mk,Rel.aggs_mk];rfl
def ox(t:Term)(db:List Data):Bool:=eR db t
def mL(r:Rel)(db:List Data):Bool:=jn db r
def Hw(m:Nat):au Un:=aD (dS .term) (dL .data) fun t db=>bB (2*t.ht) m ([t.sz≤2000000],ak<|ox t db)
def Hx(m:Nat):au Un:=aD (dS .rel) (dL .data) fun r db=>bB (2*r.ht+1) m ([r.sz≤2000000],ak<|mL r db)
def wL(m:Nat):Mc Un:=az [(20,Hw m),(41,Hx m)] [] [] [] []
def B7:Nat→NS:=aO [(2,{ts:=bl 37 54,bs:=bl 37 4,nm:=[],cs:=true}),(7,{ts:=bl 37 86,bs:=bl 37 4,nm:=[],cs:=true})] true
def qj(t:Term)(db:List Data)(v0:Int):S Un:=(st 37 37 148 0 [(1,al .data db),(2,ax 2),(4,ab false),(5,ai v0)] [(2,bg .term t)] [])
def qk(t:Term)(db:List Data)(v1:Int):S Un:=(st 37 37 148 0 [(1,al .data db),(2,ax 2),(4,ab false),(6,ai v1)] [(2,bg .term t)] [])
def Hy(m:Nat):S Un→Option (EX Un):=aC (wL m) B7 Tryz.f20 [1,0,1,2,2] 2
def Hz(m:Nat):S Un→Option (EX Un):=aC (wL m) B7 Tryz.f20 [1,1,0,1,2,2] 7
def HD(m:Nat):Exit→S Un→Option (RF Un):=aE (wL m) B7 Tryz.f20 [1,0,1,2] [.d]
def HG(m:Nat):Exit→S Un→Option (RF Un):=aE (wL m) B7 Tryz.f20 [1,1,0,1,2] [.d]
def Wl(m:Nat)(t:Term)(db:List Data):Option (RF Un):=aw (wL m) B7 Tryz.f20 0 [.d] [.d<|.agg<|enc Ty.term t,.d<|.v<|.dat (U:=Un) Ty.data db]
def amo(m t db):Wl m t db=(Hy m<|qj t db (0:Int)).bind (zd<|HD m):=ah
def Wm(m t db v0):Hy m (qj t db v0)=af (decide<|v0<(↑t.kids.length:Int)) (ae (0≤v0∧v0<(↑t.kids.length:Int))<|ae ((2:Nat)*(Term.ids<|t.kids.getD v0.toNat zb).ht<m)<|ae ((Term.ids<|t.kids.getD v0.toNat zb).sz≤(2000000:Nat))<|af (!ox (Term.ids<|t.kids.getD v0.toNat zb) db) (some (.ret,(qj t db v0)))<|Hy m<|qj t db<|IntKind.i64.wrap<|v0+1) (some (.exit 0,(qj t db v0))):=aF
theorem amp(m t db v0):HD m .ret (qj t db v0)=some (ak false):=ah
theorem amq(m t db v0):HD m (.exit 0) (qj t db v0)=(Hz m<|qk t db (0:Int)).bind (zd<|HG m):=ah
def Wn(m t db v1):Hz m (qk t db v1)=af (decide<|v1<(↑t.sub.length:Int)) (ae (0≤v1∧v1<(↑t.sub.length:Int))<|ae ((2:Nat)*(Rel.ids<|t.sub.getD v1.toNat za).ht+(1:Nat)<m)<|ae ((Rel.ids<|t.sub.getD v1.toNat za).sz≤(2000000:Nat))<|af (!mL (Rel.ids<|t.sub.getD v1.toNat za) db) (some (.ret,(qk t db v1)))<|Hz m<|qk t db<|IntKind.i64.wrap<|v1+1) (some (.exit 2,(qk t db v1))):=aF
def amr(m t db v1):HG m .ret (qk t db v1)=some (ak false):=ah
def ams(m t db v1):HG m (.exit 2) (qk t db v1)=some (ak true):=ah
def amt m(t:Term)(db:List Data)(ht:WS .term t)(_hd:WL .data db)(hm:2*t.ht<m+1)(h:t.sz≤2000000):Wl m t db=some (ak<|ox t db):=by
 have lq:=dU (L:=Hz m) (st:=fun i=>qk t db i) (C:=HG m) (e:=.exit 2) (fun b=>some<|ak b) (l:=t.sub) (d:=za) (fun t=>jn db t) (ht.term_sub).len
  (fun i k hi hk hmem=>by
   have h1:=Term.ht_sub hmem;have h2:=ot hmem;rw[Wn];simp only[z8,hi,decide_true,if_true,and_true,y5,hk,Rel.ids_eq]
   grind[z6,mL,jn])
  (by rw[Wn];simp[z8]) (fun i=>amr _ _ _ _) (fun i=>ams _ _ _ _)
 rw[amo]
 refine(dU (L:=Hy m) (st:=fun i=>qj t db i) (C:=HD m) (e:=.exit 0) (fun b=>some (ak (b&&t.sub.all fun t=>jn db t))) (l:=t.kids) (d:=zb) (fun t=>eR db t) (ht.term_kids).len
  (fun i k hi hk hmem=>by
   have h1:=Term.ht_kid hmem;have h2:=oq hmem;rw[Wm];simp only[z8,hi,decide_true,if_true,and_true,y5,hk,Term.ids_eq]
   grind[z6,ox,eR])
  (by rw[Wm];simp[z8]) (fun i=>by simp[js,amp]) (fun i=>by simp_all[dQ,amq,trans])).trans ?_
 rw[ox,MJ]
abbrev MK(m:Nat):Prop:=aj 20 (Hw m)∧aj 41 (Hx m)
def amu(m:Nat)(hG:MK m):aj 20 (Hw<|m+1):=aJ zo zi (M:=(wL m)) rfl ⟨hG.1,hG.2,trivial⟩ Tryz.func20 fun t db=>GiF.r fun w o=>amt m t db (am w 0) (am w 1) (aA o 0)<|aA o 1
def mM(m:Nat):Mc Un:=az [(78,Wi),(41,Hx m),(20,Hw m)] [] [] [] []
def kr:Nat→NS:=aO [(4,{ts:=bl 75 54,bs:=bl 75 4,nm:=[],cs:=true}),(9,{ts:=bl 75 86,bs:=bl 75 4,nm:=[],cs:=true}),(14,{ts:=bl 75 150,bs:=bl 75 4,nm:=[],cs:=true}),(17,{ts:=bl 75 406,bs:=bl 75 4,nm:=[],cs:=true})] true
def ql(r:Rel)(db:List Data)(v0:Int):S Un:=(st 75 75 300 0 [(1,al .data db),(2,ax 2),(4,ab false),(5,ai v0)] [(2,bg .rel r)] [])
def qm(r:Rel)(db:List Data)(v1:Int):S Un:=(st 75 75 300 0 [(1,al .data db),(2,ax 2),(4,ab false),(6,ai v1)] [(2,bg .rel r)] [])
def mN(r:Rel)(db:List Data)(v2:Int):S Un:=(st 75 75 300 0 [(1,al .data db),(2,ax 2),(4,ab false),(7,ai v2)] [(2,bg .rel r)] [])
def qn(r:Rel)(db:List Data)(v2:Int)(v3:Int):S Un:=(st 75 75 300 0 [(1,al .data db),(2,ax 2),(4,ab false),(7,ai v2),(8,ai v3)] [(2,bg .rel r)] [])
def HH(m:Nat):S Un→Option (EX Un):=aC (mM m) kr Tryz.f41 [1,1,0,1,2,2] 4
def HO(m:Nat):S Un→Option (EX Un):=aC (mM m) kr Tryz.f41 [1,1,1,0,1,2,2] 9
def wM(m:Nat):S Un→Option (EX Un):=aC (mM m) kr Tryz.f41 [1,1,1,1,0,1,2,2] 14
noncomputable def Wo:Code:=sub (sub (zh Tryz.f41) [1,1,1,1,0,1,2,2]) [1,0,2,1,2,2]
def HP(m:Nat):S Un→Option (EX Un):=bA (kr 17) fun s Q=>aR (mM m) kr Wo s Q
def HU(m:Nat):Exit→S Un→Option (RF Un):=aE (mM m) kr Tryz.f41 [1,1,0,1,2] [.d]
def HV(m:Nat):Exit→S Un→Option (RF Un):=aE (mM m) kr Tryz.f41 [1,1,1,0,1,2] [.d]
def H0(m:Nat):Exit→S Un→Option (RF Un):=aE (mM m) kr Tryz.f41 [1,1,1,1,0,1,2] [.d]
def H1(m:Nat):Exit→S Un→Option (EX Un):=bu (mM m) kr (sub (zh Tryz.f41) [1,1,1,1,0,1,2,2]) [1,0,2,1,2]<|eV (kr 14)<|wM m
def Wp(m:Nat)(r:Rel)(db:List Data):Option (RF Un):=aw (mM m) kr Tryz.f41 0 [.d] [.d<|.agg<|enc Ty.rel r,.d<|.v<|.dat (U:=Un) Ty.data db]
def amv(m r db):Wp m r db=af (r.op==1) (some<|ak<|wK (Rel.ids r) db) ((HH m<|ql r db (0:Int)).bind<|zd<|HU m):=ah
def Wq(m r db v0):HH m (ql r db v0)=af (decide<|v0<(↑r.kids.length:Int)) (ae (0≤v0∧v0<(↑r.kids.length:Int))<|ae ((2:Nat)*(Rel.ids<|r.kids.getD v0.toNat za).ht+(1:Nat)<m)<|ae ((Rel.ids<|r.kids.getD v0.toNat za).sz≤(2000000:Nat))<|af (!mL (Rel.ids<|r.kids.getD v0.toNat za) db) (some (.ret,(ql r db v0)))<|HH m<|ql r db<|IntKind.i64.wrap<|v0+1) (some (.exit 0,(ql r db v0))):=aF
theorem amw(m r db v0):HU m .ret (ql r db v0)=some (ak false):=ah
theorem amx(m r db v0):HU m (.exit 0) (ql r db v0)=(HO m<|qm r db (0:Int)).bind (zd<|HV m):=ah
def Wr(m r db v1):HO m (qm r db v1)=af (decide<|v1<(↑r.terms.length:Int)) (ae (0≤v1∧v1<(↑r.terms.length:Int))<|ae ((2:Nat)*(Term.ids<|r.terms.getD v1.toNat zb).ht<m)<|ae ((Term.ids<|r.terms.getD v1.toNat zb).sz≤(2000000:Nat))<|af (!ox (Term.ids<|r.terms.getD v1.toNat zb) db) (some (.ret,(qm r db v1)))<|HO m<|qm r db<|IntKind.i64.wrap<|v1+1) (some (.exit 2,(qm r db v1))):=aF
theorem amy(m r db v1):HV m .ret (qm r db v1)=some (ak false):=ah
theorem amz(m r db v1):HV m (.exit 2) (qm r db v1)=(wM m<|mN r db (0:Int)).bind (zd<|H0 m):=ah
theorem Ws(m r db v2):wM m (mN r db v2)=af (decide<|v2<(↑r.aggs.length:Int)) ((HP m<|qn r db v2 (0:Int)).bind<|zd<|H1 m) (some (.exit 4,(mN r db v2))):=aF
def amA(m r db v2):H0 m (.exit 4) (mN r db v2)=some (ak true):=ah
def Wt m r db v2 v3:HP m (qn r db v2 v3)=ae (0≤v2∧v2<(↑r.aggs.length:Int)) (af (decide<|v3<(↑(Agg.t<|r.aggs.getD v2.toNat zr).length:Int)) (ae (0≤v2∧v2<(↑r.aggs.length:Int))<|ae (0≤v3∧v3<(↑(Agg.t<|r.aggs.getD v2.toNat zr).length:Int))<|ae ((2:Nat)*(Term.ids<|(Agg.t<|r.aggs.getD v2.toNat zr).getD v3.toNat zb).ht<m)<|ae ((Term.ids<|(Agg.t<|r.aggs.getD v2.toNat zr).getD v3.toNat zb).sz≤(2000000:Nat))<|af (!ox (Term.ids<|(Agg.t<|r.aggs.getD v2.toNat zr).getD v3.toNat zb) db) (some (.ret,(qn r db v2 v3)))<|HP m<|qn r db v2<|IntKind.i64.wrap<|v3+1)<|some (.exit 6,(qn r db v2 v3))):=(fU (kr 17) Wo _).trans<|by kernel_rfl
def amB(m r db v2 v3):H1 m .ret (qn r db v2 v3)=some (.ret,(mN r db v2)):=ah
def amC(m r db v2):H0 m .ret (mN r db v2)=some (ak false):=ah
def amD(m r db v2 v3):H1 m (.exit 6) (qn r db v2 v3)=wM m (mN r db<|IntKind.i64.wrap<|v2+1):=ah
def amE m(r:Rel)(db:List Data)(hr:WS .rel r)(_hd:WL .data db)(hm:2*r.ht+1<m+1)(h:r.sz≤2000000):Wp m r db=some (ak<|mL r db):=by
 obtain⟨p1,p2⟩:=Ac r;have h3:=r.sz_eq
 have l3:=dU (L:=wM m) (st:=fun i=>mN r db i) (C:=H0 m) (e:=.exit 4) (fun b=>some<|ak b) (l:=r.aggs) (d:=zr) (fun a=>a.t.all fun t=>eR db t) (hr.rel_aggs).len
  (fun i k hi hk hmem=>by
   have li:=dU (L:=HP m) (st:=fun j=>qn r db i j) (C:=H1 m) (e:=.exit 6) (fun b=>if b=true then wM m (mN r db<|IntKind.i64.wrap<|(i:Int)+1)else some (.ret,mN r db i)) (l:=k.t) (d:=zb) (fun t=>eR db t) (by have:=fG k.t;have:=vI hmem;have:=k.sz_eq;omega)
    (fun j t hj ht htm=>by
     rw[Wt];simp only[hk,z8,hi,hj,decide_true,if_true,and_true,y5,ht,Term.ids_eq]
     grind[z6,ox,eR])
    (by rw[Wt];simp_all[z8,y5,decide_eq_true_eq,z6,if_neg]) (fun j=>amB _ _ _ _ _) (fun j=>amD _ _ _ _ _)
   simp_all[Ws,z8,decide_true,if_true])
  (by rw[Ws];simp[z8]) (fun i=>amC _ _ _ _) (fun i=>amA _ _ _ _)
 have l2:=dU (L:=HO m) (st:=fun i=>qm r db i) (C:=HV m) (e:=.exit 2) (fun b=>some<|ak<|b&&r.aggs.all fun a=>a.t.all fun t=>eR db t) (l:=r.terms) (d:=zb) (fun t=>eR db t) (hr.rel_terms).len
  (fun i k hi hk hmem=>by
   rw[Wr];simp only[z8,hi,decide_true,if_true,and_true,y5,hk,Term.ids_eq]
   grind[z6,ox,eR])
  (by rw[Wr];simp[z8]) (fun i=>by simp[js,amy]) (fun i=>by simp_all[dQ,amz,trans])
 rw[amv,z8,mL,Ex];by_cases c:r.op=1
 ·simp_all[if_pos,Rel.ids_eq]
 ·rw[if_neg<|by grind,if_neg c]
  exact dU (L:=HH m) (st:=fun i=>ql r db i) (C:=HU m) (e:=.exit 0) (fun b=>some<|ak<|b&&(r.terms.all (fun t=>eR db t)&&r.aggs.all fun a=>a.t.all fun t=>eR db t)) (l:=r.kids) (d:=za) (fun t=>jn db t) (hr.rel_kids).len
   (fun i k hi hk hmem=>by
    have h1:=Rel.ht_kid hmem;have h2:=hU hmem;rw[Wq];simp only[z8,hi,decide_true,if_true,and_true,y5,hk,Rel.ids_eq]
    grind[z6,mL,jn])
   (by rw[Wq];simp[z8]) (fun i=>by simp[js,amw]) (fun i=>by simp_all[dQ,amx,trans])
def amF(m:Nat)(hG:MK m):aj 41 (Hx<|m+1):=aJ zo zi (M:=(mM m)) rfl ⟨amm,hG.2,hG.1,trivial⟩ Tryz.func41 fun r db=>GiF.r fun w o=>amE m r db (am w 0) (am w 1) (aA o 0)<|aA o 1
def ML:∀m,MK m
 |0=>⟨ew,ew⟩
 |m+1=>⟨amu m<|ML m,amF m<|ML m⟩
def Wu:au Un:=aD (dS .rel) (dL .data) fun r db=>([r.sz≤2000000],ak<|mL r db)
def amG:aj 41 Wu:=rP fun m=>(ML m).2
def Wv(k:Int):Option (RF Un):=aw av aV Tryz.f110 0 [.d] [.d<|.v<|.s<|.int .i64 k]
def amH(k):Wv k=af (k==0) (some<|ak true) (af (k==1) (some<|ak true)<|af (k==2) (some<|ak true)<|some<|ak<|k==3):=ah
def uL{σ α:Type}(f:σ→α→Option σ):σ→List α→Option σ
 |a,[]=>some a
 |a,x::l=>match f a x with|some b=>uL f b l|none=>none
def Ww{σ α β:Type}{L:S Un→Option (EX Un)}{st rt:σ→Int→S Un}{C:Exit→S Un→Option β}(R:Option σ→Option β){l:List α}{d e}(f:σ→α→Option σ)(Inv:Nat→σ→Prop)(hl:l.length≤9223372036854775807)(step:∀(a:σ)(i:Nat)(x:α),(i:Int)<(l.length:Int)→l.getD i d=x→x∈l→Inv i a→(∀b,f a x=some b→Inv (i+1) b)∧L (st a i)=match f a x with|some b=>L (st b<|IntKind.i64.wrap<|(i:Int)+1)|none=>some (.ret,rt a i))(stop:∀a,L (st a (l.length:Int))=some (e,st a (l.length:Int)))(r1:∀(a:σ)(i:Int),C .ret (rt a i)=R none)(r2:∀a,C e (st a (l.length:Int))=R (some a)) a(h0:Inv 0 a):(L<|st a 0).bind (zd C)=R (uL f a l):=by
 have key:∀(r:List α)(i:Nat)(a:σ),l.drop i=r→i≤l.length→Inv i a→(L<|st a i).bind (zd C)=R (uL f a r):=by
  intro r
  induction r with
  |nil=>
   intro i a hr hi _;have:l.length≤i:=y1o.1 hr;have e:i=l.length:=by omega
   rw[e,stop];exact r2 _
  |cons x r ih=>
   intro i a hr hi hI;have hlt:i<l.length:=by
    grind
   have hx:l.getD i d=x:=by
    have:=mg (xs:=l) (i:=i) (j:=0);grind
   have hm:x∈l:=by grind
   have hr2:l.drop (i+1)=r:=by grind[List.tail_drop]
   obtain⟨hs1,hs2⟩:=step a i x (by omega) hx hm hI;rw[hs2];simp only[uL];cases hq:f a x with
   |none=>exact r1 _ _
   |some b=>
    grind[eW]
 grind
def fW(k:Int):Bool:=decide<|k=0∨k=1∨k=2∨k=3
def amI k(_h:WI k):Wv k=some (ak<|fW k):=by
 rw[amH];unfold fW;simp only[z8,beq_iff_eq];grind
def Ey:au Un:=aQ (dI .i64) fun k=>([],ak<|fW k)
def MM:aj 110 Ey:=aU zn (M:=av) rfl trivial Tryz.func110 fun k=>GiF.r fun w _=>amI k<|am w 0
def Wx:Mc Un:=az [(110,Ey)] [] [] [] []
def Wy(a:Int)(b:Int):Option (RF Un):=aw Wx aV Tryz.f108 0 [.d] [.d<|.v<|.s<|.int .i64 a,.d<|.v<|.s<|.int .i64 b]
def amJ(a b):Wy a b=af (fW a) (af (fW b) (af (a==b) (some<|ak true)<|af (a==0) (some<|ak true)<|some<|ak<|b==0)<|some<|ak false) (some<|ak false):=ah
def iW(a b:Int):Bool:=fW a&&fW b&&decide (a=b∨a=0∨b=0)
def amK a b(_ha:WI a)(_hb:WI b):Wy a b=some (ak<|iW a b):=by
 rw[amJ];unfold iW;cases fW a
 ·rfl
 cases fW b
 ·rfl
 simp only[z8,if_true,beq_iff_eq];grind
def H2:au Un:=aD (dI .i64) (dI .i64) fun a b=>([],ak<|iW a b)
def H3:aj 108 H2:=aJ zn zn (M:=Wx) rfl ⟨MM,trivial⟩ Tryz.func108 fun a b=>GiF.r fun w _=>amK a b (am w 0)<|am w 1
def uM:Mc Un:=az [(108,H2)] [] [] [] []
def aG(r:Int×Bool):RF Un:=([.c<|.s<|.int .i64 r.1,.c<|.s<|.bool r.2],[])
def Wz(a:Int)(b:Int):Option (RF Un):=aw uM aV Tryz.f61 0 [.d,.d] [.d<|.v<|.s<|.int .i64 a,.d<|.v<|.s<|.int .i64 b]
def amL(a b):Wz a b=af (!iW a b) (some<|aG ((0:Int),false)) (af (a==0) (some<|aG (b,true))<|some<|aG (a,true)):=ah
def hY(a b:Int):Int×Bool:=if iW a b=true then(if a=0 then(b,true)else(a,true))else(0,false)
def amM a b(_ha:WI a)(_hb:WI b):Wz a b=some (aG<|hY a b):=by
 rw[amL];unfold hY;cases iW a b
 ·rfl
 ·rw[vr,z8,if_neg<|by simp,z8,if_pos rfl];grind
def Ez:au Un:=aD (dI .i64) (dI .i64) fun a b=>([],aG<|hY a b)
def MN:aj 61 Ez:=aJ zn zn (M:=uM) rfl ⟨H3,trivial⟩ Tryz.func61 fun a b=>GiF.r fun w _=>amM a b (am w 0)<|am w 1
def qo(l:List Int)(k:Int)(v0:Int):S Un:=(st 19 19 76 0 [(0,al .int l),(1,ai k),(4,ab false),(5,ai v0)] [] [])
def H4:S Un→Option (EX Un):=aC uM uH Tryz.f106 [1,0,1,2,2] 2
def H5:Exit→S Un→Option (RF Un):=aE uM uH Tryz.f106 [1,0,1,2] [.d]
def WA(l:List Int)(k:Int):Option (RF Un):=aw uM uH Tryz.f106 0 [.d] [.d<|.v<|.dat (U:=Un) Ty.int l,.d<|.v<|.s<|.int .i64 k]
def amN(l k):WA l k=(H4<|qo l k (0:Int)).bind (zd H5):=ah
def WB(l k v0):H4 (qo l k v0)=af (decide<|v0<(↑l.length:Int)) (ae (0≤v0∧v0<(↑l.length:Int))<|af (!iW (l.getD v0.toNat (0:Int)) k) (some (.ret,(qo l k v0)))<|H4<|qo l k<|IntKind.i64.wrap<|v0+1) (some (.exit 0,(qo l k v0))):=aF
def amO(l k v0):H5 .ret (qo l k v0)=some (ak false):=ah
def amP(l k v0):H5 (.exit 0) (qo l k v0)=some (ak true):=ah
def cH(l:List Int)(k:Int):Bool:=l.all fun a=>iW a k
def amQ(l:List Int) k(hl:WL .int l)(_hk:WI k):WA l k=some (ak<|cH l k):=by
 rw[amN]
 exact dU (L:=H4) (st:=fun i=>qo l k i) (C:=H5) (e:=.exit 0) (fun b=>some<|ak b) (l:=l) (d:=0) (fun a=>iW a k) hl.len
  (fun i x hi hx _=>by
   rw[WB];simp only[z8,hi,decide_true,if_true,and_true,y5,hx]
   grind[z6,iW])
  (by rw[WB];simp[z8]) (fun i=>amO _ _ _) (fun i=>amP _ _ _)
def MO:au Un:=aD (dL .int) (dI .i64) fun l k=>([],ak<|cH l k)
def WC:aj 106 MO:=aJ zi zn (M:=uM) rfl ⟨H3,trivial⟩ Tryz.func106 fun l k=>GiF.r fun w _=>amQ l k (am w 0)<|am w 1
def H6:Mc Un:=az [(61,Ez)] [] [] [] []
def MP:Nat→NS:=aO [(3,{ts:=bl 27 61,bs:=bl 27 0,nm:=[],cs:=true})] true
def oy(l:List Int)(v0:Int)(v1:Int):S Un:=(st 27 27 108 0 [(0,al .int l),(2,ai (0:Int)),(3,ab false),(4,ai v0),(5,ai v1)] [] [])
def H7:S Un→Option (EX Un):=aC H6 MP Tryz.f107 [1,1,0,1,2,2] 3
def H8:Exit→S Un→Option (RF Un):=aE H6 MP Tryz.f107 [1,1,0,1,2] [.d,.d]
def WD(l:List Int):Option (RF Un):=aw H6 MP Tryz.f107 0 [.d,.d] [.d<|.v<|.dat (U:=Un) Ty.int l]
def amR(l):WD l=(H7<|oy l (0:Int) (0:Int)).bind (zd H8):=ah
def WE(l v0 v1):H7 (oy l v0 v1)=af (decide<|v1<(↑l.length:Int)) (ae (0≤v1∧v1<(↑l.length:Int))<|af (!(hY v0<|l.getD v1.toNat (0:Int)).snd) (some (.ret,(oy l v0 v1)))<|H7<|oy l ((hY v0<|l.getD v1.toNat (0:Int)).fst)<|IntKind.i64.wrap<|v1+1) (some (.exit 0,(oy l v0 v1))):=aF
def amS(l v0 v1):H8 .ret (oy l v0 v1)=some (aG ((0:Int),false)):=ah
def amT(l v0 v1):H8 (.exit 0) (oy l v0 v1)=some (aG (v0,true)):=ah
def MQ(k x:Int):Option Int:=if(hY k x).2=true then some (hY k x).1 else none
def gl(l:List Int):Int×Bool:=match uL MQ 0 l with|some k=>(k,true)|none=>(0,false)
def amU(l:List Int)(hl:WL .int l):WD l=some (aG<|gl l):=by
 rw[amR]
 exact Ww (L:=H7) (st:=fun(k:Int) i=>oy l k i) (C:=H8) (e:=.exit 0) (rt:=fun(k:Int) i=>oy l k i) (fun o=>some<|aG (match o with|some k=>(k,true)|none=>(0,false))) (l:=l) (d:=0) MQ (fun _ _=>True) hl.len
  (fun a i x hi hx _ _=>by
   rw[WE];simp only[z8,hi,decide_true,if_true,and_true,y5,hx]
   grind[z6,MQ,hY])
  (fun a=>by rw[WE];simp[z8]) (fun a i=>amS _ _ _) (fun a=>amT _ _ _) 0 trivial
def H9:au Un:=aQ (dL .int) fun l=>([],aG<|gl l)
def Qx:aj 107 H9:=aU zi (M:=H6) rfl ⟨MN,trivial⟩ Tryz.func107 fun l=>GiF.r fun w _=>amU l<|am w 0
def WF(k:Int)(ok:Bool):Option (RF Un):=aw av aV Tryz.f105 0 [.d,.d] [.d<|.v<|.s<|.int .i64 k,.d<|.v<|cb ok]
def amV(k ok):WF k ok=af (!ok) (some<|aS ((0:Int),(9:Int))) (some<|aS (k,(0:Int))):=ah
def zx(k:Int)(ok:Bool):Int×Int:=if ok=true then(k,0)else(0,9)
def amW k ok(_hk:WI k):WF k ok=some (aS<|zx k ok):=by
 rw[amV];cases ok<;>rfl
def B8:au Un:=aD (dI .i64) dB fun k ok=>([],aS<|zx k ok)
def Ia:aj 105 B8:=aJ zn mu (M:=av) rfl trivial Tryz.func105 fun k ok=>GiF.r fun w _=>amW k ok<|am w 0
def WG(op:Int):Option (RF Un):=aw av aV Tryz.f109 0 [.d,.d] [.d<|.v<|.s<|.int .i64 op]
def amX(op):WG op=af (op==3) (some<|aS ((1:Int),(1:Int))) (af (op==4) (some<|aS ((1:Int),(1:Int)))<|af (op==19) (some<|aS ((1:Int),(1:Int)))<|af (op==21) (some<|aS ((2:Int),(1152921504606846976:Int)))<|af (op==23) (some<|aS ((2:Int),(1152921504606846976:Int)))<|af (op==22) (some<|aS ((3:Int),(3:Int)))<|af (decide<|op≥5) (af (decide<|op≤18) (some<|aS ((2:Int),(2:Int)))<|af (op==20) (some<|aS ((2:Int),(2:Int)))<|some<|aS ((0:Int),(0:Int)))<|af (op==20) (some<|aS ((2:Int),(2:Int)))<|some<|aS ((0:Int),(0:Int))):=ah
def s5(op:Int):Int×Int:=
 if op=3∨op=4∨op=19 then(1,1)else if op=21∨op=23 then(2,1152921504606846976)else if op=22 then(3,3)else if(5≤op∧op≤18)∨op=20 then(2,2)else(0,0)
def amY op(_h:WI op):WG op=some (aS<|s5 op):=by
 rw[amX];unfold s5;simp only[z8,beq_iff_eq,decide_eq_true_eq,ge_iff_le];grind
def WH:au Un:=aQ (dI .i64) fun op=>([],aS<|s5 op)
def amZ:aj 109 WH:=aU zn (M:=av) rfl trivial Tryz.func109 fun op=>GiF.r fun w _=>amY op<|am w 0
end
end B
end Go.Proofs.YtjfpbchdcbhfgaaGreat
