/- Part 9 of the proof: Slight2 Slight3 Slight4. -/
import Derived.Test.YtjfpbchdcbhfgaaGreatNth8
set_option linter.unusedVariables false
set_option linter.unusedSimpArgs false
namespace Go.Proofs.YtjfpbchdcbhfgaaGreat
namespace B
open Go Go.RowKit
set_option maxRecDepth 100000
noncomputable section
attribute [local irreducible] awp ctxK zu z1d retQ z1p awf ctxF z1o
def z13f : Nat→NS:=nsF_ [(3,{ ts:=bl 29 99,bs:=bl 29 0,nm:=[],cs:=true })] true
def zcb (table:ByteArray) (db:List Data) (v0:Int) (v1:Int) : S Un:=(st 29 29 116 0 [(0,at_ table),(1,al .data db),(5,ai v0),(6,ai v1)] [] [])
def zig : S Un→Option (EX Un):=lpF_ z1du z13f Tryz.f64 [1,1,0,1,2,2] 3
def z1eo : Exit→S Un→Option (RF Un):=cxF_ z1du z13f Tryz.f64 [1,1,0,1,2] [.d]
def z1ep (table:ByteArray) (db:List Data) : Option (RF Un):=fnF_ z1du z13f Tryz.f64 0 [.d] [.d (.v (cs table)),.d (.v (.dat (U:=Un) Ty.data db))]
theorem z26q (table:ByteArray) (db:List Data) : z1ep table db=(zig (zcb table db (0:Int) (0:Int))).bind (zd z1eo):=by kernel_rfl
theorem z1eq (table:ByteArray) (db:List Data) (v0:Int) (v1:Int) : zig (zcb table db v0 v1)=cndO (decide (v1<(↑db.length:Int))) (obO (0≤v1∧v1<(↑db.length:Int)) (cndO ((db.getD v1.toNat z3e).table.toList == table.toList) (obO (0≤v1∧v1<(↑db.length:Int)) (zig (zcb table db (IntKind.i64.wrap (v0+(↑(db.getD v1.toNat z3e).rows.length:Int))) (IntKind.i64.wrap (v1+1))))) (zig (zcb table db v0 (IntKind.i64.wrap (v1+1)))))) (some (.exit 0,(zcb table db v0 v1))):=lpQ_ (by kernel_rfl)
theorem z1rr (table:ByteArray) (db:List Data) (v0:Int) (v1:Int) : z1eo (.exit 0) (zcb table db v0 v1)=some (z2f (v0)):=by kernel_rfl
theorem zb1 {σ α:Type} {L:S Un→Option (EX Un)} {st:σ→Int→S Un} {l:List α} {d:α} (g:σ→α→σ) {e:Exit} (hl:l.length≤9223372036854775807)
  (step:∀ (a:σ) (i:Nat) (x:α),(i:Int)<(l.length:Int)→l.getD i d=x→x∈l→L (st a i)=L (st (g a x) (IntKind.i64.wrap ((i:Int)+1))))
  (stop:∀ a,L (st a (l.length:Int))=some (e,st a (l.length:Int))) (a:σ) : L (st a (0:Int))=some (e,st (l.foldl g a) (l.length:Int)) :=
 (z1q (e:=e) (L:=L) (st:=st) (l:=l) (d:=d) (g:=g) (fun _ _=>True) hl (fun a i x hi hx _=>⟨trivial,step a i x hi hx (by rw[← hx];exact z61 (by omega))⟩) (fun a _=>stop a) a trivial).1
def addI (n x:Int) : Int:=IntKind.i64.wrap (n+x)
def minI (a b:Int) : Int:=List.foldl (fun a b=>if b<a then b else a) a [b]
def zm3 (table:ByteArray) (n:Int) (d:Data) : Int:=if (d.table.toList == table.toList)=true then addI n d.rows.length else n
def zcc (table:ByteArray) (db:List Data) : Int:=db.foldl (zm3 table) 0
theorem z1xt (table:ByteArray) (db:List Data) (_ht:WStr table) (hd:WL .data db) : z1ep table db=some (z2f (zcc table db)):=by
 have lp:=zb1 (e:=.exit 0) (L:=zig) (st:=fun (n:Int) i=>zcb table db n i) (l:=db) (d:=z3e) (zm3 table) hd.len
  (fun n i k hi hk _=>by
   rw[z1eq];simp only[z8,hi,decide_true,if_true,and_true,y5,hk];rw[z6 (by omega),z6 (by omega)];unfold zm3;by_cases c : (k.table.toList == table.toList)=true
   ·rw[if_pos c,if_pos c];rfl
   ·rw[if_neg c,if_neg c])
  (fun n=>by rw[z1eq];simp [z8]) 0
 rw[z26q];refine (zg lp).trans ?_;rw[z1rr];rfl
def z1m4 : FnC Un:=fnF2 dStr (dL .data) fun table db=>([],z2f (zcc table db))
theorem z26r : FnOK 64 z1m4:=fnK2 z43 z10 (M:=z1du) rfl trivial trivial trivial trivial trivial Tryz.func64 fun table db=>GiF.r fun w _=>z1xt table db (wfA_ w 0) (wfA_ w 1)
def z17x (op held rl n:Int) (rows:List Int) (asks:Int) : Int×Int :=
 let out (i o:Int) : Int×Int:=(minI o 1048576,minI (addI n (IntKind.i64.wrap (minI i 1048576*minI asks 1048576))) 1048576)
 if op=1 then out held held
 else if rows.length=0 then out rl rl
 else if rows.length=1 then out (rows.getD 0 0) (maxI (rows.getD 0 0) 1)
 else if op=5∨op=6 then out (IntKind.i64.wrap (rows.getD 0 0*maxI (rows.getD 1 0) 1)) (IntKind.i64.wrap (rows.getD 0 0*maxI (rows.getD 1 0) 1))
 else out (IntKind.i64.wrap (rows.getD 0 0+rows.getD 1 0)) (IntKind.i64.wrap (rows.getD 0 0+rows.getD 1 0))
mutual
def wghT (db:List Data) : Term→Int
 | .mk _ _ _ _ _ kids sub _=>z1bw db (z13g db 0 kids) sub
def z13g (db:List Data) : Int→List Term→Int
 | n,[]=>n
 | n,t::l=>z13g db (capI n (wghT db t)) l
def zh3 (db:List Data) : Int→List Term→Int
 | n,[]=>n
 | n,t::l=>zh3 db (addI n (wghT db t)) l
def askA (db:List Data) : Int→Agg→Int
 | n,.mk _ _ t=>zh3 db n t
def zm4 (db:List Data) : Int→List Agg→Int
 | n,[]=>n
 | n,a::l=>zm4 db (askA db n a) l
def wghR (db:List Data) : Rel→Int×Int
 | .mk op table _ kids terms aggs _ _ _ _ rows=>z17x op (zcc table db) rows.length ((z1bv db kids).foldl (fun n p=>addI n p.2) 0) ((z1bv db kids).map (·.1)) (zm4 db (zh3 db 1 terms) aggs)
def z1bv (db:List Data) : List Rel→List (Int×Int)
 | []=>[]
 | r::l=>wghR db r::z1bv db l
def z1bw (db:List Data) : Int→List Rel→Int
 | n,[]=>n
 | n,r::l=>z1bw db (capI n (wghR db r).2) l
end
theorem ztd (db:List Data) : ∀ (l:List Term) (n:Int),l.foldl (fun n t=>capI n (wghT db t)) n=z13g db n l
 | [],n=>by simp only[y1q,z13g]
 | t::l,n=>by rw[yr,ztd db l,z13g]
theorem z99 (db:List Data) : ∀ (l:List Term) (n:Int),l.foldl (fun n t=>addI n (wghT db t)) n=zh3 db n l
 | [],n=>by simp only[y1q,zh3]
 | t::l,n=>by rw[yr,z99 db l,zh3]
theorem z295 (db:List Data) (n:Int) (a:Agg) : askA db n a=zh3 db n a.t:=by cases a;simp only[askA,Agg.t_mk]
theorem z1m5 (db:List Data) : ∀ (l:List Agg) (n:Int),l.foldl (fun n a=>zh3 db n a.t) n=zm4 db n l
 | [],n=>by simp only[y1q,zm4]
 | t::l,n=>by rw[yr,z1m5 db l,zm4,z295]
theorem zte (db:List Data) : ∀ (l:List Rel) (n:Int),l.foldl (fun n t=>capI n (wghR db t).2) n=z1bw db n l
 | [],n=>by simp only[y1q,z1bw]
 | t::l,n=>by rw[yr,zte db l,z1bw]
theorem z1vh (db:List Data) : ∀ l : List Rel,z1bv db l=l.map (wghR db)
 | []=>by simp only[z1bv,y1k]
 | r::l=>by rw[z1bv,z1vh db l,yu]
theorem z1rs (db:List Data) (t:Term) : wghT db t=z1bw db (z13g db 0 t.kids) t.sub:=by cases t;simp only[wghT,Term.kids_mk,Term.sub_mk]
theorem z296 (db:List Data) (r:Rel) : wghR db r=z17x r.op (zcc r.table db) r.rows.length (r.kids.foldl (fun n k=>addI n (wghR db k).2) 0) (r.kids.map fun k=>(wghR db k).1) (zm4 db (zh3 db 1 r.terms) r.aggs):=by
 cases r;simp only[wghR,z1vh,List.foldl_map,List.map_map,Rel.op_mk,Rel.table_mk,Rel.kids_mk,Rel.terms_mk,Rel.aggs_mk,Rel.rows_mk];rfl
def zh4 (t:Term) (db:List Data) : Int:=wghT db t
def z6q (r:Rel) (db:List Data) : Int×Int:=wghR db r
theorem z1vi (db:List Data) : ∀ (l:List Rel) (n:Int) (x:List Int),l.foldl (fun (p:Int×List Int) k=>(addI p.1 (wghR db k).2,p.2++[(wghR db k).1])) (n,x)=(l.foldl (fun n k=>addI n (wghR db k).2) n,x++l.map fun k=>(wghR db k).1)
 | [],n,x=>by simp
 | r::l,n,x=>by rw[yr,z1vi db l,yr,yu,y12];rfl
theorem zva (r:Rel) : (∀ t∈r.terms,t.ht<r.ht∧t.sz<r.sz)∧∀ a∈r.aggs,∀ t∈a.t,t.ht<r.ht∧t.sz<r.sz:=by
 have h5:htTs r.terms<r.ht∧htAs r.aggs<r.ht:=by cases r;simp only[Rel.ht,Rel.terms_mk,Rel.aggs_mk];omega
 have h3:=r.sz_eq;refine⟨fun t h=>⟨by have:=zc6 h;omega,by have:=zka h;omega⟩,fun a ha t h=>?_⟩;have h1:=z130 ha;have h2:=zo8 ha;have h6:=a.sz_eq;have h7:=zc6 h;have h8:=zka h;have h9:htTs a.t<a.ht:=by cases a;simp only[Agg.t_mk,Agg.ht];omega
 exact⟨by omega,by omega⟩
def zj8 (m:Nat) : FnC Un:=fnF2 (dS .term) (dL .data) fun t db=>z2m (2*t.ht) m ([t.sz≤2000000],z2f (zh4 t db))
def z83 (r:Int×Int) : RF Un:=([.c (.s (.int .i64 r.1)),.c (.s (.int .i64 r.2))],[])
def zj9 (m:Nat) : FnC Un:=fnF2 (dS .rel) (dL .data) fun r db=>z2m (2*r.ht+1) m ([r.sz≤2000000],z83 (z6q r db))
def zcy (m:Nat) : Mc Un:=mcF_ [(34,zj8 m),(29,zj9 m)] [] [] [] []
def zfz : Nat→NS:=nsF_ [(3,{ ts:=bl 49 102,bs:=bl 49 4,nm:=[],cs:=true }),(7,{ ts:=bl 49 166,bs:=bl 49 4,nm:=[],cs:=true })] true
def zb2 (t:Term) (db:List Data) (v0:Int) (v1:Int) : S Un:=(st 49 49 196 0 [(1,al .data db),(2,ax 2),(5,ai v0),(6,ai v1)] [(2,bg .term t)] [])
def zb3 (t:Term) (db:List Data) (v0:Int) (v2:Int) : S Un:=(st 49 49 196 0 [(1,al .data db),(2,ax 2),(5,ai v0),(7,ai v2)] [(2,bg .term t)] [])
def zja (m:Nat) : S Un→Option (EX Un):=lpF_ (zcy m) zfz Tryz.f34 [1,1,0,1,2,2] 3
def zjb (m:Nat) : S Un→Option (EX Un):=lpF_ (zcy m) zfz Tryz.f34 [1,1,1,0,1,2,2] 7
def z14s (m:Nat) : Exit→S Un→Option (RF Un):=cxF_ (zcy m) zfz Tryz.f34 [1,1,0,1,2] [.d]
def z14t (m:Nat) : Exit→S Un→Option (RF Un):=cxF_ (zcy m) zfz Tryz.f34 [1,1,1,0,1,2] [.d]
def z14u (m:Nat) (t:Term) (db:List Data) : Option (RF Un):=fnF_ (zcy m) zfz Tryz.f34 0 [.d] [.d (.agg (enc Ty.term t)),.d (.v (.dat (U:=Un) Ty.data db))]
theorem z1xu (m:Nat) (t:Term) (db:List Data) : z14u m t db=(zja m (zb2 t db (0:Int) (0:Int))).bind (zd (z14s m)):=by kernel_rfl
theorem z14v (m:Nat) (t:Term) (db:List Data) (v0:Int) (v1:Int) : zja m (zb2 t db v0 v1)=cndO (decide (v1<(↑t.kids.length:Int))) (obO (0≤v1∧v1<(↑t.kids.length:Int)) (obO ((2:Nat)*(Term.ids (t.kids.getD v1.toNat zb)).ht<m) (obO ((Term.ids (t.kids.getD v1.toNat zb)).sz≤(2000000:Nat)) (zja m (zb2 t db (List.foldl (fun a b=>if b<a then b else a) (IntKind.i64.wrap (v0+zh4 (Term.ids (t.kids.getD v1.toNat zb)) db)) [(1048576:Int)]) (IntKind.i64.wrap (v1+1))))))) (some (.exit 0,(zb2 t db v0 v1))):=lpQ_ (by kernel_rfl)
theorem z1hz (m:Nat) (t:Term) (db:List Data) (v0:Int) (v1:Int) : z14s m (.exit 0) (zb2 t db v0 v1)=(zjb m (zb3 t db v0 (0:Int))).bind (zd (z14t m)):=by kernel_rfl
theorem z14w (m:Nat) (t:Term) (db:List Data) (v0:Int) (v2:Int) : zjb m (zb3 t db v0 v2)=cndO (decide (v2<(↑t.sub.length:Int))) (obO (0≤v2∧v2<(↑t.sub.length:Int)) (obO ((2:Nat)*(Rel.ids (t.sub.getD v2.toNat za)).ht+(1:Nat)<m) (obO ((Rel.ids (t.sub.getD v2.toNat za)).sz≤(2000000:Nat)) (zjb m (zb3 t db (List.foldl (fun a b=>if b<a then b else a) (IntKind.i64.wrap (v0+(z6q (Rel.ids (t.sub.getD v2.toNat za)) db).snd)) [(1048576:Int)]) (IntKind.i64.wrap (v2+1))))))) (some (.exit 2,(zb3 t db v0 v2))):=lpQ_ (by kernel_rfl)
theorem z1i0 (m:Nat) (t:Term) (db:List Data) (v0:Int) (v2:Int) : z14t m (.exit 2) (zb3 t db v0 v2)=some (z2f (v0)):=by kernel_rfl
theorem z1m6 (m:Nat) (t:Term) (db:List Data) (ht:WS .term t) (_hd:WL .data db) (hm:2*t.ht<m+1) (h:t.sz≤2000000) : z14u m t db=some (z2f (zh4 t db)):=by
 have lp:=zb1 (e:=.exit 0) (L:=zja m) (st:=fun (n:Int) i=>zb2 t db n i) (l:=t.kids) (d:=zb) (fun n k=>capI n (wghT db k)) (ht.term_kids).len
  (fun n i k hi hk hmem=>by
   have h1:=Term.ht_kid hmem;have h2:=zlv hmem;rw[z14v];simp only[z8,hi,decide_true,if_true,and_true,y5,hk,Term.ids_eq];rw[z6 (by omega),z6 (by omega),z6 (by omega)]
   rfl)
  (fun n=>by rw[z14v];simp [z8]) 0
 rw[ztd] at lp
 have lq:=zb1 (e:=.exit 2) (L:=zjb m) (st:=fun (n:Int) i=>zb3 t db n i) (l:=t.sub) (d:=za) (fun n k=>capI n (wghR db k).2) (ht.term_sub).len
  (fun n i k hi hk hmem=>by
   have h1:=Term.ht_sub hmem;have h2:=zlw hmem;rw[z14w];simp only[z8,hi,decide_true,if_true,and_true,y5,hk,Rel.ids_eq];rw[z6 (by omega),z6 (by omega),z6 (by omega)]
   rfl)
  (fun n=>by rw[z14w];simp [z8]) (z13g db 0 t.kids)
 rw[zte] at lq;rw[z1xu];refine (zg lp).trans ?_;rw[z1hz];refine (zg lq).trans ?_;rw[z1i0,zh4,z1rs]
abbrev z17y (m:Nat) : Prop:=FnOK 34 (zj8 m)∧FnOK 29 (zj9 m)
theorem z1rt (m:Nat) (hG:z17y m) : FnOK 34 (zj8 (m+1)):=fnK2 zq z10 (M:=(zcy m)) rfl ⟨hG.1,hG.2,trivial⟩ trivial trivial trivial trivial Tryz.func34 fun t db=>GiF.r fun w o=>z1m6 m t db (wfA_ w 0) (wfA_ w 1) (obA_ o 0) (obA_ o 1)
def z5i (m:Nat) : Mc Un:=mcF_ [(29,zj9 m),(34,zj8 m),(64,z1m4)] [] [] [] []
def z48 : Nat→NS:=nsF_ [(3,{ ts:=bl 156 454,bs:=bl 156 4,nm:=[(.sl 6,624)],cs:=true }),(10,{ ts:=bl 156 6342,bs:=bl 156 4,nm:=[(.sl 6,625)],cs:=true }),(14,{ ts:=bl 156 10438,bs:=bl 156 4,nm:=[(.sl 6,626)],cs:=true }),(17,{ ts:=bl 156 26822,bs:=bl 156 4,nm:=[(.sl 6,627)],cs:=true })] true
def zee (r:Rel) (db:List Data) (v1:Int):=z6q (Rel.mk (Rel.op (r.kids.getD v1.toNat za)) (Rel.table (r.kids.getD v1.toNat za)) (Rel.cols (r.kids.getD v1.toNat za)) (Rel.kids (r.kids.getD v1.toNat za)) (Rel.terms (r.kids.getD v1.toNat za)) (Rel.aggs (r.kids.getD v1.toNat za)) (Rel.keys (r.kids.getD v1.toNat za)) (Rel.limit (r.kids.getD v1.toNat za)) (Rel.skip (r.kids.getD v1.toNat za)) (Rel.all (r.kids.getD v1.toNat za)) (Rel.rows (r.kids.getD v1.toNat za))) db
def zb4 (r:Rel) (db:List Data) (v0:Int) (v1:Int) (v2:List Int) : S Un:=(st 156 156 628 0 [(1,al .data db),(2,ax 2),(6,ao 624),(7,ai v0),(8,ai v1)] [(2,bg .rel r)] [(624,some ⟨(0:Nat),Ty.int,v2,some (0:Nat),true⟩)])
def za2 (r:Rel) (db:List Data) (v0:Int) (v2:List Int) (v3:Int) (v4:Int) : S Un:=(st 156 156 628 0 [(1,al .data db),(2,ax 2),(6,ao 625),(7,ai v0),(11,ai v3),(12,ai v4)] [(2,bg .rel r)] [(625,some ⟨(0:Nat),Ty.int,v2,some (0:Nat),true⟩)])
def za3 (r:Rel) (db:List Data) (v0:Int) (v3:Int) (v2:List Int) (v5:Int) : S Un:=(st 156 156 628 0 [(1,al .data db),(2,ax 2),(6,ao 626),(7,ai v0),(11,ai v3),(13,ai v5)] [(2,bg .rel r)] [(626,some ⟨(0:Nat),Ty.int,v2,some (0:Nat),true⟩)])
def za4 (r:Rel) (db:List Data) (v0:Int) (v3:Int) (v5:Int) (v2:List Int) (v6:Int) : S Un:=(st 156 156 628 0 [(1,al .data db),(2,ax 2),(6,ao 627),(7,ai v0),(11,ai v3),(13,ai v5),(14,ai v6)] [(2,bg .rel r)] [(627,some ⟨(0:Nat),Ty.int,v2,some (0:Nat),true⟩)])
def zjc (m:Nat) : S Un→Option (EX Un):=lpF_ (z5i m) z48 Tryz.f29 [1,1,0,1,2,2] 3
def zh5 (m:Nat) : S Un→Option (EX Un):=lpF_ (z5i m) z48 Tryz.f29 [1,1,1,1,0,1,2,2] 10
def zcz (m:Nat) : S Un→Option (EX Un):=lpF_ (z5i m) z48 Tryz.f29 [1,1,1,1,1,0,1,2,2] 14
noncomputable def z10t : Code:=sub (sub (ze Tryz.f29) [1,1,1,1,1,0,1,2,2]) [1,0,2,1,2,2]
def zh6 (m:Nat) : S Un→Option (EX Un):=z1o (z48 17) (fun s Q=>awf (z5i m) z48 z10t s Q)
def z14x (m:Nat) : Exit→S Un→Option (RF Un):=cxF_ (z5i m) z48 Tryz.f29 [1,1,0,1,2] [.d,.d]
def z10u (m:Nat) : Exit→S Un→Option (RF Un):=cxF_ (z5i m) z48 Tryz.f29 [1,1,1,1,0,1,2] [.d,.d]
def z10v (m:Nat) : Exit→S Un→Option (RF Un):=cxF_ (z5i m) z48 Tryz.f29 [1,1,1,1,1,0,1,2] [.d,.d]
def z10w (m:Nat) : Exit→S Un→Option (EX Un):=ctxF (z5i m) z48 (sub (ze Tryz.f29) [1,1,1,1,1,0,1,2,2]) [1,0,2,1,2] (zcp (z48 14) (zcz m))
def z14y (m:Nat) (r:Rel) (db:List Data) : Option (RF Un):=fnF_ (z5i m) z48 Tryz.f29 4 [.d,.d] [.d (.agg (enc Ty.rel r)),.d (.v (.dat (U:=Un) Ty.data db))]
theorem z1xv (m:Nat) (r:Rel) (db:List Data) : z14y m r db=(zjc m (zb4 r db (0:Int) (0:Int) ([]))).bind (zd (z14x m)):=by kernel_rfl
theorem z14z (m:Nat) (r:Rel) (db:List Data) (v0:Int) (v1:Int) (v2:List Int) : zjc m (zb4 r db v0 v1 v2)=cndO (decide (v1<(↑r.kids.length:Int))) (obO (0≤v1∧v1<(↑r.kids.length:Int)) (obO ((2:Nat)*(Rel.ids (r.kids.getD v1.toNat za)).ht+(1:Nat)<m) (obO ((Rel.ids (r.kids.getD v1.toNat za)).sz≤(2000000:Nat)) (obO ((v2.length+[(zee r db v1).fst].length)*(8:Nat)≤zi) (zjc m (zb4 r db (IntKind.i64.wrap (v0+(zee r db v1).snd)) (IntKind.i64.wrap (v1+1)) (v2++[(zee r db v1).fst]))))))) (some (.exit 0,(zb4 r db v0 v1 v2))):=lpQ_ (by kernel_rfl)
theorem z1i1 (m:Nat) (r:Rel) (db:List Data) (v0:Int) (v1:Int) (v2:List Int) : z14x m (.exit 0) (zb4 r db v0 v1 v2)=(zh5 m (za2 r db v0 v2 (1:Int) (0:Int))).bind (zd (z10u m)):=by kernel_rfl
theorem z10x (m:Nat) (r:Rel) (db:List Data) (v0:Int) (v2:List Int) (v3:Int) (v4:Int) : zh5 m (za2 r db v0 v2 v3 v4)=cndO (decide (v4<(↑r.terms.length:Int))) (obO (0≤v4∧v4<(↑r.terms.length:Int)) (obO ((2:Nat)*(Term.ids (r.terms.getD v4.toNat zb)).ht<m) (obO ((Term.ids (r.terms.getD v4.toNat zb)).sz≤(2000000:Nat)) (zh5 m (za2 r db v0 v2 (IntKind.i64.wrap (v3+zh4 (Term.ids (r.terms.getD v4.toNat zb)) db)) (IntKind.i64.wrap (v4+1))))))) (some (.exit 2,(za2 r db v0 v2 v3 v4))):=lpQ_ (by kernel_rfl)
theorem z1cq (m:Nat) (r:Rel) (db:List Data) (v0:Int) (v2:List Int) (v3:Int) (v4:Int) : z10u m (.exit 2) (za2 r db v0 v2 v3 v4)=(zcz m (za3 r db v0 v3 v2 (0:Int))).bind (zd (z10v m)):=by kernel_rfl
theorem z10y (m:Nat) (r:Rel) (db:List Data) (v0:Int) (v3:Int) (v2:List Int) (v5:Int) : zcz m (za3 r db v0 v3 v2 v5)=cndO (decide (v5<(↑r.aggs.length:Int))) ((zh6 m (za4 r db v0 v3 v5 v2 (0:Int))).bind (zd (z10w m))) (some (.exit 4,(za3 r db v0 v3 v2 v5))):=lpQ_ (by kernel_rfl)
def zs2 (v0:Int) (v2:List Int) (v3:Int) : Option (RF Un):=obO ((0:Int)≤(0:Int)∧(0:Int)<(↑v2.length:Int)) (obO ((0:Int)≤(1:Int)∧(1:Int)<(↑v2.length:Int)) (some (z83 (List.foldl (fun a b=>if b<a then b else a) (IntKind.i64.wrap (v2.getD 0 (0:Int)*List.foldl (fun a b=>if a<b then b else a) (v2.getD 1 (0:Int)) [(1:Int)])) [(1048576:Int)],List.foldl (fun a b=>if b<a then b else a) (IntKind.i64.wrap (v0+IntKind.i64.wrap (List.foldl (fun a b=>if b<a then b else a) (IntKind.i64.wrap (v2.getD 0 (0:Int)*List.foldl (fun a b=>if a<b then b else a) (v2.getD 1 (0:Int)) [(1:Int)])) [(1048576:Int)]*List.foldl (fun a b=>if b<a then b else a) v3 [(1048576:Int)]))) [(1048576:Int)]))))
theorem z1cr (m:Nat) (r:Rel) (db:List Data) (v0:Int) (v3:Int) (v2:List Int) (v5:Int) : z10v m (.exit 4) (za3 r db v0 v3 v2 v5)=cndO (r.op == 1) (some (z83 (List.foldl (fun a b=>if b<a then b else a) (zcc r.table db) [(1048576:Int)],List.foldl (fun a b=>if b<a then b else a) (IntKind.i64.wrap (v0+IntKind.i64.wrap (List.foldl (fun a b=>if b<a then b else a) (zcc r.table db) [(1048576:Int)]*List.foldl (fun a b=>if b<a then b else a) v3 [(1048576:Int)]))) [(1048576:Int)]))) (cndO ((↑v2.length:Int) == (0:Int)) (some (z83 (List.foldl (fun a b=>if b<a then b else a) (↑r.rows.length:Int) [(1048576:Int)],List.foldl (fun a b=>if b<a then b else a) (IntKind.i64.wrap (v0+IntKind.i64.wrap (List.foldl (fun a b=>if b<a then b else a) (↑r.rows.length:Int) [(1048576:Int)]*List.foldl (fun a b=>if b<a then b else a) v3 [(1048576:Int)]))) [(1048576:Int)]))) (cndO ((↑v2.length:Int) == (1:Int)) (obO ((0:Int)≤(0:Int)∧(0:Int)<(↑v2.length:Int)) (some (z83 (List.foldl (fun a b=>if b<a then b else a) (List.foldl (fun a b=>if a<b then b else a) (v2.getD 0 (0:Int)) [(1:Int)]) [(1048576:Int)],List.foldl (fun a b=>if b<a then b else a) (IntKind.i64.wrap (v0+IntKind.i64.wrap (List.foldl (fun a b=>if b<a then b else a) (v2.getD 0 (0:Int)) [(1048576:Int)]*List.foldl (fun a b=>if b<a then b else a) v3 [(1048576:Int)]))) [(1048576:Int)])))) (cndO (r.op == 5) (zs2 v0 v2 v3) (cndO (r.op == 6) (zs2 v0 v2 v3) (obO ((0:Int)≤(0:Int)∧(0:Int)<(↑v2.length:Int)) (obO ((0:Int)≤(1:Int)∧(1:Int)<(↑v2.length:Int)) (some (z83 (List.foldl (fun a b=>if b<a then b else a) (IntKind.i64.wrap (v2.getD 0 (0:Int)+v2.getD 1 (0:Int))) [(1048576:Int)],List.foldl (fun a b=>if b<a then b else a) (IntKind.i64.wrap (v0+IntKind.i64.wrap (List.foldl (fun a b=>if b<a then b else a) (IntKind.i64.wrap (v2.getD 0 (0:Int)+v2.getD 1 (0:Int))) [(1048576:Int)]*List.foldl (fun a b=>if b<a then b else a) v3 [(1048576:Int)]))) [(1048576:Int)]))))))))):=by kernel_rfl
theorem z10z (m:Nat) (r:Rel) (db:List Data) (v0:Int) (v3:Int) (v5:Int) (v2:List Int) (v6:Int) : zh6 m (za4 r db v0 v3 v5 v2 v6)=obO (0≤v5∧v5<(↑r.aggs.length:Int)) (cndO (decide (v6<(↑(Agg.t (r.aggs.getD v5.toNat zp)).length:Int))) (obO (0≤v5∧v5<(↑r.aggs.length:Int)) (obO (0≤v6∧v6<(↑(Agg.t (r.aggs.getD v5.toNat zp)).length:Int)) (obO ((2:Nat)*(Term.ids ((Agg.t (r.aggs.getD v5.toNat zp)).getD v6.toNat zb)).ht<m) (obO ((Term.ids ((Agg.t (r.aggs.getD v5.toNat zp)).getD v6.toNat zb)).sz≤(2000000:Nat)) (zh6 m (za4 r db v0 (IntKind.i64.wrap (v3+zh4 (Term.ids ((Agg.t (r.aggs.getD v5.toNat zp)).getD v6.toNat zb)) db)) v5 v2 (IntKind.i64.wrap (v6+1)))))))) (some (.exit 6,(za4 r db v0 v3 v5 v2 v6)))):=(zc5 (z48 17) z10t _).trans (by kernel_rfl)
theorem z1cs (m:Nat) (r:Rel) (db:List Data) (v0:Int) (v3:Int) (v5:Int) (v2:List Int) (v6:Int) : z10w m (.exit 6) (za4 r db v0 v3 v5 v2 v6)=zcz m (za3 r db v0 v3 v2 (IntKind.i64.wrap (v5+1))):=by kernel_rfl
theorem z1m7 (m:Nat) (r:Rel) (db:List Data) (hr:WS .rel r) (_hd:WL .data db) (hm:2*r.ht+1<m+1) (h:r.sz≤2000000) : z14y m r db=some (z83 (z6q r db)):=by
 obtain⟨p1,p2⟩:=zva r;have hkl:=z131 r.kids;have h3:=r.sz_eq
 obtain⟨lp,_⟩:=z1q (e:=.exit 0) (L:=zjc m) (st:=fun (p:Int×List Int) i=>zb4 r db p.1 i p.2) (l:=r.kids) (d:=za) (g:=fun p k=>(addI p.1 (wghR db k).2,p.2++[(wghR db k).1])) (fun i p=>p.2.length=i) (hr.rel_kids).len
  (fun p i k hi hk hI=>by
   have hmem:k∈r.kids:=by rw[← hk];exact z61 (by omega)
   have h1:=Rel.ht_kid hmem;have h2:=z9z hmem;have hc:zee r db (i:Int)=wghR db k:=by unfold zee z6q;rw[y5,hk];exact congrArg (wghR db) (by cases k;rfl)
   refine⟨by show (p.2++[_]).length=i+1;rw[ya,ye,hI],?_⟩;rw[z14z];simp only[hc,z8,hi,decide_true,if_true,and_true,y5,hk,Rel.ids_eq];rw[z6 (by omega),z6 (by omega),z6 (by omega),z6 (by unfold zi;rw[ye];omega)]
   rfl)
  (fun n _=>by rw[z14z];simp [z8]) (0,[]) rfl
 rw[z1vi] at lp
 have lq:=fun (n:Int) (x:List Int)=>zb1 (e:=.exit 2) (L:=zh5 m) (st:=fun (a:Int) i=>za2 r db n x a i) (l:=r.terms) (d:=zb) (fun n k=>addI n (wghT db k)) (hr.rel_terms).len
  (fun a i k hi hk hmem=>by
   obtain⟨h1,h2⟩:=p1 k hmem;rw[z10x];simp only[z8,hi,decide_true,if_true,and_true,y5,hk,Term.ids_eq];rw[z6 (by omega),z6 (by omega),z6 (by omega)]
   rfl)
  (fun n=>by rw[z10x];simp [z8]) 1
 have ls:=fun (n:Int) (x:List Int)=>zb1 (e:=.exit 4) (L:=zcz m) (st:=fun (a:Int) i=>za3 r db n a x i) (l:=r.aggs) (d:=zp) (fun n a=>zh3 db n a.t) (hr.rel_aggs).len
  (fun a i k hi hk hmem=>by
   have li:=zb1 (e:=.exit 6) (L:=zh6 m) (st:=fun (a:Int) j=>za4 r db n a i x j) (l:=k.t) (d:=zb) (fun n k=>addI n (wghT db k)) (by have:=z62 k.t;have:=zo8 hmem;have:=k.sz_eq;omega)
    (fun a j t hj ht htm=>by
     obtain⟨h1,h2⟩:=p2 k hmem t htm;rw[z10z];simp only[hk,z8,hi,hj,decide_true,if_true,and_true,y5,ht,Term.ids_eq];rw[z6 (by omega),z6 (by omega),z6 (by omega),z6 (by omega),z6 (by omega)]
     rfl)
    (fun n=>by rw[z10z];simp only[z8,y5,hk,decide_eq_true_eq];rw[z6 (by omega),if_neg (by omega)]) a
   rw[z99] at li;rw[z10y];simp only[z8,hi,decide_true,if_true];refine (zg li).trans ?_
   rw[z1cs])
  (fun n=>by rw[z10y];simp [z8]) (zh3 db 1 r.terms)
 rw[z1xv];refine (zg lp).trans ?_;rw[z1i1];refine (zg (lq _ _)).trans ?_;rw[z99,z1cq];refine (zg (ls _ _)).trans ?_;rw[z1m5,z1cr,z6q,z296,y10];generalize (r.kids.map fun k=>(wghR db k).1)=x;generalize (r.kids.foldl (fun n k=>addI n (wghR db k).2) 0)=n;generalize (zm4 db (zh3 db 1 r.terms) r.aggs)=a;unfold z17x zs2;simp only[z8,beq_iff_eq];by_cases c1 : r.op=1
 ·rw[if_pos c1,if_pos c1];rfl
 rw[if_neg c1,if_neg c1];by_cases c2 : x.length=0
 ·rw[if_pos (by omega),if_pos c2];rfl
 rw[if_neg (by omega),if_neg c2];by_cases c3 : x.length=1
 ·rw[if_pos (by omega),if_pos c3,z6 (by omega)];rfl
 rw[if_neg (by omega),if_neg c3];by_cases c5 : r.op=5
 ·rw[if_pos c5,if_pos (.inl c5),z6 (by omega),z6 (by omega)];rfl
 by_cases c6 : r.op=6
 ·rw[if_neg c5,if_pos c6,if_pos (.inr c6),z6 (by omega),z6 (by omega)];rfl
 rw[if_neg c5,if_neg c6,if_neg (by omega),z6 (by omega),z6 (by omega)];rfl
theorem z1ru (m:Nat) (hG:z17y m) : FnOK 29 (zj9 (m+1)):=fnK2 zq z10 (M:=(z5i m)) rfl ⟨hG.2,hG.1,z26r,trivial⟩ trivial trivial trivial trivial Tryz.func29 fun r db=>GiF.r fun w o=>z1m7 m r db (wfA_ w 0) (wfA_ w 1) (obA_ o 0) (obA_ o 1)
theorem zs3 : ∀ m,z17y m
 | 0=>⟨fnZ2,fnZ2⟩
 | m+1=>⟨z1rt m (zs3 m),z1ru m (zs3 m)⟩
def z17z : FnC Un:=fnF2 (dS .rel) (dL .data) fun r db=>([r.sz≤2000000],z83 (z6q r db))
theorem z1xw : FnOK 29 z17z:=fnA2 fun m=>(zs3 m).2
def hd1 (r:Rel) : Int:=if r.kids.length > 1 then 2 else IntKind.i64.wrap (1+(r.rows.length:Int))
mutual
def sizT : Term→Int
 | .mk _ _ _ _ _ kids sub _=>z1by (zf9 0 kids) sub
def zf9 : Int→List Term→Int
 | n,[]=>n
 | n,t::l=>zf9 (addI n (sizT t)) l
def sizA : Int→Agg→Int
 | n,.mk _ _ t=>zf9 n t
def z1bx : Int→List Agg→Int
 | n,[]=>n
 | n,a::l=>z1bx (sizA n a) l
def sizR : Rel→Int
 | .mk _ _ _ kids terms aggs _ _ _ _ rows=>z1bx (zf9 (zx1 (if kids.length > 1 then 2 else IntKind.i64.wrap (1+(rows.length:Int))) kids) terms) aggs
def zx1 : Int→List Rel→Int
 | n,[]=>n
 | n,r::l=>zx1 (addI n (sizR r)) l
def z1by : Int→List Rel→Int
 | n,[]=>n
 | n,r::l=>z1by (addI (addI n 4) (sizR r)) l
end
theorem ztf : ∀ (l:List Term) (n:Int),l.foldl (fun n t=>addI n (sizT t)) n=zf9 n l
 | [],n=>by simp only[y1q,zf9]
 | t::l,n=>by rw[yr,ztf l,zf9]
theorem z1m8 : ∀ (l:List Rel) (n:Int),l.foldl (fun n t=>addI n (sizR t)) n=zx1 n l
 | [],n=>by simp only[y1q,zx1]
 | t::l,n=>by rw[yr,z1m8 l,zx1]
theorem z1m9 : ∀ (l:List Rel) (n:Int),l.foldl (fun n t=>addI (addI n 4) (sizR t)) n=z1by n l
 | [],n=>by simp only[y1q,z1by]
 | t::l,n=>by rw[yr,z1m9 l,z1by]
theorem z2ko (n:Int) (a:Agg) : sizA n a=zf9 n a.t:=by cases a;simp only[sizA,Agg.t_mk]
theorem z1ma : ∀ (l:List Agg) (n:Int),l.foldl (fun n a=>zf9 n a.t) n=z1bx n l
 | [],n=>by simp only[y1q,z1bx]
 | t::l,n=>by rw[yr,z1ma l,z1bx,z2ko]
theorem z2kp (t:Term) : sizT t=z1by (zf9 0 t.kids) t.sub:=by cases t;simp only[sizT,Term.kids_mk,Term.sub_mk]
theorem z2kq (r:Rel) : sizR r=z1bx (zf9 (zx1 (hd1 r) r.kids) r.terms) r.aggs:=by
 unfold hd1;cases r;simp only[sizR,Rel.kids_mk,Rel.terms_mk,Rel.aggs_mk,Rel.rows_mk];rfl
def zbo (t:Term) : Int:=sizT t
def zg0 (r:Rel) : Int:=sizR r
def zjd (m:Nat) : FnC Un:=fnF1 (dS .term) fun t=>z2m (2*t.ht) m ([t.sz≤2000000],z2f (zbo t))
def zpf (m:Nat) : FnC Un:=fnF1 (dS .rel) fun r=>z2m (2*r.ht+1) m ([r.sz≤2000000],z2f (zg0 r))
def zd0 (m:Nat) : Mc Un:=mcF_ [(21,zjd m),(28,zpf m)] [] [] [] []
def zg1 : Nat→NS:=nsF_ [(3,{ ts:=bl 38 26,bs:=bl 38 2,nm:=[],cs:=true }),(7,{ ts:=bl 38 42,bs:=bl 38 2,nm:=[],cs:=true })] true
def zb5 (t:Term) (v0:Int) (v1:Int) : S Un:=(st 38 38 152 0 [(1,ax 1),(3,ai v0),(4,ai v1)] [(1,bg .term t)] [])
def zb6 (t:Term) (v0:Int) (v2:Int) : S Un:=(st 38 38 152 0 [(1,ax 1),(3,ai v0),(5,ai v2)] [(1,bg .term t)] [])
def zje (m:Nat) : S Un→Option (EX Un):=lpF_ (zd0 m) zg1 Tryz.f21 [1,1,0,1,2,2] 3
def zjf (m:Nat) : S Un→Option (EX Un):=lpF_ (zd0 m) zg1 Tryz.f21 [1,1,1,0,1,2,2] 7
def z150 (m:Nat) : Exit→S Un→Option (RF Un):=cxF_ (zd0 m) zg1 Tryz.f21 [1,1,0,1,2] [.d]
def z151 (m:Nat) : Exit→S Un→Option (RF Un):=cxF_ (zd0 m) zg1 Tryz.f21 [1,1,1,0,1,2] [.d]
def z152 (m:Nat) (t:Term) : Option (RF Un):=fnF_ (zd0 m) zg1 Tryz.f21 0 [.d] [.d (.agg (enc Ty.term t))]
theorem z1xx (m:Nat) (t:Term) : z152 m t=(zje m (zb5 t (0:Int) (0:Int))).bind (zd (z150 m)):=by kernel_rfl
theorem z153 (m:Nat) (t:Term) (v0:Int) (v1:Int) : zje m (zb5 t v0 v1)=cndO (decide (v1<(↑t.kids.length:Int))) (obO (0≤v1∧v1<(↑t.kids.length:Int)) (obO ((2:Nat)*(Term.ids (t.kids.getD v1.toNat zb)).ht<m) (obO ((Term.ids (t.kids.getD v1.toNat zb)).sz≤(2000000:Nat)) (zje m (zb5 t (IntKind.i64.wrap (v0+zbo (Term.ids (t.kids.getD v1.toNat zb)))) (IntKind.i64.wrap (v1+1))))))) (some (.exit 0,(zb5 t v0 v1))):=lpQ_ (by kernel_rfl)
theorem z1i2 (m:Nat) (t:Term) (v0:Int) (v1:Int) : z150 m (.exit 0) (zb5 t v0 v1)=(zjf m (zb6 t v0 (0:Int))).bind (zd (z151 m)):=by kernel_rfl
theorem z154 (m:Nat) (t:Term) (v0:Int) (v2:Int) : zjf m (zb6 t v0 v2)=cndO (decide (v2<(↑t.sub.length:Int))) (obO (0≤v2∧v2<(↑t.sub.length:Int)) (obO ((2:Nat)*(Rel.ids (t.sub.getD v2.toNat za)).ht+(1:Nat)<m) (obO ((Rel.ids (t.sub.getD v2.toNat za)).sz≤(2000000:Nat)) (zjf m (zb6 t (IntKind.i64.wrap (IntKind.i64.wrap (v0+4)+zg0 (Rel.ids (t.sub.getD v2.toNat za)))) (IntKind.i64.wrap (v2+1))))))) (some (.exit 2,(zb6 t v0 v2))):=lpQ_ (by kernel_rfl)
theorem z1i3 (m:Nat) (t:Term) (v0:Int) (v2:Int) : z151 m (.exit 2) (zb6 t v0 v2)=some (z2f (v0)):=by kernel_rfl
theorem z1mb (m:Nat) (t:Term) (ht:WS .term t) (hm:2*t.ht<m+1) (h:t.sz≤2000000) : z152 m t=some (z2f (zbo t)):=by
 have lp:=zb1 (e:=.exit 0) (L:=zje m) (st:=fun (n:Int) i=>zb5 t n i) (l:=t.kids) (d:=zb) (fun n k=>addI n (sizT k)) (ht.term_kids).len
  (fun n i k hi hk hmem=>by
   have h1:=Term.ht_kid hmem;have h2:=zlv hmem;rw[z153];simp only[z8,hi,decide_true,if_true,and_true,y5,hk,Term.ids_eq];rw[z6 (by omega),z6 (by omega),z6 (by omega)]
   rfl)
  (fun n=>by rw[z153];simp [z8]) 0
 rw[ztf] at lp
 have lq:=zb1 (e:=.exit 2) (L:=zjf m) (st:=fun (n:Int) i=>zb6 t n i) (l:=t.sub) (d:=za) (fun n k=>addI (addI n 4) (sizR k)) (ht.term_sub).len
  (fun n i k hi hk hmem=>by
   have h1:=Term.ht_sub hmem;have h2:=zlw hmem;rw[z154];simp only[z8,hi,decide_true,if_true,and_true,y5,hk,Rel.ids_eq];rw[z6 (by omega),z6 (by omega),z6 (by omega)]
   rfl)
  (fun n=>by rw[z154];simp [z8]) (zf9 0 t.kids)
 rw[z1m9] at lq;rw[z1xx];refine (zg lp).trans ?_;rw[z1i2];refine (zg lq).trans ?_;rw[z1i3,zbo,z2kp]
abbrev z1rv (m:Nat) : Prop:=FnOK 21 (zjd m)∧FnOK 28 (zpf m)
theorem z1rw (m:Nat) (hG:z1rv m) : FnOK 21 (zjd (m+1)):=fnK1 zq (M:=(zd0 m)) rfl ⟨hG.1,hG.2,trivial⟩ trivial trivial trivial trivial Tryz.func21 fun t=>GiF.r fun w o=>z1mb m t (wfA_ w 0) (obA_ o 0) (obA_ o 1)
def z7v (m:Nat) : Mc Un:=mcF_ [(28,zpf m),(21,zjd m)] [] [] [] []
def z5r : Nat→NS:=nsF_ [(5,{ ts:=bl 77 26,bs:=bl 77 2,nm:=[],cs:=true }),(9,{ ts:=bl 77 42,bs:=bl 77 2,nm:=[],cs:=true }),(13,{ ts:=bl 77 74,bs:=bl 77 2,nm:=[],cs:=true }),(16,{ ts:=bl 77 202,bs:=bl 77 2,nm:=[],cs:=true })] true
def z9h (r:Rel) (v0:Int) (v1:Int) : S Un:=(st 77 77 308 0 [(1,ax 1),(3,ai v0),(4,ai v1)] [(1,bg .rel r)] [])
def zex (r:Rel) (v0:Int) (v2:Int) : S Un:=(st 77 77 308 0 [(1,ax 1),(3,ai v0),(5,ai v2)] [(1,bg .rel r)] [])
def zd1 (r:Rel) (v0:Int) (v3:Int) : S Un:=(st 77 77 308 0 [(1,ax 1),(3,ai v0),(6,ai v3)] [(1,bg .rel r)] [])
def zd2 (r:Rel) (v0:Int) (v3:Int) (v4:Int) : S Un:=(st 77 77 308 0 [(1,ax 1),(3,ai v0),(6,ai v3),(7,ai v4)] [(1,bg .rel r)] [])
def zey (m:Nat) : S Un→Option (EX Un):=lpF_ (z7v m) z5r Tryz.f28 [1,1,1,0,1,2,2] 5
def zpg (m:Nat) : S Un→Option (EX Un):=lpF_ (z7v m) z5r Tryz.f28 [1,1,1,1,0,1,2,2] 9
def zg2 (m:Nat) : S Un→Option (EX Un):=lpF_ (z7v m) z5r Tryz.f28 [1,1,1,1,1,0,1,2,2] 13
noncomputable def z180 : Code:=sub (sub (ze Tryz.f28) [1,1,1,1,1,0,1,2,2]) [1,0,2,1,2,2]
def zm6 (m:Nat) : S Un→Option (EX Un):=z1o (z5r 16) (fun s Q=>awf (z7v m) z5r z180 s Q)
def zph (m:Nat) : Exit→S Un→Option (RF Un):=cxF_ (z7v m) z5r Tryz.f28 [1,1,1,0,1,2] [.d]
def z1er (m:Nat) : Exit→S Un→Option (RF Un):=cxF_ (z7v m) z5r Tryz.f28 [1,1,1,1,0,1,2] [.d]
def z181 (m:Nat) : Exit→S Un→Option (RF Un):=cxF_ (z7v m) z5r Tryz.f28 [1,1,1,1,1,0,1,2] [.d]
def z182 (m:Nat) : Exit→S Un→Option (EX Un):=ctxF (z7v m) z5r (sub (ze Tryz.f28) [1,1,1,1,1,0,1,2,2]) [1,0,2,1,2] (zcp (z5r 13) (zg2 m))
def zz6 (m:Nat) (r:Rel) : Option (RF Un):=fnF_ (z7v m) z5r Tryz.f28 0 [.d] [.d (.agg (enc Ty.rel r))]
theorem z26s (m:Nat) (r:Rel) : zz6 m r=cndO (decide ((↑r.kids.length:Int) > (1:Int))) ((zey m (z9h r (2:Int) (0:Int))).bind (zd (zph m))) ((zey m (z9h r (IntKind.i64.wrap ((1:Int)+(↑r.rows.length:Int))) (0:Int))).bind (zd (zph m))):=by kernel_rfl
theorem z1es (m:Nat) (r:Rel) (v0:Int) (v1:Int) : zey m (z9h r v0 v1)=cndO (decide (v1<(↑r.kids.length:Int))) (obO (0≤v1∧v1<(↑r.kids.length:Int)) (obO ((2:Nat)*(Rel.ids (r.kids.getD v1.toNat za)).ht+(1:Nat)<m) (obO ((Rel.ids (r.kids.getD v1.toNat za)).sz≤(2000000:Nat)) (zey m (z9h r (IntKind.i64.wrap (v0+zg0 (Rel.ids (r.kids.getD v1.toNat za)))) (IntKind.i64.wrap (v1+1))))))) (some (.exit 0,(z9h r v0 v1))):=lpQ_ (by kernel_rfl)
theorem z1rx (m:Nat) (r:Rel) (v0:Int) (v1:Int) : zph m (.exit 0) (z9h r v0 v1)=(zpg m (zex r v0 (0:Int))).bind (zd (z1er m)):=by kernel_rfl
theorem z1et (m:Nat) (r:Rel) (v0:Int) (v2:Int) : zpg m (zex r v0 v2)=cndO (decide (v2<(↑r.terms.length:Int))) (obO (0≤v2∧v2<(↑r.terms.length:Int)) (obO ((2:Nat)*(Term.ids (r.terms.getD v2.toNat zb)).ht<m) (obO ((Term.ids (r.terms.getD v2.toNat zb)).sz≤(2000000:Nat)) (zpg m (zex r (IntKind.i64.wrap (v0+zbo (Term.ids (r.terms.getD v2.toNat zb)))) (IntKind.i64.wrap (v2+1))))))) (some (.exit 2,(zex r v0 v2))):=lpQ_ (by kernel_rfl)
theorem z1ry (m:Nat) (r:Rel) (v0:Int) (v2:Int) : z1er m (.exit 2) (zex r v0 v2)=(zg2 m (zd1 r v0 (0:Int))).bind (zd (z181 m)):=by kernel_rfl
theorem z183 (m:Nat) (r:Rel) (v0:Int) (v3:Int) : zg2 m (zd1 r v0 v3)=cndO (decide (v3<(↑r.aggs.length:Int))) ((zm6 m (zd2 r v0 v3 (0:Int))).bind (zd (z182 m))) (some (.exit 4,(zd1 r v0 v3))):=lpQ_ (by kernel_rfl)
theorem z1mc (m:Nat) (r:Rel) (v0:Int) (v3:Int) : z181 m (.exit 4) (zd1 r v0 v3)=some (z2f (v0)):=by kernel_rfl
theorem z184 (m:Nat) (r:Rel) (v0:Int) (v3:Int) (v4:Int) : zm6 m (zd2 r v0 v3 v4)=obO (0≤v3∧v3<(↑r.aggs.length:Int)) (cndO (decide (v4<(↑(Agg.t (r.aggs.getD v3.toNat zp)).length:Int))) (obO (0≤v3∧v3<(↑r.aggs.length:Int)) (obO (0≤v4∧v4<(↑(Agg.t (r.aggs.getD v3.toNat zp)).length:Int)) (obO ((2:Nat)*(Term.ids ((Agg.t (r.aggs.getD v3.toNat zp)).getD v4.toNat zb)).ht<m) (obO ((Term.ids ((Agg.t (r.aggs.getD v3.toNat zp)).getD v4.toNat zb)).sz≤(2000000:Nat)) (zm6 m (zd2 r (IntKind.i64.wrap (v0+zbo (Term.ids ((Agg.t (r.aggs.getD v3.toNat zp)).getD v4.toNat zb)))) v3 (IntKind.i64.wrap (v4+1)))))))) (some (.exit 6,(zd2 r v0 v3 v4)))):=(zc5 (z5r 16) z180 _).trans (by kernel_rfl)
theorem z1md (m:Nat) (r:Rel) (v0:Int) (v3:Int) (v4:Int) : z182 m (.exit 6) (zd2 r v0 v3 v4)=zg2 m (zd1 r v0 (IntKind.i64.wrap (v3+1))):=by kernel_rfl
theorem z1xy (m:Nat) (r:Rel) (hr:WS .rel r) (hm:2*r.ht+1<m+1) (h:r.sz≤2000000) : zz6 m r=some (z2f (zg0 r)):=by
 obtain⟨p1,p2⟩:=zva r;have h3:=r.sz_eq
 have lp:=zb1 (e:=.exit 0) (L:=zey m) (st:=fun (n:Int) i=>z9h r n i) (l:=r.kids) (d:=za) (fun n k=>addI n (sizR k)) (hr.rel_kids).len
  (fun p i k hi hk hmem=>by
   have h1:=Rel.ht_kid hmem;have h2:=z9z hmem;rw[z1es];simp only[z8,hi,decide_true,if_true,and_true,y5,hk,Rel.ids_eq];rw[z6 (by omega),z6 (by omega),z6 (by omega)]
   rfl)
  (fun n=>by rw[z1es];simp [z8]) (hd1 r)
 rw[z1m8] at lp
 have lq:=zb1 (e:=.exit 2) (L:=zpg m) (st:=fun (a:Int) i=>zex r a i) (l:=r.terms) (d:=zb) (fun n k=>addI n (sizT k)) (hr.rel_terms).len
  (fun a i k hi hk hmem=>by
   obtain⟨h1,h2⟩:=p1 k hmem;rw[z1et];simp only[z8,hi,decide_true,if_true,and_true,y5,hk,Term.ids_eq];rw[z6 (by omega),z6 (by omega),z6 (by omega)]
   rfl)
  (fun n=>by rw[z1et];simp [z8]) (zx1 (hd1 r) r.kids)
 rw[ztf] at lq
 have ls:=zb1 (e:=.exit 4) (L:=zg2 m) (st:=fun (a:Int) i=>zd1 r a i) (l:=r.aggs) (d:=zp) (fun n a=>zf9 n a.t) (hr.rel_aggs).len
  (fun a i k hi hk hmem=>by
   have li:=zb1 (e:=.exit 6) (L:=zm6 m) (st:=fun (a:Int) j=>zd2 r a i j) (l:=k.t) (d:=zb) (fun n k=>addI n (sizT k)) (by have:=z62 k.t;have:=zo8 hmem;have:=k.sz_eq;omega)
    (fun a j t hj ht htm=>by
     obtain⟨h1,h2⟩:=p2 k hmem t htm;rw[z184];simp only[hk,z8,hi,hj,decide_true,if_true,and_true,y5,ht,Term.ids_eq];rw[z6 (by omega),z6 (by omega),z6 (by omega),z6 (by omega),z6 (by omega)]
     rfl)
    (fun n=>by rw[z184];simp only[z8,y5,hk,decide_eq_true_eq];rw[z6 (by omega),if_neg (by omega)]) a
   rw[ztf] at li;rw[z183];simp only[z8,hi,decide_true,if_true];refine (zg li).trans ?_
   rw[z1md])
  (fun n=>by rw[z183];simp [z8]) (zf9 (zx1 (hd1 r) r.kids) r.terms)
 rw[z1ma] at ls;have e:zz6 m r=(zey m (z9h r (hd1 r) (0:Int))).bind (zd (zph m)):=by
  rw[z26s,z8];unfold hd1;by_cases c : r.kids.length > 1
  ·rw[if_pos (by rw[decide_eq_true_eq];omega),if_pos c]
  ·rw[if_neg (by rw[decide_eq_true_eq];omega),if_neg c]
 rw[e];refine (zg lp).trans ?_;rw[z1rx];refine (zg lq).trans ?_;rw[z1ry];refine (zg ls).trans ?_;rw[z1mc,zg0,z2kq]
theorem z221 (m:Nat) (hG:z1rv m) : FnOK 28 (zpf (m+1)):=fnK1 zq (M:=(z7v m)) rfl ⟨hG.2,hG.1,trivial⟩ trivial trivial trivial trivial Tryz.func28 fun r=>GiF.r fun w o=>z1xy m r (wfA_ w 0) (obA_ o 0) (obA_ o 1)
theorem zpi : ∀ m,z1rv m
 | 0=>⟨fnZ1,fnZ1⟩
 | m+1=>⟨z1rw m (zpi m),z221 m (zpi m)⟩
def z185 : FnC Un:=fnF1 (dS .term) fun t=>([t.sz≤2000000],z2f (zbo t))
theorem z1xz : FnOK 21 z185:=fnA1 fun m=>(zpi m).1
def z1me : FnC Un:=fnF1 (dS .rel) fun r=>([r.sz≤2000000],z2f (zg0 r))
theorem z26t : FnOK 28 z1me:=fnA1 fun m=>(zpi m).2
end
end B
namespace B
open Go Go.RowKit
set_option maxRecDepth 100000
noncomputable section
attribute [local irreducible] awp ctxK zu z1d retQ z1p awf ctxF z1o
def z1i4 : Nat→NS:=nsF_ [(4,{ ts:=bl 41 51,bs:=bl 41 0,nm:=[],cs:=true })] true
def zbp (x:List Val) (cols:List Col) (v0:Int) : S Un:=(st 41 41 164 0 [(0,al .val x),(1,al .col cols),(4,ab false),(5,ai v0)] [] [])
def zr7 : S Un→Option (EX Un):=lpF_ zt3 z1i4 Tryz.f79 [1,1,0,1,2,2] 4
def zx2 : Exit→S Un→Option (RF Un):=cxF_ zt3 z1i4 Tryz.f79 [1,1,0,1,2] [.d]
def z1vj (x:List Val) (cols:List Col) : Option (RF Un):=fnF_ zt3 z1i4 Tryz.f79 0 [.d] [.d (.v (.dat (U:=Un) Ty.val x)),.d (.v (.dat (U:=Un) Ty.col cols))]
theorem z2el (x:List Val) (cols:List Col) : z1vj x cols=cndO ((↑x.length:Int) != (↑cols.length:Int)) (some (z9f (false))) (cndO (!zdy x) (some (z9f (false))) ((zr7 (zbp x cols (0:Int))).bind (zd zx2))):=by kernel_rfl
theorem z1vk (x:List Val) (cols:List Col) (v0:Int) : zr7 (zbp x cols v0)=cndO (decide (v0<(↑x.length:Int))) (obO (0≤v0∧v0<(↑x.length:Int)) (cndO ((x.getD v0.toNat z7).kind != 0) (obO (0≤v0∧v0<(↑x.length:Int)) (obO (0≤v0∧v0<(↑cols.length:Int)) (cndO ((x.getD v0.toNat z7).kind != (cols.getD v0.toNat zem).type) (some (.ret,(zbp x cols v0))) (zr7 (zbp x cols (IntKind.i64.wrap (v0+1))))))) (zr7 (zbp x cols (IntKind.i64.wrap (v0+1)))))) (some (.exit 0,(zbp x cols v0))):=lpQ_ (by kernel_rfl)
theorem z1y0 (x:List Val) (cols:List Col) (v0:Int) : zx2 .ret (zbp x cols v0)=some (z9f (false)):=by kernel_rfl
theorem z222 (x:List Val) (cols:List Col) (v0:Int) : zx2 (.exit 0) (zbp x cols v0)=some (z9f (true)):=by kernel_rfl
def z2az (x:List Val) (cols:List Col) (i:Nat) : Bool:=(x.getD i z7).kind == 0 || (x.getD i z7).kind == (cols.getD i zem).type
def z90 (x:List Val) (cols:List Col) : Bool:=decide (x.length=cols.length) && x.all z80 && (List.range x.length).all (z2az x cols)
theorem z26u (x:List Val) (cols:List Col) (hx:WL .val x) (_hc:WL .col cols) : z1vj x cols=some (z9f (z90 x cols)):=by
 have hlen:=hx.len;rw[z2el];unfold z90;by_cases c : x.length=cols.length
 ·rw[z8,if_neg (by grind),decide_eq_true c,y18];have e:zdy x=x.all z80:=rfl;rw[e];cases x.all z80
  ·rfl
  ·refine Eq.trans ?_ (z32 (L:=zr7) (st:=fun i=>zbp x cols i) (C:=zx2) (e:=.exit 0) (fun b=>some (z9f b)) (l:=List.range x.length) (d:=0) (z2az x cols) (by grind)
    (fun i k hi hk _=>by
     rw[y2u] at hi;rw[z1vk];simp only[z8,hi,decide_true,if_true,and_true,y5];rw[z6 (by omega),z6 (by omega),z6 (by omega)];unfold z2az
     grind)
    (by rw[y2u,z1vk];simp [z8]) (fun i=>z1y0 _ _ _) (fun i=>z222 _ _ _))
   rfl
 ·rw[z8,if_pos (by grind),decide_eq_false c];rfl
def z1i5 : FnC Un:=fnF2 (dL .val) (dL .col) fun x cols=>([],z9f (z90 x cols))
theorem z1vl : FnOK 79 z1i5:=fnK2 z10 z10 (M:=zt3) rfl ⟨z14m,trivial⟩ trivial trivial trivial trivial Tryz.func79 fun x cols=>GiF.r fun w _=>z26u x cols (wfA_ w 0) (wfA_ w 1)
def zh7 : Mc Un:=mcF_ [(79,z1i5)] [] [] [] []
def zbq : Nat→NS:=nsF_ [(2,{ ts:=bl 43 54,bs:=bl 43 4,nm:=[],cs:=true }),(6,{ ts:=bl 43 118,bs:=bl 43 4,nm:=[],cs:=true })] true
def z5j (r:Rel) (db:List Data) (v0:Int) : S Un:=(st 43 43 172 0 [(1,al .data db),(2,ax 2),(4,ab false),(5,ai v0)] [(2,bg .rel r)] [])
def z9i (r:Rel) (db:List Data) (v0:Int) (v1:Int) : S Un:=(st 43 43 172 0 [(1,al .data db),(2,ax 2),(4,ab false),(5,ai v0),(6,ai v1)] [(2,bg .rel r)] [])
def zcd : S Un→Option (EX Un):=lpF_ zh7 zbq Tryz.f78 [1,0,1,2,2] 2
noncomputable def z1eu : Code:=sub (sub (ze Tryz.f78) [1,0,1,2,2]) [1,0,2,1,1,2,2]
def zpj : S Un→Option (EX Un):=z1o (zbq 6) (fun s Q=>awf zh7 zbq z1eu s Q)
def zpk : Exit→S Un→Option (RF Un):=cxF_ zh7 zbq Tryz.f78 [1,0,1,2] [.d]
def zpl : Exit→S Un→Option (EX Un):=ctxF zh7 zbq (sub (ze Tryz.f78) [1,0,1,2,2]) [1,0,2,1,1,2] (zcp (zbq 2) zcd)
def z1ev (r:Rel) (db:List Data) : Option (RF Un):=fnF_ zh7 zbq Tryz.f78 0 [.d] [.d (.agg (enc Ty.rel r)),.d (.v (.dat (U:=Un) Ty.data db))]
theorem z26v (r:Rel) (db:List Data) : z1ev r db=(zcd (z5j r db (0:Int))).bind (zd zpk):=by kernel_rfl
theorem z1ew (r:Rel) (db:List Data) (v0:Int) : zcd (z5j r db v0)=cndO (decide (v0<(↑db.length:Int))) (obO (0≤v0∧v0<(↑db.length:Int)) (cndO (!(db.getD v0.toNat z3e).table.toList == r.table.toList) (zcd (z5j r db (IntKind.i64.wrap (v0+1)))) ((zpj (z9i r db v0 (0:Int))).bind (zd zpl)))) (some (.exit 0,(z5j r db v0))):=lpQ_ (by kernel_rfl)
theorem z1rz (r:Rel) (db:List Data) (v0:Int) : zpk (.exit 0) (z5j r db v0)=some (z9f (true)):=by kernel_rfl
theorem z1ex (r:Rel) (db:List Data) (v0:Int) (v1:Int) : zpj (z9i r db v0 v1)=obO (0≤v0∧v0<(↑db.length:Int)) (cndO (decide (v1<(↑(db.getD v0.toNat z3e).rows.length:Int))) (obO (0≤v0∧v0<(↑db.length:Int)) (obO (0≤v1∧v1<(↑(db.getD v0.toNat z3e).rows.length:Int)) (cndO (!z90 ((db.getD v0.toNat z3e).rows.getD v1.toNat []) r.cols) (some (.ret,(z9i r db v0 v1))) (zpj (z9i r db v0 (IntKind.i64.wrap (v1+1))))))) (some (.exit 2,(z9i r db v0 v1)))):=(zc5 (zbq 6) z1eu _).trans (by kernel_rfl)
theorem z1mf (r:Rel) (db:List Data) (v0:Int) (v1:Int) : zpl .ret (z9i r db v0 v1)=some (.ret,(z5j r db v0)):=by kernel_rfl
theorem z1mg (r:Rel) (db:List Data) (v0:Int) : zpk .ret (z5j r db v0)=some (z9f (false)):=by kernel_rfl
theorem z1s0 (r:Rel) (db:List Data) (v0:Int) (v1:Int) : zpl (.exit 2) (z9i r db v0 v1)=zcd (z5j r db (IntKind.i64.wrap (v0+1))):=by kernel_rfl
def zob (r:Rel) (db:List Data) : Bool:=db.all fun d=>!(d.table.toList == r.table.toList) || d.rows.all fun x=>z90 x r.cols
theorem z1y1 (r:Rel) (db:List Data) (_hr:WS .rel r) (hd:WL .data db) : z1ev r db=some (z9f (zob r db)):=by
 rw[z26v]
 exact z32 (L:=zcd) (st:=fun i=>z5j r db i) (C:=zpk) (e:=.exit 0) (fun b=>some (z9f b)) (l:=db) (d:=z3e) (fun d=>!(d.table.toList == r.table.toList) || d.rows.all fun x=>z90 x r.cols) hd.len
  (fun i d hi hk hmem=>by
   have li:=z32 (L:=zpj) (st:=fun j=>z9i r db i j) (C:=zpl) (e:=.exit 2) (fun b=>if b=true then zcd (z5j r db (IntKind.i64.wrap ((i:Int)+1))) else some (.ret,z5j r db i)) (l:=d.rows) (d:=[]) (fun x=>z90 x r.cols) (WS.data_rows (WL.get hd hmem)).len
    (fun j x hj hx _=>by
     rw[z1ex];simp only[z8,hi,y5,hk,hj,hx,decide_true,if_true,and_true]
     grind [z6,z90])
    (by rw[z1ex];simp_all [z8,y5,decide_eq_true_eq,z6,if_neg]) (fun j=>z1mf _ _ _ _) (fun j=>z1s0 _ _ _ _)
   rw[z1ew];simp only[z8,hi,y5,hk,decide_true,if_true,and_true]
   grind [z6])
  (by rw[z1ew];simp [z8]) (fun i=>z1mg _ _ _) (fun i=>z1rz _ _ _)
def z1mh : FnC Un:=fnF2 (dS .rel) (dL .data) fun r db=>([],z9f (zob r db))
theorem z26w : FnOK 78 z1mh:=fnK2 zq z10 (M:=zh7) rfl ⟨z1vl,trivial⟩ trivial trivial trivial trivial Tryz.func78 fun r db=>GiF.r fun w _=>z1y1 r db (wfA_ w 0) (wfA_ w 1)
mutual
def fitT (db:List Data) : Term→Bool
 | .mk _ _ _ _ _ kids sub _=>z13i db kids && z1mi db sub
def z13i (db:List Data) : List Term→Bool
 | []=>true
 | t::l=>fitT db t && z13i db l
def fitA (db:List Data) : Agg→Bool
 | .mk _ _ t=>z13i db t
def z1zu (db:List Data) : List Agg→Bool
 | []=>true
 | a::l=>fitA db a && z1zu db l
def fitR (db:List Data) : Rel→Bool
 | .mk op table cols kids terms aggs keys limit skip all rows=>if op=1 then zob (.mk op table cols kids terms aggs keys limit skip all rows) db else z1mi db kids && (z13i db terms && z1zu db aggs)
def z1mi (db:List Data) : List Rel→Bool
 | []=>true
 | r::l=>fitR db r && z1mi db l
end
theorem zx3 (db:List Data) : ∀ l : List Term,z13i db l=l.all fun t=>fitT db t
 | []=>by rfl
 | t::l=>by simp only[z13i,y1g,zx3 db l]
theorem z186 (db:List Data) : ∀ l : List Rel,z1mi db l=l.all fun t=>fitR db t
 | []=>by rfl
 | t::l=>by simp only[z1mi,y1g,z186 db l]
theorem z2kr (db:List Data) (a:Agg) : fitA db a=z13i db a.t:=by cases a;rfl
theorem z1vm (db:List Data) : ∀ l : List Agg,z1zu db l=l.all fun a=>a.t.all fun t=>fitT db t
 | []=>by rfl
 | t::l=>by simp only[z1zu,y1g,z1vm db l,z2kr,zx3]
theorem z1s1 (db:List Data) (t:Term) : fitT db t=(t.kids.all (fun t=>fitT db t) && t.sub.all fun t=>fitR db t):=by cases t;simp only[fitT,zx3,z186,Term.kids_mk,Term.sub_mk]
theorem z1bz (db:List Data) (r:Rel) : fitR db r=if r.op=1 then zob r db else r.kids.all (fun t=>fitR db t) && (r.terms.all (fun t=>fitT db t) && r.aggs.all fun a=>a.t.all fun t=>fitT db t):=by
 cases r;simp only[fitR,zx3,z186,z1vm,Rel.op_mk,Rel.kids_mk,Rel.terms_mk,Rel.aggs_mk];rfl
def zai (t:Term) (db:List Data) : Bool:=fitT db t
def zce (r:Rel) (db:List Data) : Bool:=fitR db r
def zpm (m:Nat) : FnC Un:=fnF2 (dS .term) (dL .data) fun t db=>z2m (2*t.ht) m ([t.sz≤2000000],z9f (zai t db))
def zpn (m:Nat) : FnC Un:=fnF2 (dS .rel) (dL .data) fun r db=>z2m (2*r.ht+1) m ([r.sz≤2000000],z9f (zce r db))
def zh8 (m:Nat) : Mc Un:=mcF_ [(20,zpm m),(41,zpn m)] [] [] [] []
def zm8 : Nat→NS:=nsF_ [(2,{ ts:=bl 37 54,bs:=bl 37 4,nm:=[],cs:=true }),(7,{ ts:=bl 37 86,bs:=bl 37 4,nm:=[],cs:=true })] true
def z9j (t:Term) (db:List Data) (v0:Int) : S Un:=(st 37 37 148 0 [(1,al .data db),(2,ax 2),(4,ab false),(5,ai v0)] [(2,bg .term t)] [])
def z9k (t:Term) (db:List Data) (v1:Int) : S Un:=(st 37 37 148 0 [(1,al .data db),(2,ax 2),(4,ab false),(6,ai v1)] [(2,bg .term t)] [])
def zpo (m:Nat) : S Un→Option (EX Un):=lpF_ (zh8 m) zm8 Tryz.f20 [1,0,1,2,2] 2
def zpp (m:Nat) : S Un→Option (EX Un):=lpF_ (zh8 m) zm8 Tryz.f20 [1,1,0,1,2,2] 7
def zpq (m:Nat) : Exit→S Un→Option (RF Un):=cxF_ (zh8 m) zm8 Tryz.f20 [1,0,1,2] [.d]
def zpr (m:Nat) : Exit→S Un→Option (RF Un):=cxF_ (zh8 m) zm8 Tryz.f20 [1,1,0,1,2] [.d]
def z1ey (m:Nat) (t:Term) (db:List Data) : Option (RF Un):=fnF_ (zh8 m) zm8 Tryz.f20 0 [.d] [.d (.agg (enc Ty.term t)),.d (.v (.dat (U:=Un) Ty.data db))]
theorem z26x (m:Nat) (t:Term) (db:List Data) : z1ey m t db=(zpo m (z9j t db (0:Int))).bind (zd (zpq m)):=by kernel_rfl
theorem z1ez (m:Nat) (t:Term) (db:List Data) (v0:Int) : zpo m (z9j t db v0)=cndO (decide (v0<(↑t.kids.length:Int))) (obO (0≤v0∧v0<(↑t.kids.length:Int)) (obO ((2:Nat)*(Term.ids (t.kids.getD v0.toNat zb)).ht<m) (obO ((Term.ids (t.kids.getD v0.toNat zb)).sz≤(2000000:Nat)) (cndO (!zai (Term.ids (t.kids.getD v0.toNat zb)) db) (some (.ret,(z9j t db v0))) (zpo m (z9j t db (IntKind.i64.wrap (v0+1)))))))) (some (.exit 0,(z9j t db v0))):=lpQ_ (by kernel_rfl)
theorem z1mj (m:Nat) (t:Term) (db:List Data) (v0:Int) : zpq m .ret (z9j t db v0)=some (z9f (false)):=by kernel_rfl
theorem z1s2 (m:Nat) (t:Term) (db:List Data) (v0:Int) : zpq m (.exit 0) (z9j t db v0)=(zpp m (z9k t db (0:Int))).bind (zd (zpr m)):=by kernel_rfl
theorem z1f0 (m:Nat) (t:Term) (db:List Data) (v1:Int) : zpp m (z9k t db v1)=cndO (decide (v1<(↑t.sub.length:Int))) (obO (0≤v1∧v1<(↑t.sub.length:Int)) (obO ((2:Nat)*(Rel.ids (t.sub.getD v1.toNat za)).ht+(1:Nat)<m) (obO ((Rel.ids (t.sub.getD v1.toNat za)).sz≤(2000000:Nat)) (cndO (!zce (Rel.ids (t.sub.getD v1.toNat za)) db) (some (.ret,(z9k t db v1))) (zpp m (z9k t db (IntKind.i64.wrap (v1+1)))))))) (some (.exit 2,(z9k t db v1))):=lpQ_ (by kernel_rfl)
theorem z1mk (m:Nat) (t:Term) (db:List Data) (v1:Int) : zpr m .ret (z9k t db v1)=some (z9f (false)):=by kernel_rfl
theorem z1s3 (m:Nat) (t:Term) (db:List Data) (v1:Int) : zpr m (.exit 2) (z9k t db v1)=some (z9f (true)):=by kernel_rfl
theorem z1y2 (m:Nat) (t:Term) (db:List Data) (ht:WS .term t) (_hd:WL .data db) (hm:2*t.ht<m+1) (h:t.sz≤2000000) : z1ey m t db=some (z9f (zai t db)):=by
 have lq:=z32 (L:=zpp m) (st:=fun i=>z9k t db i) (C:=zpr m) (e:=.exit 2) (fun b=>some (z9f b)) (l:=t.sub) (d:=za) (fun t=>fitR db t) (ht.term_sub).len
  (fun i k hi hk hmem=>by
   have h1:=Term.ht_sub hmem;have h2:=zlw hmem;rw[z1f0];simp only[z8,hi,decide_true,if_true,and_true,y5,hk,Rel.ids_eq]
   grind [z6,zce,fitR])
  (by rw[z1f0];simp [z8]) (fun i=>z1mk _ _ _ _) (fun i=>z1s3 _ _ _ _)
 rw[z26x]
 refine (z32 (L:=zpo m) (st:=fun i=>z9j t db i) (C:=zpq m) (e:=.exit 0) (fun b=>some (z9f (b && t.sub.all fun t=>fitR db t))) (l:=t.kids) (d:=zb) (fun t=>fitT db t) (ht.term_kids).len
  (fun i k hi hk hmem=>by
   have h1:=Term.ht_kid hmem;have h2:=zlv hmem;rw[z1ez];simp only[z8,hi,decide_true,if_true,and_true,y5,hk,Term.ids_eq]
   grind [z6,zai,fitT])
  (by rw[z1ez];simp [z8]) (fun i=>by simp [y1p,z1mj]) (fun i=>by simp_all [y18,z1s2,trans])).trans ?_
 rw[zai,z1s1]
abbrev z1s4 (m:Nat) : Prop:=FnOK 20 (zpm m)∧FnOK 41 (zpn m)
theorem z223 (m:Nat) (hG:z1s4 m) : FnOK 20 (zpm (m+1)):=fnK2 zq z10 (M:=(zh8 m)) rfl ⟨hG.1,hG.2,trivial⟩ trivial trivial trivial trivial Tryz.func20 fun t db=>GiF.r fun w o=>z1y2 m t db (wfA_ w 0) (wfA_ w 1) (obA_ o 0) (obA_ o 1)
def z7w (m:Nat) : Mc Un:=mcF_ [(78,z1mh),(41,zpn m),(20,zpm m)] [] [] [] []
def z5s : Nat→NS:=nsF_ [(4,{ ts:=bl 75 54,bs:=bl 75 4,nm:=[],cs:=true }),(9,{ ts:=bl 75 86,bs:=bl 75 4,nm:=[],cs:=true }),(14,{ ts:=bl 75 150,bs:=bl 75 4,nm:=[],cs:=true }),(17,{ ts:=bl 75 406,bs:=bl 75 4,nm:=[],cs:=true })] true
def z9l (r:Rel) (db:List Data) (v0:Int) : S Un:=(st 75 75 300 0 [(1,al .data db),(2,ax 2),(4,ab false),(5,ai v0)] [(2,bg .rel r)] [])
def z9m (r:Rel) (db:List Data) (v1:Int) : S Un:=(st 75 75 300 0 [(1,al .data db),(2,ax 2),(4,ab false),(6,ai v1)] [(2,bg .rel r)] [])
def z5k (r:Rel) (db:List Data) (v2:Int) : S Un:=(st 75 75 300 0 [(1,al .data db),(2,ax 2),(4,ab false),(7,ai v2)] [(2,bg .rel r)] [])
def z84 (r:Rel) (db:List Data) (v2:Int) (v3:Int) : S Un:=(st 75 75 300 0 [(1,al .data db),(2,ax 2),(4,ab false),(7,ai v2),(8,ai v3)] [(2,bg .rel r)] [])
def zps (m:Nat) : S Un→Option (EX Un):=lpF_ (z7w m) z5s Tryz.f41 [1,1,0,1,2,2] 4
def zpt (m:Nat) : S Un→Option (EX Un):=lpF_ (z7w m) z5s Tryz.f41 [1,1,1,0,1,2,2] 9
def zd3 (m:Nat) : S Un→Option (EX Un):=lpF_ (z7w m) z5s Tryz.f41 [1,1,1,1,0,1,2,2] 14
noncomputable def z187 : Code:=sub (sub (ze Tryz.f41) [1,1,1,1,0,1,2,2]) [1,0,2,1,2,2]
def zm9 (m:Nat) : S Un→Option (EX Un):=z1o (z5s 17) (fun s Q=>awf (z7w m) z5s z187 s Q)
def zpu (m:Nat) : Exit→S Un→Option (RF Un):=cxF_ (z7w m) z5s Tryz.f41 [1,1,0,1,2] [.d]
def zpv (m:Nat) : Exit→S Un→Option (RF Un):=cxF_ (z7w m) z5s Tryz.f41 [1,1,1,0,1,2] [.d]
def zma (m:Nat) : Exit→S Un→Option (RF Un):=cxF_ (z7w m) z5s Tryz.f41 [1,1,1,1,0,1,2] [.d]
def zmb (m:Nat) : Exit→S Un→Option (EX Un):=ctxF (z7w m) z5s (sub (ze Tryz.f41) [1,1,1,1,0,1,2,2]) [1,0,2,1,2] (zcp (z5s 14) (zd3 m))
def z1f1 (m:Nat) (r:Rel) (db:List Data) : Option (RF Un):=fnF_ (z7w m) z5s Tryz.f41 0 [.d] [.d (.agg (enc Ty.rel r)),.d (.v (.dat (U:=Un) Ty.data db))]
theorem z26y (m:Nat) (r:Rel) (db:List Data) : z1f1 m r db=cndO (r.op == 1) (some (z9f (zob (Rel.ids r) db))) ((zps m (z9l r db (0:Int))).bind (zd (zpu m))):=by kernel_rfl
theorem z1f2 (m:Nat) (r:Rel) (db:List Data) (v0:Int) : zps m (z9l r db v0)=cndO (decide (v0<(↑r.kids.length:Int))) (obO (0≤v0∧v0<(↑r.kids.length:Int)) (obO ((2:Nat)*(Rel.ids (r.kids.getD v0.toNat za)).ht+(1:Nat)<m) (obO ((Rel.ids (r.kids.getD v0.toNat za)).sz≤(2000000:Nat)) (cndO (!zce (Rel.ids (r.kids.getD v0.toNat za)) db) (some (.ret,(z9l r db v0))) (zps m (z9l r db (IntKind.i64.wrap (v0+1)))))))) (some (.exit 0,(z9l r db v0))):=lpQ_ (by kernel_rfl)
theorem z1ml (m:Nat) (r:Rel) (db:List Data) (v0:Int) : zpu m .ret (z9l r db v0)=some (z9f (false)):=by kernel_rfl
theorem z1s5 (m:Nat) (r:Rel) (db:List Data) (v0:Int) : zpu m (.exit 0) (z9l r db v0)=(zpt m (z9m r db (0:Int))).bind (zd (zpv m)):=by kernel_rfl
theorem z1f3 (m:Nat) (r:Rel) (db:List Data) (v1:Int) : zpt m (z9m r db v1)=cndO (decide (v1<(↑r.terms.length:Int))) (obO (0≤v1∧v1<(↑r.terms.length:Int)) (obO ((2:Nat)*(Term.ids (r.terms.getD v1.toNat zb)).ht<m) (obO ((Term.ids (r.terms.getD v1.toNat zb)).sz≤(2000000:Nat)) (cndO (!zai (Term.ids (r.terms.getD v1.toNat zb)) db) (some (.ret,(z9m r db v1))) (zpt m (z9m r db (IntKind.i64.wrap (v1+1)))))))) (some (.exit 2,(z9m r db v1))):=lpQ_ (by kernel_rfl)
theorem z1mm (m:Nat) (r:Rel) (db:List Data) (v1:Int) : zpv m .ret (z9m r db v1)=some (z9f (false)):=by kernel_rfl
theorem z1s6 (m:Nat) (r:Rel) (db:List Data) (v1:Int) : zpv m (.exit 2) (z9m r db v1)=(zd3 m (z5k r db (0:Int))).bind (zd (zma m)):=by kernel_rfl
theorem z188 (m:Nat) (r:Rel) (db:List Data) (v2:Int) : zd3 m (z5k r db v2)=cndO (decide (v2<(↑r.aggs.length:Int))) ((zm9 m (z84 r db v2 (0:Int))).bind (zd (zmb m))) (some (.exit 4,(z5k r db v2))):=lpQ_ (by kernel_rfl)
theorem z1mn (m:Nat) (r:Rel) (db:List Data) (v2:Int) : zma m (.exit 4) (z5k r db v2)=some (z9f (true)):=by kernel_rfl
theorem z189 (m:Nat) (r:Rel) (db:List Data) (v2:Int) (v3:Int) : zm9 m (z84 r db v2 v3)=obO (0≤v2∧v2<(↑r.aggs.length:Int)) (cndO (decide (v3<(↑(Agg.t (r.aggs.getD v2.toNat zp)).length:Int))) (obO (0≤v2∧v2<(↑r.aggs.length:Int)) (obO (0≤v3∧v3<(↑(Agg.t (r.aggs.getD v2.toNat zp)).length:Int)) (obO ((2:Nat)*(Term.ids ((Agg.t (r.aggs.getD v2.toNat zp)).getD v3.toNat zb)).ht<m) (obO ((Term.ids ((Agg.t (r.aggs.getD v2.toNat zp)).getD v3.toNat zb)).sz≤(2000000:Nat)) (cndO (!zai (Term.ids ((Agg.t (r.aggs.getD v2.toNat zp)).getD v3.toNat zb)) db) (some (.ret,(z84 r db v2 v3))) (zm9 m (z84 r db v2 (IntKind.i64.wrap (v3+1))))))))) (some (.exit 6,(z84 r db v2 v3)))):=(zc5 (z5s 17) z187 _).trans (by kernel_rfl)
theorem z1i6 (m:Nat) (r:Rel) (db:List Data) (v2:Int) (v3:Int) : zmb m .ret (z84 r db v2 v3)=some (.ret,(z5k r db v2)):=by kernel_rfl
theorem z1i7 (m:Nat) (r:Rel) (db:List Data) (v2:Int) : zma m .ret (z5k r db v2)=some (z9f (false)):=by kernel_rfl
theorem z1mo (m:Nat) (r:Rel) (db:List Data) (v2:Int) (v3:Int) : zmb m (.exit 6) (z84 r db v2 v3)=zd3 m (z5k r db (IntKind.i64.wrap (v2+1))):=by kernel_rfl
theorem z1y3 (m:Nat) (r:Rel) (db:List Data) (hr:WS .rel r) (_hd:WL .data db) (hm:2*r.ht+1<m+1) (h:r.sz≤2000000) : z1f1 m r db=some (z9f (zce r db)):=by
 obtain⟨p1,p2⟩:=zva r;have h3:=r.sz_eq
 have l3:=z32 (L:=zd3 m) (st:=fun i=>z5k r db i) (C:=zma m) (e:=.exit 4) (fun b=>some (z9f b)) (l:=r.aggs) (d:=zp) (fun a=>a.t.all fun t=>fitT db t) (hr.rel_aggs).len
  (fun i k hi hk hmem=>by
   have li:=z32 (L:=zm9 m) (st:=fun j=>z84 r db i j) (C:=zmb m) (e:=.exit 6) (fun b=>if b=true then zd3 m (z5k r db (IntKind.i64.wrap ((i:Int)+1))) else some (.ret,z5k r db i)) (l:=k.t) (d:=zb) (fun t=>fitT db t) (by have:=z62 k.t;have:=zo8 hmem;have:=k.sz_eq;omega)
    (fun j t hj ht htm=>by
     rw[z189];simp only[hk,z8,hi,hj,decide_true,if_true,and_true,y5,ht,Term.ids_eq]
     grind [z6,zai,fitT])
    (by rw[z189];simp_all [z8,y5,decide_eq_true_eq,z6,if_neg]) (fun j=>z1i6 _ _ _ _ _) (fun j=>z1mo _ _ _ _ _)
   simp_all [z188,z8,decide_true,if_true])
  (by rw[z188];simp [z8]) (fun i=>z1i7 _ _ _ _) (fun i=>z1mn _ _ _ _)
 have l2:=z32 (L:=zpt m) (st:=fun i=>z9m r db i) (C:=zpv m) (e:=.exit 2) (fun b=>some (z9f (b && r.aggs.all fun a=>a.t.all fun t=>fitT db t))) (l:=r.terms) (d:=zb) (fun t=>fitT db t) (hr.rel_terms).len
  (fun i k hi hk hmem=>by
   rw[z1f3];simp only[z8,hi,decide_true,if_true,and_true,y5,hk,Term.ids_eq]
   grind [z6,zai,fitT])
  (by rw[z1f3];simp [z8]) (fun i=>by simp [y1p,z1mm]) (fun i=>by simp_all [y18,z1s6,trans])
 rw[z26y,z8,zce,z1bz];by_cases c : r.op=1
 ·simp_all [if_pos,Rel.ids_eq]
 ·rw[if_neg (by grind),if_neg c]
  exact z32 (L:=zps m) (st:=fun i=>z9l r db i) (C:=zpu m) (e:=.exit 0) (fun b=>some (z9f (b && (r.terms.all (fun t=>fitT db t) && r.aggs.all fun a=>a.t.all fun t=>fitT db t)))) (l:=r.kids) (d:=za) (fun t=>fitR db t) (hr.rel_kids).len
   (fun i k hi hk hmem=>by
    have h1:=Rel.ht_kid hmem;have h2:=z9z hmem;rw[z1f2];simp only[z8,hi,decide_true,if_true,and_true,y5,hk,Rel.ids_eq]
    grind [z6,zce,fitR])
   (by rw[z1f2];simp [z8]) (fun i=>by simp [y1p,z1ml]) (fun i=>by simp_all [y18,z1s5,trans])
theorem z224 (m:Nat) (hG:z1s4 m) : FnOK 41 (zpn (m+1)):=fnK2 zq z10 (M:=(z7w m)) rfl ⟨z26w,hG.2,hG.1,trivial⟩ trivial trivial trivial trivial Tryz.func41 fun r db=>GiF.r fun w o=>z1y3 m r db (wfA_ w 0) (wfA_ w 1) (obA_ o 0) (obA_ o 1)
theorem zpw : ∀ m,z1s4 m
 | 0=>⟨fnZ2,fnZ2⟩
 | m+1=>⟨z223 m (zpw m),z224 m (zpw m)⟩
def z1mp : FnC Un:=fnF2 (dS .term) (dL .data) fun t db=>([t.sz≤2000000],z9f (zai t db))
theorem z26z : FnOK 20 z1mp:=fnA2 fun m=>(zpw m).1
def z1mq : FnC Un:=fnF2 (dS .rel) (dL .data) fun r db=>([r.sz≤2000000],z9f (zce r db))
theorem z270 : FnOK 41 z1mq:=fnA2 fun m=>(zpw m).2
end
end B
namespace B
open Go Go.RowKit
set_option maxRecDepth 100000
noncomputable section
attribute [local irreducible] awp ctxK zu z1d retQ z1p awf ctxF z1o
def z1f4 (k:Int) : Option (RF Un):=fnF_ z1du z269 Tryz.f110 0 [.d] [.d (.v (.s (.int .i64 k)))]
theorem z271 (k:Int) : z1f4 k=cndO (k == 0) (some (z9f (true))) (cndO (k == 1) (some (z9f (true))) (cndO (k == 2) (some (z9f (true))) (some (z9f (k == 3))))):=by kernel_rfl
def z1c0 {σ α:Type} (f:σ→α→Option σ) : σ→List α→Option σ
 | a,[]=>some a
 | a,x::l=>match f a x with | some b=>z1c0 f b l | none=>none
theorem z225 {σ α β:Type} {L:S Un→Option (EX Un)} {st rt:σ→Int→S Un} {C:Exit→S Un→Option β} (R:Option σ→Option β) {l:List α} {d:α} {e:Exit} (f:σ→α→Option σ) (Inv:Nat→σ→Prop) (hl:l.length≤9223372036854775807)
  (step:∀ (a:σ) (i:Nat) (x:α),(i:Int)<(l.length:Int)→l.getD i d=x→x∈l→Inv i a→(∀ b,f a x=some b→Inv (i+1) b)∧L (st a i)=match f a x with | some b=>L (st b (IntKind.i64.wrap ((i:Int)+1))) | none=>some (.ret,rt a i))
  (stop:∀ a,L (st a (l.length:Int))=some (e,st a (l.length:Int))) (r1:∀ (a:σ) (i:Int),C .ret (rt a i)=R none) (r2:∀ a,C e (st a (l.length:Int))=R (some a)) (a:σ) (h0:Inv 0 a) : (L (st a 0)).bind (zd C)=R (z1c0 f a l):=by
 have key:∀ (r:List α) (i:Nat) (a:σ),l.drop i=r→i≤l.length→Inv i a→(L (st a i)).bind (zd C)=R (z1c0 f a r):=by
  intro r
  induction r with
  | nil =>
   intro i a hr hi _;have : l.length≤i:=y1n.1 hr;have e:i=l.length:=by omega
   rw[e,stop];exact r2 _
  | cons x r ih =>
   intro i a hr hi hI;have hlt:i<l.length:=by
    grind
   have hx:l.getD i d=x:=by
    have:=y25 (xs:=l) (i:=i) (j:=0);grind
   have hm:x∈l:=by grind
   have hr2:l.drop (i+1)=r:=by grind [List.tail_drop]
   obtain⟨hs1,hs2⟩:=step a i x (by omega) hx hm hI;rw[hs2];simp only[z1c0];cases hq : f a x with
   | none=>exact r1 _ _
   | some b =>
    grind [z40]
 grind
def z4t (k:Int) : Bool:=decide (k=0∨k=1∨k=2∨k=3)
theorem z1y4 (k:Int) (_h:WI k) : z1f4 k=some (z9f (z4t k)):=by
 rw[z271];unfold z4t;simp only[z8,beq_iff_eq];grind
def zth : FnC Un:=fnF1 (dI .i64) fun k=>([],z9f (z4t k))
theorem zz7 : FnOK 110 zth:=fnK1 z1c (M:=z1du) rfl trivial trivial trivial trivial trivial Tryz.func110 fun k=>GiF.r fun w _=>z1y4 k (wfA_ w 0)
def z1ms : Mc Un:=mcF_ [(110,zth)] [] [] [] []
def z1f5 (a:Int) (b:Int) : Option (RF Un):=fnF_ z1ms z269 Tryz.f108 0 [.d] [.d (.v (.s (.int .i64 a))),.d (.v (.s (.int .i64 b)))]
theorem z272 (a:Int) (b:Int) : z1f5 a b=cndO (z4t a) (cndO (z4t b) (cndO (a == b) (some (z9f (true))) (cndO (a == 0) (some (z9f (true))) (some (z9f (b == 0))))) (some (z9f (false)))) (some (z9f (false))):=by kernel_rfl
def z6s (a b:Int) : Bool:=z4t a && z4t b && decide (a=b∨a=0∨b=0)
theorem z1y5 (a b:Int) (_ha:WI a) (_hb:WI b) : z1f5 a b=some (z9f (z6s a b)):=by
 rw[z272];unfold z6s;cases z4t a
 ·rfl
 cases z4t b
 ·rfl
 simp only[z8,if_true,beq_iff_eq];grind
def zmc : FnC Un:=fnF2 (dI .i64) (dI .i64) fun a b=>([],z9f (z6s a b))
theorem zpx : FnOK 108 zmc:=fnK2 z1c z1c (M:=z1ms) rfl ⟨zz7,trivial⟩ trivial trivial trivial trivial Tryz.func108 fun a b=>GiF.r fun w _=>z1y5 a b (wfA_ w 0) (wfA_ w 1)
def z1mt : Mc Un:=mcF_ [(108,zmc)] [] [] [] []
def zmd (r:Int×Bool) : RF Un:=([.c (.s (.int .i64 r.1)),.c (.s (.bool r.2))],[])
def z1f6 (a:Int) (b:Int) : Option (RF Un):=fnF_ z1mt z269 Tryz.f61 0 [.d,.d] [.d (.v (.s (.int .i64 a))),.d (.v (.s (.int .i64 b)))]
theorem z273 (a:Int) (b:Int) : z1f6 a b=cndO (!z6s a b) (some (zmd ((0:Int),false))) (cndO (a == 0) (some (zmd (b,true))) (some (zmd (a,true)))):=by kernel_rfl
def z63 (a b:Int) : Int×Bool:=if z6s a b=true then (if a=0 then (b,true) else (a,true)) else (0,false)
theorem z1y6 (a b:Int) (_ha:WI a) (_hb:WI b) : z1f6 a b=some (zmd (z63 a b)):=by
 rw[z273];unfold z63;cases z6s a b
 ·rfl
 ·rw[y4a,z8,if_neg (by simp),z8,if_pos rfl];grind
def zti : FnC Un:=fnF2 (dI .i64) (dI .i64) fun a b=>([],zmd (z63 a b))
theorem zz8 : FnOK 61 zti:=fnK2 z1c z1c (M:=z1mt) rfl ⟨zpx,trivial⟩ trivial trivial trivial trivial Tryz.func61 fun a b=>GiF.r fun w _=>z1y6 a b (wfA_ w 0) (wfA_ w 1)
def z9n (l:List Int) (k:Int) (v0:Int) : S Un:=(st 19 19 76 0 [(0,al .int l),(1,ai k),(4,ab false),(5,ai v0)] [] [])
def zpy : S Un→Option (EX Un):=lpF_ z1mt z17l Tryz.f106 [1,0,1,2,2] 2
def zpz : Exit→S Un→Option (RF Un):=cxF_ z1mt z17l Tryz.f106 [1,0,1,2] [.d]
def z1f7 (l:List Int) (k:Int) : Option (RF Un):=fnF_ z1mt z17l Tryz.f106 0 [.d] [.d (.v (.dat (U:=Un) Ty.int l)),.d (.v (.s (.int .i64 k)))]
theorem z274 (l:List Int) (k:Int) : z1f7 l k=(zpy (z9n l k (0:Int))).bind (zd zpz):=by kernel_rfl
theorem z1f8 (l:List Int) (k:Int) (v0:Int) : zpy (z9n l k v0)=cndO (decide (v0<(↑l.length:Int))) (obO (0≤v0∧v0<(↑l.length:Int)) (cndO (!z6s (l.getD v0.toNat (0:Int)) k) (some (.ret,(z9n l k v0))) (zpy (z9n l k (IntKind.i64.wrap (v0+1)))))) (some (.exit 0,(z9n l k v0))):=lpQ_ (by kernel_rfl)
theorem z1mu (l:List Int) (k:Int) (v0:Int) : zpz .ret (z9n l k v0)=some (z9f (false)):=by kernel_rfl
theorem z1s7 (l:List Int) (k:Int) (v0:Int) : zpz (.exit 0) (z9n l k v0)=some (z9f (true)):=by kernel_rfl
def z1w (l:List Int) (k:Int) : Bool:=l.all fun a=>z6s a k
theorem z1y7 (l:List Int) (k:Int) (hl:WL .int l) (_hk:WI k) : z1f7 l k=some (z9f (z1w l k)):=by
 rw[z274]
 exact z32 (L:=zpy) (st:=fun i=>z9n l k i) (C:=zpz) (e:=.exit 0) (fun b=>some (z9f b)) (l:=l) (d:=0) (fun a=>z6s a k) hl.len
  (fun i x hi hx _=>by
   rw[z1f8];simp only[z8,hi,decide_true,if_true,and_true,y5,hx]
   grind [z6,z6s])
  (by rw[z1f8];simp [z8]) (fun i=>z1mu _ _ _) (fun i=>z1s7 _ _ _)
def z13k : FnC Un:=fnF2 (dL .int) (dI .i64) fun l k=>([],z9f (z1w l k))
theorem z1f9 : FnOK 106 z13k:=fnK2 z10 z1c (M:=z1mt) rfl ⟨zpx,trivial⟩ trivial trivial trivial trivial Tryz.func106 fun l k=>GiF.r fun w _=>z1y7 l k (wfA_ w 0) (wfA_ w 1)
def zmf : Mc Un:=mcF_ [(61,zti)] [] [] [] []
def zvc : Nat→NS:=nsF_ [(3,{ ts:=bl 27 61,bs:=bl 27 0,nm:=[],cs:=true })] true
def z5t (l:List Int) (v0:Int) (v1:Int) : S Un:=(st 27 27 108 0 [(0,al .int l),(2,ai (0:Int)),(3,ab false),(4,ai v0),(5,ai v1)] [] [])
def zjg : S Un→Option (EX Un):=lpF_ zmf zvc Tryz.f107 [1,1,0,1,2,2] 3
def zjh : Exit→S Un→Option (RF Un):=cxF_ zmf zvc Tryz.f107 [1,1,0,1,2] [.d,.d]
def z155 (l:List Int) : Option (RF Un):=fnF_ zmf zvc Tryz.f107 0 [.d,.d] [.d (.v (.dat (U:=Un) Ty.int l))]
theorem z1y8 (l:List Int) : z155 l=(zjg (z5t l (0:Int) (0:Int))).bind (zd zjh):=by kernel_rfl
theorem z156 (l:List Int) (v0:Int) (v1:Int) : zjg (z5t l v0 v1)=cndO (decide (v1<(↑l.length:Int))) (obO (0≤v1∧v1<(↑l.length:Int)) (cndO (!(z63 v0 (l.getD v1.toNat (0:Int))).snd) (some (.ret,(z5t l v0 v1))) (zjg (z5t l ((z63 v0 (l.getD v1.toNat (0:Int))).fst) (IntKind.i64.wrap (v1+1)))))) (some (.exit 0,(z5t l v0 v1))):=lpQ_ (by kernel_rfl)
theorem z1ct (l:List Int) (v0:Int) (v1:Int) : zjh .ret (z5t l v0 v1)=some (zmd ((0:Int),false)):=by kernel_rfl
theorem z1i8 (l:List Int) (v0:Int) (v1:Int) : zjh (.exit 0) (z5t l v0 v1)=some (zmd (v0,true)):=by kernel_rfl
def z2b3 (k x:Int) : Option Int:=if (z63 k x).2=true then some (z63 k x).1 else none
def z3m (l:List Int) : Int×Bool:=match z1c0 z2b3 0 l with | some k=>(k,true) | none=>(0,false)
theorem z1mv (l:List Int) (hl:WL .int l) : z155 l=some (zmd (z3m l)):=by
 rw[z1y8]
 exact z225 (L:=zjg) (st:=fun (k:Int) i=>z5t l k i) (C:=zjh) (e:=.exit 0) (rt:=fun (k:Int) i=>z5t l k i) (fun o=>some (zmd (match o with | some k=>(k,true) | none=>(0,false)))) (l:=l) (d:=0) z2b3 (fun _ _=>True) hl.len
  (fun a i x hi hx _ _=>by
   rw[z156];simp only[z8,hi,decide_true,if_true,and_true,y5,hx]
   grind [z6,z2b3,z63])
  (fun a=>by rw[z156];simp [z8]) (fun a i=>z1ct _ _ _) (fun a=>z1i8 _ _ _) 0 trivial
def zmg : FnC Un:=fnF1 (dL .int) fun l=>([],zmd (z3m l))
theorem zs4 : FnOK 107 zmg:=fnK1 z10 (M:=zmf) rfl ⟨zz8,trivial⟩ trivial trivial trivial trivial Tryz.func107 fun l=>GiF.r fun w _=>z1mv l (wfA_ w 0)
def z18a (k:Int) (ok:Bool) : Option (RF Un):=fnF_ z1du z269 Tryz.f105 0 [.d,.d] [.d (.v (.s (.int .i64 k))),.d (.v (cb ok))]
theorem z226 (k:Int) (ok:Bool) : z18a k ok=cndO (!ok) (some (z83 ((0:Int),(9:Int)))) (some (z83 (k,(0:Int)))):=by kernel_rfl
def zn (k:Int) (ok:Bool) : Int×Int:=if ok=true then (k,0) else (0,9)
theorem z1s8 (k:Int) (ok:Bool) (_hk:WI k) : z18a k ok=some (z83 (zn k ok)):=by
 rw[z226];cases ok<;>rfl
def zih : FnC Un:=fnF2 (dI .i64) dB fun k ok=>([],z83 (zn k ok))
theorem zmh : FnOK 105 zih:=fnK2 z1c z1ky (M:=z1du) rfl trivial trivial trivial trivial trivial Tryz.func105 fun k ok=>GiF.r fun w _=>z1s8 k ok (wfA_ w 0)
def z1fb (op:Int) : Option (RF Un):=fnF_ z1du z269 Tryz.f109 0 [.d,.d] [.d (.v (.s (.int .i64 op)))]
theorem z276 (op:Int) : z1fb op=cndO (op == 3) (some (z83 ((1:Int),(1:Int)))) (cndO (op == 4) (some (z83 ((1:Int),(1:Int)))) (cndO (op == 19) (some (z83 ((1:Int),(1:Int)))) (cndO (op == 21) (some (z83 ((2:Int),(1152921504606846976:Int)))) (cndO (op == 23) (some (z83 ((2:Int),(1152921504606846976:Int)))) (cndO (op == 22) (some (z83 ((3:Int),(3:Int)))) (cndO (decide (op≥5)) (cndO (decide (op≤18)) (some (z83 ((2:Int),(2:Int)))) (cndO (op == 20) (some (z83 ((2:Int),(2:Int)))) (some (z83 ((0:Int),(0:Int)))))) (cndO (op == 20) (some (z83 ((2:Int),(2:Int)))) (some (z83 ((0:Int),(0:Int))))))))))):=by kernel_rfl
def zke (op:Int) : Int×Int :=
 if op=3∨op=4∨op=19 then (1,1) else if op=21∨op=23 then (2,1152921504606846976) else if op=22 then (3,3) else if (5≤op∧op≤18)∨op=20 then (2,2) else (0,0)
theorem z1y9 (op:Int) (_h:WI op) : z1fb op=some (z83 (zke op)):=by
 rw[z276];unfold zke;simp only[z8,beq_iff_eq,decide_eq_true_eq,ge_iff_le];grind
def z1mx : FnC Un:=fnF1 (dI .i64) fun op=>([],z83 (zke op))
theorem z277 : FnOK 109 z1mx:=fnK1 z1c (M:=z1du) rfl trivial trivial trivial trivial trivial Tryz.func109 fun op=>GiF.r fun w _=>z1y9 op (wfA_ w 0)
end
end B
end Go.Proofs.YtjfpbchdcbhfgaaGreat
