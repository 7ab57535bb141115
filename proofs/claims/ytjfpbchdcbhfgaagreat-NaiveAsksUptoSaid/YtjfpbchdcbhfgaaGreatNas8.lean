/- Part 8 of the proof: Slight1 Slight2. -/
import Derived.Test.YtjfpbchdcbhfgaaGreatNas7
set_option linter.unusedVariables false
set_option linter.unusedSimpArgs false
namespace Go.Proofs.YtjfpbchdcbhfgaaGreat
namespace B
open Go Go.RowKit
set_option maxRecDepth 100000
noncomputable section
attribute [local irreducible] awp ctxK zx z1d retQ z1o awf ctxF z1l
def zqh (r:List Term) : RF Un:=([.c (.sl (U:=Un) Ty.term r false)],[])
def zqi : Nat→NS:=nsF_ [(3,{ ts:=bl 25 26,bs:=bl 25 2,nm:=[(.sl 3,100)],cs:=true })] true
def z9g (r:Rel) (v0:Int) (v1:List Term) : S Un:=(st 25 25 101 0 [(1,ax 1),(3,ao 100),(4,ai v0)] [(1,bg .rel r)] [(100,some ⟨(0:Nat),Ty.term,v1,some (0:Nat),true⟩)])
def zg6 : S Un→Option (EX Un):=lpF_ z1c5 zqi Tryz.f75 [1,1,0,1,2,2] 3
def zyz : Exit→S Un→Option (RF Un):=cxF_ z1c5 zqi Tryz.f75 [1,1,0,1,2] [.d]
def zz0 (r:Rel) : Option (RF Un):=fnF_ z1c5 zqi Tryz.f75 1 [.d] [.d (.agg (enc Ty.rel r))]
theorem z1pe (r:Rel) : zz0 r=obO ((0+r.terms.length)*(128:Nat)≤zf) ((zg6 (z9g r (0:Int) r.terms)).bind (zb zyz)):=by kernel_rfl
theorem zz1 (r:Rel) (v0:Int) (v1:List Term) : zg6 (z9g r v0 v1)=cndO (decide (v0<(↑r.aggs.length:Int))) (obO (0≤v0∧v0<(↑r.aggs.length:Int)) (obO ((v1.length+(Agg.t (r.aggs.getD v0.toNat zn)).length)*(128:Nat)≤zf) (zg6 (z9g r (IntKind.i64.wrap (v0+1)) (v1++Agg.t (r.aggs.getD v0.toNat zn)))))) (some (.exit 0,(z9g r v0 v1))):=lpQ_ (by kernel_rfl)
theorem z1az (r:Rel) (v0:Int) (v1:List Term) : zyz (.exit 0) (z9g r v0 v1)=some (zqh (v1)):=by kernel_rfl
def z7j : List Agg→List Term
 | []=>[]
 | a::l=>a.t++z7j l
theorem z1ju : ∀ (l:List Agg) (n:List Term),l.foldl (fun n a=>n++a.t) n=n++z7j l
 | [],n=>by simp [z7j]
 | a::l,n=>by rw[yr,z1ju l,z7j,y12]
theorem z167 : ∀ l : List Agg,szTs (z7j l)≤szAs l
 | []=>y7 _
 | a::l=>by
  have:=z167 l;have h:=a.sz_eq;grind [z7j,zx5,szAs]
theorem z1t6 : ∀ l : List Agg,htTs (z7j l)≤htAs l
 | []=>y7 _
 | .mk n d t::l=>by
  have:=z1t6 l;have h:∀ a b : List Term,htTs (a++b)=max (htTs a) (htTs b):=fun a b=>by
   induction a with
   | nil=>rfl
   | cons x a ih=>simp_all [y16,htTs]
  grind [z7j,htAs,Agg.ht,Agg.t_mk]
def zu (r:Rel) : List Term:=r.terms++z7j r.aggs
theorem znv (r:Rel) : (zu r).length≤r.sz:=by
 have h:=z5s (zu r);have h2:=z167 r.aggs;have h3:=r.sz_eq;grind [zu,zx5]
theorem z8z {r:Rel} {t:Term} (h:t∈zu r) : t.ht<r.ht∧t.sz<r.sz:=by
 have h2:=z167 r.aggs;have h3:=r.sz_eq;have h4:=z1t6 r.aggs;have h5:htTs r.terms<r.ht∧htAs r.aggs<r.ht:=by cases r;grind [Rel.ht,Rel.terms_mk,Rel.aggs_mk]
 rcases yc.1 h with h | h
 ·exact⟨by have:=zbf h;omega,by have:=zj9 h;omega⟩
 ·exact⟨by have:=zbf h;omega,by have:=zj9 h;omega⟩
theorem z1fv (r:Rel) (hr:WS .rel r) (h:r.sz≤2000000) : zz0 r=some (zqh (zu r)):=by
 have h3:=r.sz_eq;have hl:=z5s r.terms
 obtain⟨lp,_⟩:=z1p (e:=.exit 0) (L:=zg6) (st:=fun (n:List Term) i=>z9g r i n) (l:=r.aggs) (d:=zn) (g:=fun n a=>n++a.t) (fun i n=>n.length+szAs (r.aggs.drop i)≤2000000) (hr.rel_aggs).len
  (fun n i a hi ha hI=>by
   have hd:=zjp (d:=zn) (show i<r.aggs.length by omega);rw[hd,ha] at hI;simp only[szAs] at hI;have h1:=a.sz_eq;have h2:=z5s a.t;rw[zz1];simp only[z7,hi,decide_true,if_true,and_true,y5,ha]
   grind [z6,zf])
  (fun n _=>by rw[zz1];simp [z7]) r.terms (by grind)
 rw[z1ju] at lp;rw[z1pe,z6 (by grind [zf])];refine (ze lp).trans ?_;rw[z1az];rfl
def zqj : FnC Un:=fnF1 (dS .rel) fun r=>([r.sz≤2000000],zqh (zu r))
theorem zz2 : FnOK 75 zqj:=fnK1 zo (M:=z1c5) rfl trivial trivial trivial trivial trivial Tryz.func75 fun r=>GiF.r fun w o=>z1fv r (wfA_ w 0) (obA_ o 0)
def capI (n x:Int) : Int:=List.foldl (fun a b=>if b<a then b else a) (IntKind.i64.wrap (n+x)) [(1048576:Int)]
def maxI (n x:Int) : Int:=List.foldl (fun a b=>if a<b then b else a) n [x]
mutual
def zkj : Term→Int
 | .mk op _ _ _ _ kids sub _=>zf7 (ze0 (if op=2 then 1 else 0) kids) sub
def ze0 : Int→List Term→Int
 | n,[]=>n
 | n,t::l=>ze0 (capI n (zkj t)) l
def z2bf : Int→Agg→Int
 | n,.mk _ _ t=>ze0 n t
def z1a9 : Int→List Agg→Int
 | n,[]=>n
 | n,a::l=>z1a9 (z2bf n a) l
def zsm : Rel→Int
 | .mk _ _ _ kids terms aggs _ _ _ _ _=>z1a9 (ze0 (zf7 0 kids) terms) aggs
def zf7 : Int→List Rel→Int
 | n,[]=>n
 | n,r::l=>zf7 (capI n (zsm r)) l
end
theorem z6g : ∀ (l:List Term) (n:Int),l.foldl (fun n t=>capI n (zkj t)) n=ze0 n l
 | [],n=>by rfl
 | t::l,n=>by rw[yr,z6g l,ze0]
theorem zqk : ∀ (l:List Rel) (n:Int),l.foldl (fun n t=>capI n (zsm t)) n=zf7 n l
 | [],n=>by rfl
 | t::l,n=>by rw[yr,zqk l,zf7]
theorem z168 : ∀ (l:List Agg) (n:Int),ze0 n (z7j l)=z1a9 n l
 | [],n=>by rfl
 | .mk a b t::l,n=>by
  rw[z7j,z1a9,← z168 l,← z6g,y2e,z6g,z6g,z2bf,Agg.t_mk]
theorem z2bg (t:Term) : zkj t=zf7 (ze0 (if t.op=2 then 1 else 0) t.kids) t.sub:=by cases t;rfl
theorem z27w (r:Rel) : zsm r=ze0 (zf7 0 r.kids) (zu r):=by
 unfold zu;rw[← z6g,y2e,z6g,z6g,z168];cases r;rfl
def zf8 (t:Term) : Int:=zkj t
def zkk (r:Rel) : Int:=zsm r
theorem zkl {t k:Term} (h:k∈t.kids) : k.sz<t.sz:=by have:=zj9 h;have:=t.sz_eq;omega
theorem zkm {t:Term} {k:Rel} (h:k∈t.sub) : k.sz<t.sz:=by have:=z1fn h;have:=t.sz_eq;omega
theorem z9h {t k:Rel} (h:k∈t.kids) : k.sz<t.sz:=by have:=z1fn h;have:=t.sz_eq;omega
def zkn (m:Nat) : FnC Un:=fnF1 (dS .term) fun t=>z2l (2*t.ht) m ([t.sz≤2000000],z2c (zf8 t))
def zi5 (m:Nat) : FnC Un:=fnF1 (dS .rel) fun r=>z2l (2*r.ht+1) m ([r.sz≤2000000],z2c (zkk r))
def ze1 (m:Nat) : Mc Un:=mcF_ [(76,zkn m),(133,zi5 m)] [] [] [] []
def zhg : Nat→NS:=nsF_ [(5,{ ts:=bl 42 26,bs:=bl 42 2,nm:=[],cs:=true }),(9,{ ts:=bl 42 42,bs:=bl 42 2,nm:=[],cs:=true })] true
def z7s (t:Term) (v0:Int) (v1:Int) : S Un:=(st 42 42 168 0 [(1,ax 1),(3,ai v0),(4,ai v1)] [(1,bg .term t)] [])
def zc1 (t:Term) (v0:Int) (v2:Int) : S Un:=(st 42 42 168 0 [(1,ax 1),(3,ai v0),(5,ai v2)] [(1,bg .term t)] [])
def zc2 (m:Nat) : S Un→Option (EX Un):=lpF_ (ze1 m) zhg Tryz.f76 [1,1,1,0,1,2,2] 5
def zko (m:Nat) : S Un→Option (EX Un):=lpF_ (ze1 m) zhg Tryz.f76 [1,1,1,1,0,1,2,2] 9
def zkp (m:Nat) : Exit→S Un→Option (RF Un):=cxF_ (ze1 m) zhg Tryz.f76 [1,1,1,0,1,2] [.d]
def z169 (m:Nat) : Exit→S Un→Option (RF Un):=cxF_ (ze1 m) zhg Tryz.f76 [1,1,1,1,0,1,2] [.d]
def ztg (m:Nat) (t:Term) : Option (RF Un):=fnF_ (ze1 m) zhg Tryz.f76 0 [.d] [.d (.agg (enc Ty.term t))]
theorem z1za (m:Nat) (t:Term) : ztg m t=cndO (t.op == 2) ((zc2 m (z7s t (1:Int) (0:Int))).bind (zb (zkp m))) ((zc2 m (z7s t (0:Int) (0:Int))).bind (zb (zkp m))):=by kernel_rfl
theorem z16a (m:Nat) (t:Term) (v0:Int) (v1:Int) : zc2 m (z7s t v0 v1)=cndO (decide (v1<(↑t.kids.length:Int))) (obO (0≤v1∧v1<(↑t.kids.length:Int)) (obO ((2:Nat)*(Term.ids (t.kids.getD v1.toNat za)).ht<m) (obO ((Term.ids (t.kids.getD v1.toNat za)).sz≤(2000000:Nat)) (zc2 m (z7s t (List.foldl (fun a b=>if b<a then b else a) (IntKind.i64.wrap (v0+zf8 (Term.ids (t.kids.getD v1.toNat za)))) [(1048576:Int)]) (IntKind.i64.wrap (v1+1))))))) (some (.exit 0,(z7s t v0 v1))):=lpQ_ (by kernel_rfl)
theorem z1jv (m:Nat) (t:Term) (v0:Int) (v1:Int) : zkp m (.exit 0) (z7s t v0 v1)=(zko m (zc1 t v0 (0:Int))).bind (zb (z169 m)):=by kernel_rfl
theorem z16b (m:Nat) (t:Term) (v0:Int) (v2:Int) : zko m (zc1 t v0 v2)=cndO (decide (v2<(↑t.sub.length:Int))) (obO (0≤v2∧v2<(↑t.sub.length:Int)) (obO ((2:Nat)*(Rel.ids (t.sub.getD v2.toNat z8)).ht+(1:Nat)<m) (obO ((Rel.ids (t.sub.getD v2.toNat z8)).sz≤(2000000:Nat)) (zko m (zc1 t (List.foldl (fun a b=>if b<a then b else a) (IntKind.i64.wrap (v0+zkk (Rel.ids (t.sub.getD v2.toNat z8)))) [(1048576:Int)]) (IntKind.i64.wrap (v2+1))))))) (some (.exit 2,(zc1 t v0 v2))):=lpQ_ (by kernel_rfl)
theorem z1jw (m:Nat) (t:Term) (v0:Int) (v2:Int) : z169 m (.exit 2) (zc1 t v0 v2)=some (z2c (v0)):=by kernel_rfl
theorem z1pf (m:Nat) (t:Term) (ht:WS .term t) (hm:2*t.ht<m+1) (h:t.sz≤2000000) : ztg m t=some (z2c (zf8 t)):=by
 obtain⟨lp,_⟩:=z1p (e:=.exit 0) (L:=zc2 m) (st:=fun (n:Int) i=>z7s t n i) (l:=t.kids) (d:=za) (g:=fun n k=>capI n (zkj k)) (fun _ _=>True) (ht.term_kids).len
  (fun n i k hi hk _=>by
   have hmem:k∈t.kids:=by grind
   have h1:=Term.ht_kid hmem;have h2:=zkl hmem;refine⟨trivial,?_⟩;rw[z16a];simp only[z7,hi,decide_true,if_true,and_true,y5,hk,Term.ids_eq];rw[z6 (by omega),z6 (by omega),z6 (by omega)]
   rfl)
  (fun n _=>by rw[z16a];simp [z7]) (if t.op=2 then 1 else 0) trivial
 rw[z6g] at lp
 obtain⟨lq,_⟩:=z1p (e:=.exit 2) (L:=zko m) (st:=fun (n:Int) i=>zc1 t n i) (l:=t.sub) (d:=z8) (g:=fun n k=>capI n (zsm k)) (fun _ _=>True) (ht.term_sub).len
  (fun n i k hi hk _=>by
   have hmem:k∈t.sub:=by grind
   have h1:=Term.ht_sub hmem;have h2:=zkm hmem;refine⟨trivial,?_⟩;rw[z16b];simp only[z7,hi,decide_true,if_true,and_true,y5,hk,Rel.ids_eq];rw[z6 (by omega),z6 (by omega),z6 (by omega)]
   rfl)
  (fun n _=>by rw[z16b];simp [z7]) (ze0 (if t.op=2 then 1 else 0) t.kids) trivial
 rw[zqk] at lq;have e:ztg m t=(zc2 m (z7s t (if t.op=2 then 1 else 0) (0:Int))).bind (zb (zkp m)):=by
  rw[z1za,z7];grind
 grind [ze,trans,z1jv,z1jw,zf8,z2bg]
abbrev z1fw (m:Nat) : Prop:=FnOK 76 (zkn m)∧FnOK 133 (zi5 m)
theorem z1va (m:Nat) (hG:z1fw m) : FnOK 76 (zkn (m+1)):=fnK1 zo (M:=(ze1 m)) rfl ⟨hG.1,hG.2,trivial⟩ trivial trivial trivial trivial Tryz.func76 fun t=>GiF.r fun w o=>z1pf m t (wfA_ w 0) (obA_ o 0) (obA_ o 1)
def zc3 (m:Nat) : Mc Un:=mcF_ [(133,zi5 m),(75,zqj),(76,zkn m)] [] [] [] []
def zf9 : Nat→NS:=nsF_ [(3,{ ts:=bl 40 26,bs:=bl 40 2,nm:=[],cs:=true }),(8,{ ts:=bl 40 104,bs:=bl 40 0,nm:=[],cs:=true })] true
def zah (r:Rel) (v0:Int) (v1:Int) : S Un:=(st 40 40 160 0 [(1,ax 1),(3,ai v0),(4,ai v1)] [(1,bg .rel r)] [])
def zai (r:Rel) (v0:Int) (v2:Int) : S Un:=(st 40 40 160 0 [(3,ai v0),(5,al .term (zu (Rel.ids r))),(6,ai v2)] [] [])
def zi6 (m:Nat) : S Un→Option (EX Un):=lpF_ (zc3 m) zf9 Tryz.f133 [1,1,0,1,2,2] 3
def zi7 (m:Nat) : S Un→Option (EX Un):=lpF_ (zc3 m) zf9 Tryz.f133 [1,1,1,1,0,1,2,2] 8
def z132 (m:Nat) : Exit→S Un→Option (RF Un):=cxF_ (zc3 m) zf9 Tryz.f133 [1,1,0,1,2] [.d]
def z133 (m:Nat) : Exit→S Un→Option (RF Un):=cxF_ (zc3 m) zf9 Tryz.f133 [1,1,1,1,0,1,2] [.d]
def z134 (m:Nat) (r:Rel) : Option (RF Un):=fnF_ (zc3 m) zf9 Tryz.f133 0 [.d] [.d (.agg (enc Ty.rel r))]
theorem z1vb (m:Nat) (r:Rel) : z134 m r=(zi6 m (zah r (0:Int) (0:Int))).bind (zb (z132 m)):=by kernel_rfl
theorem z135 (m:Nat) (r:Rel) (v0:Int) (v1:Int) : zi6 m (zah r v0 v1)=cndO (decide (v1<(↑r.kids.length:Int))) (obO (0≤v1∧v1<(↑r.kids.length:Int)) (obO ((2:Nat)*(Rel.ids (r.kids.getD v1.toNat z8)).ht+(1:Nat)<m) (obO ((Rel.ids (r.kids.getD v1.toNat z8)).sz≤(2000000:Nat)) (zi6 m (zah r (List.foldl (fun a b=>if b<a then b else a) (IntKind.i64.wrap (v0+zkk (Rel.ids (r.kids.getD v1.toNat z8)))) [(1048576:Int)]) (IntKind.i64.wrap (v1+1))))))) (some (.exit 0,(zah r v0 v1))):=lpQ_ (by kernel_rfl)
theorem z1fx (m:Nat) (r:Rel) (v0:Int) (v1:Int) : z132 m (.exit 0) (zah r v0 v1)=obO ((Rel.ids r).sz≤(2000000:Nat)) ((zi7 m (zai r v0 (0:Int))).bind (zb (z133 m))):=by kernel_rfl
theorem z136 (m:Nat) (r:Rel) (v0:Int) (v2:Int) : zi7 m (zai r v0 v2)=cndO (decide (v2<(↑(zu (Rel.ids r)).length:Int))) (obO (0≤v2∧v2<(↑(zu (Rel.ids r)).length:Int)) (obO ((2:Nat)*(Term.ids ((zu (Rel.ids r)).getD v2.toNat za)).ht<m) (obO ((Term.ids ((zu (Rel.ids r)).getD v2.toNat za)).sz≤(2000000:Nat)) (zi7 m (zai r (List.foldl (fun a b=>if b<a then b else a) (IntKind.i64.wrap (v0+zf8 (Term.ids ((zu (Rel.ids r)).getD v2.toNat za)))) [(1048576:Int)]) (IntKind.i64.wrap (v2+1))))))) (some (.exit 2,(zai r v0 v2))):=lpQ_ (by kernel_rfl)
theorem z1fy (m:Nat) (r:Rel) (v0:Int) (v2:Int) : z133 m (.exit 2) (zai r v0 v2)=some (z2c (v0)):=by kernel_rfl
theorem z1jx (m:Nat) (r:Rel) (hr:WS .rel r) (hm:2*r.ht+1<m+1) (h:r.sz≤2000000) : z134 m r=some (z2c (zkk r)):=by
 obtain⟨lp,_⟩:=z1p (e:=.exit 0) (L:=zi6 m) (st:=fun (n:Int) i=>zah r n i) (l:=r.kids) (d:=z8) (g:=fun n k=>capI n (zsm k)) (fun _ _=>True) (hr.rel_kids).len
  (fun n i k hi hk _=>by
   have hmem:k∈r.kids:=by grind
   have h1:=Rel.ht_kid hmem;have h2:=z9h hmem;refine⟨trivial,?_⟩;rw[z135];simp only[z7,hi,decide_true,if_true,and_true,y5,hk,Rel.ids_eq];rw[z6 (by omega),z6 (by omega),z6 (by omega)]
   rfl)
  (fun n _=>by rw[z135];simp [z7]) 0 trivial
 rw[zqk] at lp;have hlen:=znv r
 obtain⟨lq,_⟩:=z1p (e:=.exit 2) (L:=zi7 m) (st:=fun (n:Int) i=>zai r n i) (l:=zu r) (d:=za) (g:=fun n k=>capI n (zkj k)) (fun _ _=>True) (by omega)
  (fun n i k hi hk _=>by
   have hmem:k∈zu r:=by grind
   obtain⟨h1,h2⟩:=z8z hmem;refine⟨trivial,?_⟩;rw[z136];simp only[Rel.ids_eq,z7,hi,decide_true,if_true,and_true,y5,hk,Term.ids_eq];rw[z6 (by omega),z6 (by omega),z6 (by omega)]
   rfl)
  (fun n _=>by rw[z136];simp [z7,Rel.ids_eq]) (zf7 0 r.kids) trivial
 rw[z6g] at lq;rw[z1vb];refine (ze lp).trans ?_;rw[z1fx,Rel.ids_eq,z6 h];grind [ze,trans,z1fy,zkk,z27w]
theorem z1pg (m:Nat) (hG:z1fw m) : FnOK 133 (zi5 (m+1)):=fnK1 zo (M:=(zc3 m)) rfl ⟨hG.2,zz2,hG.1,trivial⟩ trivial trivial trivial trivial Tryz.func133 fun r=>GiF.r fun w o=>z1jx m r (wfA_ w 0) (obA_ o 0) (obA_ o 1)
theorem zth : ∀ m,z1fw m
 | 0=>⟨fnZ1,fnZ1⟩
 | m+1=>⟨z1va m (zth m),z1pg m (zth m)⟩
def z1ct : FnC Un:=fnF1 (dS .term) fun t=>([t.sz≤2000000],z2c (zf8 t))
theorem z1zb : FnOK 76 z1ct:=fnA1 fun m=>(zth m).1
def z27x (n:Int) (l:List Term) : Int:=l.foldl (fun n t=>maxI n (zkj t)) n
def z27y (op n most:Int) : Int:=if op=4∨op=7 then List.foldl (fun a b=>if b<a then b else a) (IntKind.i64.wrap (n*List.foldl (fun a b=>if b<a then b else a) most [(1048576:Int)])) [(1048576:Int)] else n
mutual
def z11u : Term→Int
 | .mk _ _ _ _ _ kids sub _=>zpn (zhh 1 kids) sub
def zhh : Int→List Term→Int
 | n,[]=>n
 | n,t::l=>zhh (maxI n (z11u t)) l
def z2gv : Int→Agg→Int
 | n,.mk _ _ t=>zhh n t
def z1jy : Int→List Agg→Int
 | n,[]=>n
 | n,a::l=>z1jy (z2gv n a) l
def z1aa : Rel→Int
 | .mk op _ _ kids terms aggs _ _ _ _ _=>z27y op (z1jy (zhh (zpn 1 kids) terms) aggs) (z27x 1 (terms++z7j aggs))
def zpn : Int→List Rel→Int
 | n,[]=>n
 | n,r::l=>zpn (maxI n (z1aa r)) l
end
theorem z7k : ∀ (l:List Term) (n:Int),l.foldl (fun n t=>maxI n (z11u t)) n=zhh n l
 | [],n=>by rfl
 | t::l,n=>by rw[yr,z7k l,zhh]
theorem zxh : ∀ (l:List Rel) (n:Int),l.foldl (fun n t=>maxI n (z1aa t)) n=zpn n l
 | [],n=>by rfl
 | t::l,n=>by rw[yr,zxh l,zpn]
theorem z1cu : ∀ (l:List Agg) (n:Int),zhh n (z7j l)=z1jy n l
 | [],n=>by rfl
 | .mk a b t::l,n=>by
  rw[z7j,z1jy,← z1cu l,← z7k,y2e,z7k,z7k,z2gv,Agg.t_mk]
theorem z2f2 (t:Term) : z11u t=zpn (zhh 1 t.kids) t.sub:=by cases t;rfl
theorem z2f3 (r:Rel) : z1aa r=z27y r.op (zhh (zpn 1 r.kids) (zu r)) (z27x 1 (zu r)):=by
 unfold zu;rw[← z7k,y2e,z7k,z7k,z1cu];cases r;rfl
theorem z1t7 {α:Type} (f g:Int→α→Int) : ∀ (l:List α) (a b:Int),l.foldl (fun (p:Int×Int) x=>(f p.1 x,g p.2 x)) (a,b)=(l.foldl f a,l.foldl g b)
 | [],_,_=>rfl
 | x::l,a,b=>by rw[yr,z1t7 f g l];rfl
def zhi (t:Term) : Int:=z11u t
def zcv (r:Rel) : Int:=z1aa r
def zg7 (m:Nat) : FnC Un:=fnF1 (dS .term) fun t=>z2l (2*t.ht) m ([t.sz≤2000000],z2c (zhi t))
def zkq (m:Nat) : FnC Un:=fnF1 (dS .rel) fun r=>z2l (2*r.ht+1) m ([r.sz≤2000000],z2c (zcv r))
def zaj (m:Nat) : Mc Un:=mcF_ [(77,zg7 m),(40,zkq m)] [] [] [] []
def zdo : Nat→NS:=nsF_ [(3,{ ts:=bl 37 26,bs:=bl 37 2,nm:=[],cs:=true }),(7,{ ts:=bl 37 42,bs:=bl 37 2,nm:=[],cs:=true })] true
def z9i (t:Term) (v0:Int) (v1:Int) : S Un:=(st 37 37 148 0 [(1,ax 1),(3,ai v0),(4,ai v1)] [(1,bg .term t)] [])
def z9j (t:Term) (v0:Int) (v2:Int) : S Un:=(st 37 37 148 0 [(1,ax 1),(3,ai v0),(5,ai v2)] [(1,bg .term t)] [])
def zg8 (m:Nat) : S Un→Option (EX Un):=lpF_ (zaj m) zdo Tryz.f77 [1,1,0,1,2,2] 3
def zg9 (m:Nat) : S Un→Option (EX Un):=lpF_ (zaj m) zdo Tryz.f77 [1,1,1,0,1,2,2] 7
def zz3 (m:Nat) : Exit→S Un→Option (RF Un):=cxF_ (zaj m) zdo Tryz.f77 [1,1,0,1,2] [.d]
def zz4 (m:Nat) : Exit→S Un→Option (RF Un):=cxF_ (zaj m) zdo Tryz.f77 [1,1,1,0,1,2] [.d]
def zz5 (m:Nat) (t:Term) : Option (RF Un):=fnF_ (zaj m) zdo Tryz.f77 0 [.d] [.d (.agg (enc Ty.term t))]
theorem z1ph (m:Nat) (t:Term) : zz5 m t=(zg8 m (z9i t (1:Int) (0:Int))).bind (zb (zz3 m)):=by kernel_rfl
theorem zz6 (m:Nat) (t:Term) (v0:Int) (v1:Int) : zg8 m (z9i t v0 v1)=cndO (decide (v1<(↑t.kids.length:Int))) (obO (0≤v1∧v1<(↑t.kids.length:Int)) (obO ((2:Nat)*(Term.ids (t.kids.getD v1.toNat za)).ht<m) (obO ((Term.ids (t.kids.getD v1.toNat za)).sz≤(2000000:Nat)) (zg8 m (z9i t (List.foldl (fun a b=>if a<b then b else a) v0 [zhi (Term.ids (t.kids.getD v1.toNat za))]) (IntKind.i64.wrap (v1+1))))))) (some (.exit 0,(z9i t v0 v1))):=lpQ_ (by kernel_rfl)
theorem z1b0 (m:Nat) (t:Term) (v0:Int) (v1:Int) : zz3 m (.exit 0) (z9i t v0 v1)=(zg9 m (z9j t v0 (0:Int))).bind (zb (zz4 m)):=by kernel_rfl
theorem zz7 (m:Nat) (t:Term) (v0:Int) (v2:Int) : zg9 m (z9j t v0 v2)=cndO (decide (v2<(↑t.sub.length:Int))) (obO (0≤v2∧v2<(↑t.sub.length:Int)) (obO ((2:Nat)*(Rel.ids (t.sub.getD v2.toNat z8)).ht+(1:Nat)<m) (obO ((Rel.ids (t.sub.getD v2.toNat z8)).sz≤(2000000:Nat)) (zg9 m (z9j t (List.foldl (fun a b=>if a<b then b else a) v0 [zcv (Rel.ids (t.sub.getD v2.toNat z8))]) (IntKind.i64.wrap (v2+1))))))) (some (.exit 2,(z9j t v0 v2))):=lpQ_ (by kernel_rfl)
theorem z1b1 (m:Nat) (t:Term) (v0:Int) (v2:Int) : zz4 m (.exit 2) (z9j t v0 v2)=some (z2c (v0)):=by kernel_rfl
theorem z1fz (m:Nat) (t:Term) (ht:WS .term t) (hm:2*t.ht<m+1) (h:t.sz≤2000000) : zz5 m t=some (z2c (zhi t)):=by
 obtain⟨lp,_⟩:=z1p (e:=.exit 0) (L:=zg8 m) (st:=fun (n:Int) i=>z9i t n i) (l:=t.kids) (d:=za) (g:=fun n k=>maxI n (z11u k)) (fun _ _=>True) (ht.term_kids).len
  (fun n i k hi hk _=>by
   have hmem:k∈t.kids:=by grind
   have h1:=Term.ht_kid hmem;have h2:=zkl hmem;refine⟨trivial,?_⟩;rw[zz6];simp only[z7,hi,decide_true,if_true,and_true,y5,hk,Term.ids_eq];rw[z6 (by omega),z6 (by omega),z6 (by omega)]
   rfl)
  (fun n _=>by rw[zz6];simp [z7]) 1 trivial
 rw[z7k] at lp
 obtain⟨lq,_⟩:=z1p (e:=.exit 2) (L:=zg9 m) (st:=fun (n:Int) i=>z9j t n i) (l:=t.sub) (d:=z8) (g:=fun n k=>maxI n (z1aa k)) (fun _ _=>True) (ht.term_sub).len
  (fun n i k hi hk _=>by
   have hmem:k∈t.sub:=by grind
   have h1:=Term.ht_sub hmem;have h2:=zkm hmem;refine⟨trivial,?_⟩;rw[zz7];simp only[z7,hi,decide_true,if_true,and_true,y5,hk,Rel.ids_eq];rw[z6 (by omega),z6 (by omega),z6 (by omega)]
   rfl)
  (fun n _=>by rw[zz7];simp [z7]) (zhh 1 t.kids) trivial
 rw[zxh] at lq;rw[z1ph];grind [ze,trans,z1b0,z1b1,zhi,z2f2]
abbrev z1g0 (m:Nat) : Prop:=FnOK 77 (zg7 m)∧FnOK 40 (zkq m)
theorem z1jz (m:Nat) (hG:z1g0 m) : FnOK 77 (zg7 (m+1)):=fnK1 zo (M:=(zaj m)) rfl ⟨hG.1,hG.2,trivial⟩ trivial trivial trivial trivial Tryz.func77 fun t=>GiF.r fun w o=>z1fz m t (wfA_ w 0) (obA_ o 0) (obA_ o 1)
def ze3 (m:Nat) : Mc Un:=mcF_ [(40,zkq m),(75,zqj),(76,z1ct),(77,zg7 m)] [] [] [] []
def zhj : Nat→NS:=nsF_ [(3,{ ts:=bl 59 58,bs:=bl 59 2,nm:=[],cs:=true }),(8,{ ts:=bl 59 218,bs:=bl 59 2,nm:=[],cs:=true })] true
def z5a (r:Rel):=zu (Rel.mk r.op r.table r.cols r.kids r.terms r.aggs r.keys r.limit r.skip r.all r.rows)
def zc4 (r:Rel) (v0:Int) (v1:Int) : S Un:=(st 59 59 236 0 [(1,ax 1),(3,ai v0),(4,ai (1:Int)),(5,ai v1)] [(1,bg .rel r)] [])
def zc5 (r:Rel) (v0:Int) (v2:Int) (v3:Int) : S Un:=(st 59 59 236 0 [(1,ax 1),(3,ai v0),(4,ai v2),(6,al .term (z5a r)),(7,ai v3)] [(1,bg .rel r)] [])
def zkr (m:Nat) : S Un→Option (EX Un):=lpF_ (ze3 m) zhj Tryz.f40 [1,1,0,1,2,2] 3
def zks (m:Nat) : S Un→Option (EX Un):=lpF_ (ze3 m) zhj Tryz.f40 [1,1,1,1,0,1,2,2] 8
def z16c (m:Nat) : Exit→S Un→Option (RF Un):=cxF_ (ze3 m) zhj Tryz.f40 [1,1,0,1,2] [.d]
def z16d (m:Nat) : Exit→S Un→Option (RF Un):=cxF_ (ze3 m) zhj Tryz.f40 [1,1,1,1,0,1,2] [.d]
def z16e (m:Nat) (r:Rel) : Option (RF Un):=fnF_ (ze3 m) zhj Tryz.f40 0 [.d] [.d (.agg (enc Ty.rel r))]
theorem z1zc (m:Nat) (r:Rel) : z16e m r=(zkr m (zc4 r (1:Int) (0:Int))).bind (zb (z16c m)):=by kernel_rfl
theorem z16f (m:Nat) (r:Rel) (v0:Int) (v1:Int) : zkr m (zc4 r v0 v1)=cndO (decide (v1<(↑r.kids.length:Int))) (obO (0≤v1∧v1<(↑r.kids.length:Int)) (obO ((2:Nat)*(Rel.ids (r.kids.getD v1.toNat z8)).ht+(1:Nat)<m) (obO ((Rel.ids (r.kids.getD v1.toNat z8)).sz≤(2000000:Nat)) (zkr m (zc4 r (List.foldl (fun a b=>if a<b then b else a) v0 [zcv (Rel.ids (r.kids.getD v1.toNat z8))]) (IntKind.i64.wrap (v1+1))))))) (some (.exit 0,(zc4 r v0 v1))):=lpQ_ (by kernel_rfl)
theorem z1k0 (m:Nat) (r:Rel) (v0:Int) (v1:Int) : z16c m (.exit 0) (zc4 r v0 v1)=obO ((Rel.ids r).sz≤(2000000:Nat)) ((zks m (zc5 r v0 (1:Int) (0:Int))).bind (zb (z16d m))):=by kernel_rfl
theorem z16g (m:Nat) (r:Rel) (v0:Int) (v2:Int) (v3:Int) : zks m (zc5 r v0 v2 v3)=cndO (decide (v3<(↑(z5a r).length:Int))) (obO (0≤v3∧v3<(↑(z5a r).length:Int)) (obO ((Term.ids ((z5a r).getD v3.toNat za)).sz≤(2000000:Nat)) (obO (0≤v3∧v3<(↑(z5a r).length:Int)) (obO ((2:Nat)*(Term.ids ((z5a r).getD v3.toNat za)).ht<m) (obO ((Term.ids ((z5a r).getD v3.toNat za)).sz≤(2000000:Nat)) (zks m (zc5 r (List.foldl (fun a b=>if a<b then b else a) v0 [zhi (Term.ids ((z5a r).getD v3.toNat za))]) (List.foldl (fun a b=>if a<b then b else a) v2 [zf8 (Term.ids ((z5a r).getD v3.toNat za))]) (IntKind.i64.wrap (v3+1))))))))) (some (.exit 2,(zc5 r v0 v2 v3))):=lpQ_ (by kernel_rfl)
theorem z1k1 (m:Nat) (r:Rel) (v0:Int) (v2:Int) (v3:Int) : z16d m (.exit 2) (zc5 r v0 v2 v3)=cndO (r.op == 4) (some (z2c (List.foldl (fun a b=>if b<a then b else a) (IntKind.i64.wrap (v0*List.foldl (fun a b=>if b<a then b else a) v2 [(1048576:Int)])) [(1048576:Int)]))) (cndO (r.op == 7) (some (z2c (List.foldl (fun a b=>if b<a then b else a) (IntKind.i64.wrap (v0*List.foldl (fun a b=>if b<a then b else a) v2 [(1048576:Int)])) [(1048576:Int)]))) (some (z2c (v0)))):=by kernel_rfl
theorem z1pi (m:Nat) (r:Rel) (hr:WS .rel r) (hm:2*r.ht+1<m+1) (h:r.sz≤2000000) : z16e m r=some (z2c (zcv r)):=by
 obtain⟨lp,_⟩:=z1p (e:=.exit 0) (L:=zkr m) (st:=fun (n:Int) i=>zc4 r n i) (l:=r.kids) (d:=z8) (g:=fun n k=>maxI n (z1aa k)) (fun _ _=>True) (hr.rel_kids).len
  (fun n i k hi hk _=>by
   have hmem:k∈r.kids:=by grind
   have h1:=Rel.ht_kid hmem;have h2:=z9h hmem;refine⟨trivial,?_⟩;rw[z16f];simp only[z7,hi,decide_true,if_true,and_true,y5,hk,Rel.ids_eq];rw[z6 (by omega),z6 (by omega),z6 (by omega)]
   rfl)
  (fun n _=>by rw[z16f];simp [z7]) 1 trivial
 rw[zxh] at lp;have hlen:=znv r;have hc:z5a r=zu r:=by rfl
 obtain⟨lq,_⟩:=z1p (e:=.exit 2) (L:=zks m) (st:=fun (n:Int×Int) i=>zc5 r n.1 n.2 i) (l:=zu r) (d:=za) (g:=fun n k=>(maxI n.1 (z11u k),maxI n.2 (zkj k))) (fun _ _=>True) (by omega)
  (fun n i k hi hk _=>by
   have hmem:k∈zu r:=by grind
   obtain⟨h1,h2⟩:=z8z hmem;refine⟨trivial,?_⟩;rw[z16g];simp only[hc,z7,hi,decide_true,if_true,and_true,y5,hk,Term.ids_eq];rw[z6 (by omega),z6 (by omega),z6 (by omega),z6 (by omega),z6 (by omega)]
   rfl)
  (fun n _=>by grind [z16g,z7]) (zpn 1 r.kids,1) trivial
 rw[z1t7 (fun n k=>maxI n (z11u k)) (fun n k=>maxI n (zkj k)),z7k] at lq;rw[z1zc];refine (ze lp).trans ?_;rw[z1k0,Rel.ids_eq,z6 h];refine (ze lq).trans ?_;rw[z1k1,zcv,z2f3];unfold z27y z27x;simp only[z7,beq_iff_eq];grind
theorem z1vc (m:Nat) (hG:z1g0 m) : FnOK 40 (zkq (m+1)):=fnK1 zo (M:=(ze3 m)) rfl ⟨hG.2,zz2,z1zb,hG.1,trivial⟩ trivial trivial trivial trivial Tryz.func40 fun r=>GiF.r fun w o=>z1pi m r (wfA_ w 0) (obA_ o 0) (obA_ o 1)
theorem zti : ∀ m,z1g0 m
 | 0=>⟨fnZ1,fnZ1⟩
 | m+1=>⟨z1jz m (zti m),z1vc m (zti m)⟩
def z1cv : FnC Un:=fnF1 (dS .rel) fun r=>([r.sz≤2000000],z2c (zcv r))
theorem z1zd : FnOK 40 z1cv:=fnA1 fun m=>(zti m).2
end
end B
namespace B
open Go Go.RowKit
set_option maxRecDepth 100000
noncomputable section
attribute [local irreducible] awp ctxK zx z1d retQ z1o awf ctxF z1l
def z11w : Nat→NS:=nsF_ [(3,{ ts:=bl 29 99,bs:=bl 29 0,nm:=[],cs:=true })] true
def zbl (table:ByteArray) (db:List Data) (v0:Int) (v1:Int) : S Un:=(st 29 29 116 0 [(0,at_ table),(1,al .data db),(5,ai v0),(6,ai v1)] [] [])
def zhk : S Un→Option (EX Un):=lpF_ z1c5 z11w Tryz.f64 [1,1,0,1,2,2] 3
def z1cw : Exit→S Un→Option (RF Un):=cxF_ z1c5 z11w Tryz.f64 [1,1,0,1,2] [.d]
def z1cx (table:ByteArray) (db:List Data) : Option (RF Un):=fnF_ z1c5 z11w Tryz.f64 0 [.d] [.d (.v (cs table)),.d (.v (.dat (U:=Un) Ty.data db))]
theorem z23u (table:ByteArray) (db:List Data) : z1cx table db=(zhk (zbl table db (0:Int) (0:Int))).bind (zb z1cw):=by kernel_rfl
theorem z1cy (table:ByteArray) (db:List Data) (v0:Int) (v1:Int) : zhk (zbl table db v0 v1)=cndO (decide (v1<(↑db.length:Int))) (obO (0≤v1∧v1<(↑db.length:Int)) (cndO ((db.getD v1.toNat z33).table.toList == table.toList) (obO (0≤v1∧v1<(↑db.length:Int)) (zhk (zbl table db (IntKind.i64.wrap (v0+(↑(db.getD v1.toNat z33).rows.length:Int))) (IntKind.i64.wrap (v1+1))))) (zhk (zbl table db v0 (IntKind.i64.wrap (v1+1)))))) (some (.exit 0,(zbl table db v0 v1))):=lpQ_ (by kernel_rfl)
theorem z1pj (table:ByteArray) (db:List Data) (v0:Int) (v1:Int) : z1cw (.exit 0) (zbl table db v0 v1)=some (z2c (v0)):=by kernel_rfl
theorem zak {σ α:Type} {L:S Un→Option (EX Un)} {st:σ→Int→S Un} {l:List α} {d:α} (g:σ→α→σ) {e:Exit} (hl:l.length≤9223372036854775807)
  (step:∀ (a:σ) (i:Nat) (x:α),(i:Int)<(l.length:Int)→l.getD i d=x→x∈l→L (st a i)=L (st (g a x) (IntKind.i64.wrap ((i:Int)+1))))
  (stop:∀ a,L (st a (l.length:Int))=some (e,st a (l.length:Int))) (a:σ) : L (st a (0:Int))=some (e,st (l.foldl g a) (l.length:Int)) :=
 (z1p (e:=e) (L:=L) (st:=st) (l:=l) (d:=d) (g:=g) (fun _ _=>True) hl (fun a i x hi hx _=>⟨trivial,step a i x hi hx (by grind)⟩) (fun a _=>stop a) a trivial).1
def addI (n x:Int) : Int:=IntKind.i64.wrap (n+x)
def minI (a b:Int) : Int:=List.foldl (fun a b=>if b<a then b else a) a [b]
def zkt (table:ByteArray) (n:Int) (d:Data) : Int:=if (d.table.toList == table.toList)=true then addI n d.rows.length else n
def zbm (table:ByteArray) (db:List Data) : Int:=db.foldl (zkt table) 0
theorem z1vd (table:ByteArray) (db:List Data) (_ht:WStr table) (hd:WL .data db) : z1cx table db=some (z2c (zbm table db)):=by
 have lp:=zak (e:=.exit 0) (L:=zhk) (st:=fun (n:Int) i=>zbl table db n i) (l:=db) (d:=z33) (zkt table) hd.len
  (fun n i k hi hk _=>by
   rw[z1cy];simp only[z7,hi,decide_true,if_true,and_true,y5,hk];rw[z6 (by omega),z6 (by omega)];unfold zkt;by_cases c : (k.table.toList == table.toList)=true
   ·rw[if_pos c,if_pos c];rfl
   grind)
  (fun n=>by rw[z1cy];simp [z7]) 0
 rw[z23u];refine (ze lp).trans ?_;rw[z1pj];rfl
def z1k2 : FnC Un:=fnF2 dStr (dL .data) fun table db=>([],z2c (zbm table db))
theorem z23v : FnOK 64 z1k2:=fnK2 z4j zw (M:=z1c5) rfl trivial trivial trivial trivial trivial Tryz.func64 fun table db=>GiF.r fun w _=>z1vd table db (wfA_ w 0) (wfA_ w 1)
def z16h (op held rl n:Int) (rows:List Int) (asks:Int) : Int×Int :=
 let out (i o:Int) : Int×Int:=(minI o 1048576,minI (addI n (IntKind.i64.wrap (minI i 1048576*minI asks 1048576))) 1048576)
 if op=1 then out held held
 else if rows.length=0 then out rl rl
 else if rows.length=1 then out (rows.getD 0 0) (maxI (rows.getD 0 0) 1)
 else if op=5∨op=6 then out (IntKind.i64.wrap (rows.getD 0 0*maxI (rows.getD 1 0) 1)) (IntKind.i64.wrap (rows.getD 0 0*maxI (rows.getD 1 0) 1))
 else out (IntKind.i64.wrap (rows.getD 0 0+rows.getD 1 0)) (IntKind.i64.wrap (rows.getD 0 0+rows.getD 1 0))
mutual
def wghT (db:List Data) : Term→Int
 | .mk _ _ _ _ _ kids sub _=>z1k4 db (z1ab db 0 kids) sub
def z1ab (db:List Data) : Int→List Term→Int
 | n,[]=>n
 | n,t::l=>z1ab db (capI n (wghT db t)) l
def zku (db:List Data) : Int→List Term→Int
 | n,[]=>n
 | n,t::l=>zku db (addI n (wghT db t)) l
def askA (db:List Data) : Int→Agg→Int
 | n,.mk _ _ t=>zku db n t
def zrs (db:List Data) : Int→List Agg→Int
 | n,[]=>n
 | n,a::l=>zrs db (askA db n a) l
def wghR (db:List Data) : Rel→Int×Int
 | .mk op table _ kids terms aggs _ _ _ _ rows=>z16h op (zbm table db) rows.length ((z1k3 db kids).foldl (fun n p=>addI n p.2) 0) ((z1k3 db kids).map (·.1)) (zrs db (zku db 1 terms) aggs)
def z1k3 (db:List Data) : List Rel→List (Int×Int)
 | []=>[]
 | r::l=>wghR db r::z1k3 db l
def z1k4 (db:List Data) : Int→List Rel→Int
 | n,[]=>n
 | n,r::l=>z1k4 db (capI n (wghR db r).2) l
end
theorem zrt (db:List Data) : ∀ (l:List Term) (n:Int),l.foldl (fun n t=>capI n (wghT db t)) n=z1ab db n l
 | [],n=>by rfl
 | t::l,n=>by rw[yr,zrt db l,z1ab]
theorem z8t (db:List Data) : ∀ (l:List Term) (n:Int),l.foldl (fun n t=>addI n (wghT db t)) n=zku db n l
 | [],n=>by rfl
 | t::l,n=>by rw[yr,z8t db l,zku]
theorem z265 (db:List Data) (n:Int) (a:Agg) : askA db n a=zku db n a.t:=by cases a;rfl
theorem z1k5 (db:List Data) : ∀ (l:List Agg) (n:Int),l.foldl (fun n a=>zku db n a.t) n=zrs db n l
 | [],n=>by rfl
 | t::l,n=>by rw[yr,z1k5 db l,zrs,z265]
theorem zru (db:List Data) : ∀ (l:List Rel) (n:Int),l.foldl (fun n t=>capI n (wghR db t).2) n=z1k4 db n l
 | [],n=>by rfl
 | t::l,n=>by rw[yr,zru db l,z1k4]
theorem z1t8 (db:List Data) : ∀ l : List Rel,z1k3 db l=l.map (wghR db)
 | []=>by rfl
 | r::l=>by rw[z1k3,z1t8 db l,yt]
theorem z1pk (db:List Data) (t:Term) : wghT db t=z1k4 db (z1ab db 0 t.kids) t.sub:=by cases t;rfl
theorem z266 (db:List Data) (r:Rel) : wghR db r=z16h r.op (zbm r.table db) r.rows.length (r.kids.foldl (fun n k=>addI n (wghR db k).2) 0) (r.kids.map fun k=>(wghR db k).1) (zrs db (zku db 1 r.terms) r.aggs):=by
 cases r;simp only[wghR,z1t8,List.foldl_map,List.map_map,Rel.op_mk,Rel.table_mk,Rel.kids_mk,Rel.terms_mk,Rel.aggs_mk,Rel.rows_mk];rfl
def zga (t:Term) (db:List Data) : Int:=wghT db t
def z7l (r:Rel) (db:List Data) : Int×Int:=wghR db r
theorem z1t9 (db:List Data) : ∀ (l:List Rel) (n:Int) (x:List Int),l.foldl (fun (p:Int×List Int) k=>(addI p.1 (wghR db k).2,p.2++[(wghR db k).1])) (n,x)=(l.foldl (fun n k=>addI n (wghR db k).2) n,x++l.map fun k=>(wghR db k).1)
 | [],n,x=>by simp
 | r::l,n,x=>by rw[yr,z1t9 db l,yr,yt,y12];rfl
theorem ztj (r:Rel) : (∀ t∈r.terms,t.ht<r.ht∧t.sz<r.sz)∧∀ a∈r.aggs,∀ t∈a.t,t.ht<r.ht∧t.sz<r.sz:=by
 have h5:htTs r.terms<r.ht∧htAs r.aggs<r.ht:=by cases r;grind [Rel.ht,Rel.terms_mk,Rel.aggs_mk]
 have h3:=r.sz_eq;refine⟨fun t h=>⟨by have:=zbf h;omega,by have:=zj9 h;omega⟩,fun a ha t h=>?_⟩;have h1:=z11h ha;have h2:=zms ha;have h6:=a.sz_eq;have h7:=zbf h;have h8:=zj9 h;have h9:htTs a.t<a.ht:=by cases a;simp [Agg.t_mk,Agg.ht]
 omega
def zi8 (m:Nat) : FnC Un:=fnF2 (dS .term) (dL .data) fun t db=>z2l (2*t.ht) m ([t.sz≤2000000],z2c (zga t db))
def z7t (r:Int×Int) : RF Un:=([.c (.s (.int .i64 r.1)),.c (.s (.int .i64 r.2))],[])
def zi9 (m:Nat) : FnC Un:=fnF2 (dS .rel) (dL .data) fun r db=>z2l (2*r.ht+1) m ([r.sz≤2000000],z7t (z7l r db))
def zc6 (m:Nat) : Mc Un:=mcF_ [(34,zi8 m),(29,zi9 m)] [] [] [] []
def zfa : Nat→NS:=nsF_ [(3,{ ts:=bl 49 102,bs:=bl 49 4,nm:=[],cs:=true }),(7,{ ts:=bl 49 166,bs:=bl 49 4,nm:=[],cs:=true })] true
def zal (t:Term) (db:List Data) (v0:Int) (v1:Int) : S Un:=(st 49 49 196 0 [(1,al .data db),(2,ax 2),(5,ai v0),(6,ai v1)] [(2,bg .term t)] [])
def zam (t:Term) (db:List Data) (v0:Int) (v2:Int) : S Un:=(st 49 49 196 0 [(1,al .data db),(2,ax 2),(5,ai v0),(7,ai v2)] [(2,bg .term t)] [])
def zia (m:Nat) : S Un→Option (EX Un):=lpF_ (zc6 m) zfa Tryz.f34 [1,1,0,1,2,2] 3
def zib (m:Nat) : S Un→Option (EX Un):=lpF_ (zc6 m) zfa Tryz.f34 [1,1,1,0,1,2,2] 7
def z137 (m:Nat) : Exit→S Un→Option (RF Un):=cxF_ (zc6 m) zfa Tryz.f34 [1,1,0,1,2] [.d]
def z138 (m:Nat) : Exit→S Un→Option (RF Un):=cxF_ (zc6 m) zfa Tryz.f34 [1,1,1,0,1,2] [.d]
def z139 (m:Nat) (t:Term) (db:List Data) : Option (RF Un):=fnF_ (zc6 m) zfa Tryz.f34 0 [.d] [.d (.agg (enc Ty.term t)),.d (.v (.dat (U:=Un) Ty.data db))]
theorem z1ve (m:Nat) (t:Term) (db:List Data) : z139 m t db=(zia m (zal t db (0:Int) (0:Int))).bind (zb (z137 m)):=by kernel_rfl
theorem z13a (m:Nat) (t:Term) (db:List Data) (v0:Int) (v1:Int) : zia m (zal t db v0 v1)=cndO (decide (v1<(↑t.kids.length:Int))) (obO (0≤v1∧v1<(↑t.kids.length:Int)) (obO ((2:Nat)*(Term.ids (t.kids.getD v1.toNat za)).ht<m) (obO ((Term.ids (t.kids.getD v1.toNat za)).sz≤(2000000:Nat)) (zia m (zal t db (List.foldl (fun a b=>if b<a then b else a) (IntKind.i64.wrap (v0+zga (Term.ids (t.kids.getD v1.toNat za)) db)) [(1048576:Int)]) (IntKind.i64.wrap (v1+1))))))) (some (.exit 0,(zal t db v0 v1))):=lpQ_ (by kernel_rfl)
theorem z1g1 (m:Nat) (t:Term) (db:List Data) (v0:Int) (v1:Int) : z137 m (.exit 0) (zal t db v0 v1)=(zib m (zam t db v0 (0:Int))).bind (zb (z138 m)):=by kernel_rfl
theorem z13b (m:Nat) (t:Term) (db:List Data) (v0:Int) (v2:Int) : zib m (zam t db v0 v2)=cndO (decide (v2<(↑t.sub.length:Int))) (obO (0≤v2∧v2<(↑t.sub.length:Int)) (obO ((2:Nat)*(Rel.ids (t.sub.getD v2.toNat z8)).ht+(1:Nat)<m) (obO ((Rel.ids (t.sub.getD v2.toNat z8)).sz≤(2000000:Nat)) (zib m (zam t db (List.foldl (fun a b=>if b<a then b else a) (IntKind.i64.wrap (v0+(z7l (Rel.ids (t.sub.getD v2.toNat z8)) db).snd)) [(1048576:Int)]) (IntKind.i64.wrap (v2+1))))))) (some (.exit 2,(zam t db v0 v2))):=lpQ_ (by kernel_rfl)
theorem z1g2 (m:Nat) (t:Term) (db:List Data) (v0:Int) (v2:Int) : z138 m (.exit 2) (zam t db v0 v2)=some (z2c (v0)):=by kernel_rfl
theorem z1k6 (m:Nat) (t:Term) (db:List Data) (ht:WS .term t) (_hd:WL .data db) (hm:2*t.ht<m+1) (h:t.sz≤2000000) : z139 m t db=some (z2c (zga t db)):=by
 have lp:=zak (e:=.exit 0) (L:=zia m) (st:=fun (n:Int) i=>zal t db n i) (l:=t.kids) (d:=za) (fun n k=>capI n (wghT db k)) (ht.term_kids).len
  (fun n i k hi hk hmem=>by
   have h1:=Term.ht_kid hmem;have h2:=zkl hmem;rw[z13a];simp only[z7,hi,decide_true,if_true,and_true,y5,hk,Term.ids_eq];rw[z6 (by omega),z6 (by omega),z6 (by omega)]
   rfl)
  (fun n=>by rw[z13a];simp [z7]) 0
 rw[zrt] at lp
 have lq:=zak (e:=.exit 2) (L:=zib m) (st:=fun (n:Int) i=>zam t db n i) (l:=t.sub) (d:=z8) (fun n k=>capI n (wghR db k).2) (ht.term_sub).len
  (fun n i k hi hk hmem=>by
   have h1:=Term.ht_sub hmem;have h2:=zkm hmem;rw[z13b];simp only[z7,hi,decide_true,if_true,and_true,y5,hk,Rel.ids_eq];rw[z6 (by omega),z6 (by omega),z6 (by omega)]
   rfl)
  (fun n=>by rw[z13b];simp [z7]) (z1ab db 0 t.kids)
 rw[zru] at lq;rw[z1ve];grind [ze,trans,z1g1,z1g2,zga,z1pk]
abbrev z16i (m:Nat) : Prop:=FnOK 34 (zi8 m)∧FnOK 29 (zi9 m)
theorem z1pl (m:Nat) (hG:z16i m) : FnOK 34 (zi8 (m+1)):=fnK2 zo zw (M:=(zc6 m)) rfl ⟨hG.1,hG.2,trivial⟩ trivial trivial trivial trivial Tryz.func34 fun t db=>GiF.r fun w o=>z1k6 m t db (wfA_ w 0) (wfA_ w 1) (obA_ o 0) (obA_ o 1)
def z5b (m:Nat) : Mc Un:=mcF_ [(29,zi9 m),(34,zi8 m),(64,z1k2)] [] [] [] []
def z3w : Nat→NS:=nsF_ [(3,{ ts:=bl 156 454,bs:=bl 156 4,nm:=[(.sl 6,624)],cs:=true }),(10,{ ts:=bl 156 6342,bs:=bl 156 4,nm:=[(.sl 6,625)],cs:=true }),(14,{ ts:=bl 156 10438,bs:=bl 156 4,nm:=[(.sl 6,626)],cs:=true }),(17,{ ts:=bl 156 26822,bs:=bl 156 4,nm:=[(.sl 6,627)],cs:=true })] true
def zdp (r:Rel) (db:List Data) (v1:Int):=z7l (Rel.mk (Rel.op (r.kids.getD v1.toNat z8)) (Rel.table (r.kids.getD v1.toNat z8)) (Rel.cols (r.kids.getD v1.toNat z8)) (Rel.kids (r.kids.getD v1.toNat z8)) (Rel.terms (r.kids.getD v1.toNat z8)) (Rel.aggs (r.kids.getD v1.toNat z8)) (Rel.keys (r.kids.getD v1.toNat z8)) (Rel.limit (r.kids.getD v1.toNat z8)) (Rel.skip (r.kids.getD v1.toNat z8)) (Rel.all (r.kids.getD v1.toNat z8)) (Rel.rows (r.kids.getD v1.toNat z8))) db
def zan (r:Rel) (db:List Data) (v0:Int) (v1:Int) (v2:List Int) : S Un:=(st 156 156 628 0 [(1,al .data db),(2,ax 2),(6,ao 624),(7,ai v0),(8,ai v1)] [(2,bg .rel r)] [(624,some ⟨(0:Nat),Ty.int,v2,some (0:Nat),true⟩)])
def z9k (r:Rel) (db:List Data) (v0:Int) (v2:List Int) (v3:Int) (v4:Int) : S Un:=(st 156 156 628 0 [(1,al .data db),(2,ax 2),(6,ao 625),(7,ai v0),(11,ai v3),(12,ai v4)] [(2,bg .rel r)] [(625,some ⟨(0:Nat),Ty.int,v2,some (0:Nat),true⟩)])
def z9l (r:Rel) (db:List Data) (v0:Int) (v3:Int) (v2:List Int) (v5:Int) : S Un:=(st 156 156 628 0 [(1,al .data db),(2,ax 2),(6,ao 626),(7,ai v0),(11,ai v3),(13,ai v5)] [(2,bg .rel r)] [(626,some ⟨(0:Nat),Ty.int,v2,some (0:Nat),true⟩)])
def z9m (r:Rel) (db:List Data) (v0:Int) (v3:Int) (v5:Int) (v2:List Int) (v6:Int) : S Un:=(st 156 156 628 0 [(1,al .data db),(2,ax 2),(6,ao 627),(7,ai v0),(11,ai v3),(13,ai v5),(14,ai v6)] [(2,bg .rel r)] [(627,some ⟨(0:Nat),Ty.int,v2,some (0:Nat),true⟩)])
def zic (m:Nat) : S Un→Option (EX Un):=lpF_ (z5b m) z3w Tryz.f29 [1,1,0,1,2,2] 3
def zgb (m:Nat) : S Un→Option (EX Un):=lpF_ (z5b m) z3w Tryz.f29 [1,1,1,1,0,1,2,2] 10
def zc7 (m:Nat) : S Un→Option (EX Un):=lpF_ (z5b m) z3w Tryz.f29 [1,1,1,1,1,0,1,2,2] 14
noncomputable def zz8 : Code:=sub (sub (zi Tryz.f29) [1,1,1,1,1,0,1,2,2]) [1,0,2,1,2,2]
def zgc (m:Nat) : S Un→Option (EX Un):=z1l (z3w 17) (fun s Q=>awf (z5b m) z3w zz8 s Q)
def z13c (m:Nat) : Exit→S Un→Option (RF Un):=cxF_ (z5b m) z3w Tryz.f29 [1,1,0,1,2] [.d,.d]
def zz9 (m:Nat) : Exit→S Un→Option (RF Un):=cxF_ (z5b m) z3w Tryz.f29 [1,1,1,1,0,1,2] [.d,.d]
def zza (m:Nat) : Exit→S Un→Option (RF Un):=cxF_ (z5b m) z3w Tryz.f29 [1,1,1,1,1,0,1,2] [.d,.d]
def zzb (m:Nat) : Exit→S Un→Option (EX Un):=ctxF (z5b m) z3w (sub (zi Tryz.f29) [1,1,1,1,1,0,1,2,2]) [1,0,2,1,2] (zby (z3w 14) (zc7 m))
def z13d (m:Nat) (r:Rel) (db:List Data) : Option (RF Un):=fnF_ (z5b m) z3w Tryz.f29 4 [.d,.d] [.d (.agg (enc Ty.rel r)),.d (.v (.dat (U:=Un) Ty.data db))]
theorem z1vf (m:Nat) (r:Rel) (db:List Data) : z13d m r db=(zic m (zan r db (0:Int) (0:Int) ([]))).bind (zb (z13c m)):=by kernel_rfl
theorem z13e (m:Nat) (r:Rel) (db:List Data) (v0:Int) (v1:Int) (v2:List Int) : zic m (zan r db v0 v1 v2)=cndO (decide (v1<(↑r.kids.length:Int))) (obO (0≤v1∧v1<(↑r.kids.length:Int)) (obO ((2:Nat)*(Rel.ids (r.kids.getD v1.toNat z8)).ht+(1:Nat)<m) (obO ((Rel.ids (r.kids.getD v1.toNat z8)).sz≤(2000000:Nat)) (obO ((v2.length+[(zdp r db v1).fst].length)*(8:Nat)≤zf) (zic m (zan r db (IntKind.i64.wrap (v0+(zdp r db v1).snd)) (IntKind.i64.wrap (v1+1)) (v2++[(zdp r db v1).fst]))))))) (some (.exit 0,(zan r db v0 v1 v2))):=lpQ_ (by kernel_rfl)
theorem z1g3 (m:Nat) (r:Rel) (db:List Data) (v0:Int) (v1:Int) (v2:List Int) : z13c m (.exit 0) (zan r db v0 v1 v2)=(zgb m (z9k r db v0 v2 (1:Int) (0:Int))).bind (zb (zz9 m)):=by kernel_rfl
theorem zzc (m:Nat) (r:Rel) (db:List Data) (v0:Int) (v2:List Int) (v3:Int) (v4:Int) : zgb m (z9k r db v0 v2 v3 v4)=cndO (decide (v4<(↑r.terms.length:Int))) (obO (0≤v4∧v4<(↑r.terms.length:Int)) (obO ((2:Nat)*(Term.ids (r.terms.getD v4.toNat za)).ht<m) (obO ((Term.ids (r.terms.getD v4.toNat za)).sz≤(2000000:Nat)) (zgb m (z9k r db v0 v2 (IntKind.i64.wrap (v3+zga (Term.ids (r.terms.getD v4.toNat za)) db)) (IntKind.i64.wrap (v4+1))))))) (some (.exit 2,(z9k r db v0 v2 v3 v4))):=lpQ_ (by kernel_rfl)
theorem z1b2 (m:Nat) (r:Rel) (db:List Data) (v0:Int) (v2:List Int) (v3:Int) (v4:Int) : zz9 m (.exit 2) (z9k r db v0 v2 v3 v4)=(zc7 m (z9l r db v0 v3 v2 (0:Int))).bind (zb (zza m)):=by kernel_rfl
theorem zzd (m:Nat) (r:Rel) (db:List Data) (v0:Int) (v3:Int) (v2:List Int) (v5:Int) : zc7 m (z9l r db v0 v3 v2 v5)=cndO (decide (v5<(↑r.aggs.length:Int))) ((zgc m (z9m r db v0 v3 v5 v2 (0:Int))).bind (zb (zzb m))) (some (.exit 4,(z9l r db v0 v3 v2 v5))):=lpQ_ (by kernel_rfl)
def zqm (v0:Int) (v2:List Int) (v3:Int) : Option (RF Un):=obO ((0:Int)≤(0:Int)∧(0:Int)<(↑v2.length:Int)) (obO ((0:Int)≤(1:Int)∧(1:Int)<(↑v2.length:Int)) (some (z7t (List.foldl (fun a b=>if b<a then b else a) (IntKind.i64.wrap (v2.getD 0 (0:Int)*List.foldl (fun a b=>if a<b then b else a) (v2.getD 1 (0:Int)) [(1:Int)])) [(1048576:Int)],List.foldl (fun a b=>if b<a then b else a) (IntKind.i64.wrap (v0+IntKind.i64.wrap (List.foldl (fun a b=>if b<a then b else a) (IntKind.i64.wrap (v2.getD 0 (0:Int)*List.foldl (fun a b=>if a<b then b else a) (v2.getD 1 (0:Int)) [(1:Int)])) [(1048576:Int)]*List.foldl (fun a b=>if b<a then b else a) v3 [(1048576:Int)]))) [(1048576:Int)]))))
theorem z1b3 (m:Nat) (r:Rel) (db:List Data) (v0:Int) (v3:Int) (v2:List Int) (v5:Int) : zza m (.exit 4) (z9l r db v0 v3 v2 v5)=cndO (r.op == 1) (some (z7t (List.foldl (fun a b=>if b<a then b else a) (zbm r.table db) [(1048576:Int)],List.foldl (fun a b=>if b<a then b else a) (IntKind.i64.wrap (v0+IntKind.i64.wrap (List.foldl (fun a b=>if b<a then b else a) (zbm r.table db) [(1048576:Int)]*List.foldl (fun a b=>if b<a then b else a) v3 [(1048576:Int)]))) [(1048576:Int)]))) (cndO ((↑v2.length:Int) == (0:Int)) (some (z7t (List.foldl (fun a b=>if b<a then b else a) (↑r.rows.length:Int) [(1048576:Int)],List.foldl (fun a b=>if b<a then b else a) (IntKind.i64.wrap (v0+IntKind.i64.wrap (List.foldl (fun a b=>if b<a then b else a) (↑r.rows.length:Int) [(1048576:Int)]*List.foldl (fun a b=>if b<a then b else a) v3 [(1048576:Int)]))) [(1048576:Int)]))) (cndO ((↑v2.length:Int) == (1:Int)) (obO ((0:Int)≤(0:Int)∧(0:Int)<(↑v2.length:Int)) (some (z7t (List.foldl (fun a b=>if b<a then b else a) (List.foldl (fun a b=>if a<b then b else a) (v2.getD 0 (0:Int)) [(1:Int)]) [(1048576:Int)],List.foldl (fun a b=>if b<a then b else a) (IntKind.i64.wrap (v0+IntKind.i64.wrap (List.foldl (fun a b=>if b<a then b else a) (v2.getD 0 (0:Int)) [(1048576:Int)]*List.foldl (fun a b=>if b<a then b else a) v3 [(1048576:Int)]))) [(1048576:Int)])))) (cndO (r.op == 5) (zqm v0 v2 v3) (cndO (r.op == 6) (zqm v0 v2 v3) (obO ((0:Int)≤(0:Int)∧(0:Int)<(↑v2.length:Int)) (obO ((0:Int)≤(1:Int)∧(1:Int)<(↑v2.length:Int)) (some (z7t (List.foldl (fun a b=>if b<a then b else a) (IntKind.i64.wrap (v2.getD 0 (0:Int)+v2.getD 1 (0:Int))) [(1048576:Int)],List.foldl (fun a b=>if b<a then b else a) (IntKind.i64.wrap (v0+IntKind.i64.wrap (List.foldl (fun a b=>if b<a then b else a) (IntKind.i64.wrap (v2.getD 0 (0:Int)+v2.getD 1 (0:Int))) [(1048576:Int)]*List.foldl (fun a b=>if b<a then b else a) v3 [(1048576:Int)]))) [(1048576:Int)]))))))))):=by kernel_rfl
theorem zze (m:Nat) (r:Rel) (db:List Data) (v0:Int) (v3:Int) (v5:Int) (v2:List Int) (v6:Int) : zgc m (z9m r db v0 v3 v5 v2 v6)=obO (0≤v5∧v5<(↑r.aggs.length:Int)) (cndO (decide (v6<(↑(Agg.t (r.aggs.getD v5.toNat zn)).length:Int))) (obO (0≤v5∧v5<(↑r.aggs.length:Int)) (obO (0≤v6∧v6<(↑(Agg.t (r.aggs.getD v5.toNat zn)).length:Int)) (obO ((2:Nat)*(Term.ids ((Agg.t (r.aggs.getD v5.toNat zn)).getD v6.toNat za)).ht<m) (obO ((Term.ids ((Agg.t (r.aggs.getD v5.toNat zn)).getD v6.toNat za)).sz≤(2000000:Nat)) (zgc m (z9m r db v0 (IntKind.i64.wrap (v3+zga (Term.ids ((Agg.t (r.aggs.getD v5.toNat zn)).getD v6.toNat za)) db)) v5 v2 (IntKind.i64.wrap (v6+1)))))))) (some (.exit 6,(z9m r db v0 v3 v5 v2 v6)))):=(zbe (z3w 17) zz8 _).trans (by kernel_rfl)
theorem z1b4 (m:Nat) (r:Rel) (db:List Data) (v0:Int) (v3:Int) (v5:Int) (v2:List Int) (v6:Int) : zzb m (.exit 6) (z9m r db v0 v3 v5 v2 v6)=zc7 m (z9l r db v0 v3 v2 (IntKind.i64.wrap (v5+1))):=by kernel_rfl
theorem z1k7 (m:Nat) (r:Rel) (db:List Data) (hr:WS .rel r) (_hd:WL .data db) (hm:2*r.ht+1<m+1) (h:r.sz≤2000000) : z13d m r db=some (z7t (z7l r db)):=by
 obtain⟨p1,p2⟩:=ztj r;have hkl:=z11i r.kids;have h3:=r.sz_eq
 obtain⟨lp,_⟩:=z1p (e:=.exit 0) (L:=zic m) (st:=fun (p:Int×List Int) i=>zan r db p.1 i p.2) (l:=r.kids) (d:=z8) (g:=fun p k=>(addI p.1 (wghR db k).2,p.2++[(wghR db k).1])) (fun i p=>p.2.length=i) (hr.rel_kids).len
  (fun p i k hi hk hI=>by
   have hmem:k∈r.kids:=by grind
   have h1:=Rel.ht_kid hmem;have h2:=z9h hmem;have hc:zdp r db (i:Int)=wghR db k:=by unfold zdp z7l;rw[y5,hk];exact congrArg (wghR db) (by cases k;rfl)
   refine⟨by grind,?_⟩;rw[z13e];simp only[hc,z7,hi,decide_true,if_true,and_true,y5,hk,Rel.ids_eq];rw[z6 (by omega),z6 (by omega),z6 (by omega),z6 (by grind [zf,List.length_singleton])]
   rfl)
  (fun n _=>by rw[z13e];simp [z7]) (0,[]) rfl
 rw[z1t9] at lp
 have lq:=fun (n:Int) (x:List Int)=>zak (e:=.exit 2) (L:=zgb m) (st:=fun (a:Int) i=>z9k r db n x a i) (l:=r.terms) (d:=za) (fun n k=>addI n (wghT db k)) (hr.rel_terms).len
  (fun a i k hi hk hmem=>by
   obtain⟨h1,h2⟩:=p1 k hmem;rw[zzc];simp only[z7,hi,decide_true,if_true,and_true,y5,hk,Term.ids_eq];rw[z6 (by omega),z6 (by omega),z6 (by omega)]
   rfl)
  (fun n=>by rw[zzc];simp [z7]) 1
 have ls:=fun (n:Int) (x:List Int)=>zak (e:=.exit 4) (L:=zc7 m) (st:=fun (a:Int) i=>z9l r db n a x i) (l:=r.aggs) (d:=zn) (fun n a=>zku db n a.t) (hr.rel_aggs).len
  (fun a i k hi hk hmem=>by
   have li:=zak (e:=.exit 6) (L:=zgc m) (st:=fun (a:Int) j=>z9m r db n a i x j) (l:=k.t) (d:=za) (fun n k=>addI n (wghT db k)) (by have:=z5s k.t;have:=zms hmem;have:=k.sz_eq;omega)
    (fun a j t hj ht htm=>by
     obtain⟨h1,h2⟩:=p2 k hmem t htm;rw[zze];simp only[hk,z7,hi,hj,decide_true,if_true,and_true,y5,ht,Term.ids_eq];rw[z6 (by omega),z6 (by omega),z6 (by omega),z6 (by omega),z6 (by omega)]
     rfl)
    (fun n=>by rw[zze];simp_all [z7,y5,decide_eq_true_eq,z6,if_neg]) a
   rw[z8t] at li;rw[zzd];simp only[z7,hi,decide_true,if_true]
   grind [ze,trans,z1b4])
  (fun n=>by rw[zzd];simp [z7]) (zku db 1 r.terms)
 rw[z1vf];refine (ze lp).trans ?_;rw[z1g3];refine (ze (lq _ _)).trans ?_;rw[z8t,z1b2];refine (ze (ls _ _)).trans ?_;rw[z1k5,z1b3,z7l,z266,y10];generalize (r.kids.map fun k=>(wghR db k).1)=x;unfold z16h zqm;simp only[z7,beq_iff_eq];by_cases c1 : r.op=1
 ·rw[if_pos c1,if_pos c1];rfl
 rw[if_neg c1,if_neg c1];by_cases c2 : x.length=0
 ·rw[if_pos (by omega),if_pos c2];rfl
 rw[if_neg (by omega),if_neg c2];by_cases c3 : x.length=1
 ·rw[if_pos (by omega),if_pos c3,z6 (by omega)];rfl
 rw[if_neg (by omega),if_neg c3];by_cases c5 : r.op=5
 ·rw[if_pos c5,if_pos (.inl c5),z6 (by omega),z6 (by omega)];rfl
 by_cases c6 : r.op=6
 ·rw[if_neg c5,if_pos c6,if_pos (.inr c6),z6 (by omega),z6 (by omega)];rfl
 rw[if_neg c5,if_neg c6,if_neg (by omega),z6 (by omega),z6 (by omega)];rfl
theorem z1pm (m:Nat) (hG:z16i m) : FnOK 29 (zi9 (m+1)):=fnK2 zo zw (M:=(z5b m)) rfl ⟨hG.2,hG.1,z23v,trivial⟩ trivial trivial trivial trivial Tryz.func29 fun r db=>GiF.r fun w o=>z1k7 m r db (wfA_ w 0) (wfA_ w 1) (obA_ o 0) (obA_ o 1)
theorem zqn : ∀ m,z16i m
 | 0=>⟨fnZ2,fnZ2⟩
 | m+1=>⟨z1pl m (zqn m),z1pm m (zqn m)⟩
def z16j : FnC Un:=fnF2 (dS .rel) (dL .data) fun r db=>([r.sz≤2000000],z7t (z7l r db))
theorem z1vg : FnOK 29 z16j:=fnA2 fun m=>(zqn m).2
def hd1 (r:Rel) : Int:=if r.kids.length > 1 then 2 else IntKind.i64.wrap (1+(r.rows.length:Int))
mutual
def sizT : Term→Int
 | .mk _ _ _ _ _ kids sub _=>z1ad (zei 0 kids) sub
def zei : Int→List Term→Int
 | n,[]=>n
 | n,t::l=>zei (addI n (sizT t)) l
def sizA : Int→Agg→Int
 | n,.mk _ _ t=>zei n t
def z1ac : Int→List Agg→Int
 | n,[]=>n
 | n,a::l=>z1ac (sizA n a) l
def sizR : Rel→Int
 | .mk _ _ _ kids terms aggs _ _ _ _ rows=>z1ac (zei (zve (if kids.length > 1 then 2 else IntKind.i64.wrap (1+(rows.length:Int))) kids) terms) aggs
def zve : Int→List Rel→Int
 | n,[]=>n
 | n,r::l=>zve (addI n (sizR r)) l
def z1ad : Int→List Rel→Int
 | n,[]=>n
 | n,r::l=>z1ad (addI (addI n 4) (sizR r)) l
end
theorem zrv : ∀ (l:List Term) (n:Int),l.foldl (fun n t=>addI n (sizT t)) n=zei n l
 | [],n=>by simp only[y23,zei]
 | t::l,n=>by rw[yr,zrv l,zei]
theorem z1k8 : ∀ (l:List Rel) (n:Int),l.foldl (fun n t=>addI n (sizR t)) n=zve n l
 | [],n=>by simp only[y23,zve]
 | t::l,n=>by rw[yr,z1k8 l,zve]
theorem z1k9 : ∀ (l:List Rel) (n:Int),l.foldl (fun n t=>addI (addI n 4) (sizR t)) n=z1ad n l
 | [],n=>by simp only[y23,z1ad]
 | t::l,n=>by rw[yr,z1k9 l,z1ad]
theorem z2hg (n:Int) (a:Agg) : sizA n a=zei n a.t:=by cases a;simp only[sizA,Agg.t_mk]
theorem z1ka : ∀ (l:List Agg) (n:Int),l.foldl (fun n a=>zei n a.t) n=z1ac n l
 | [],n=>by simp only[y23,z1ac]
 | t::l,n=>by rw[yr,z1ka l,z1ac,z2hg]
theorem z2hh (t:Term) : sizT t=z1ad (zei 0 t.kids) t.sub:=by cases t;simp only[sizT,Term.kids_mk,Term.sub_mk]
theorem z2hi (r:Rel) : sizR r=z1ac (zei (zve (hd1 r) r.kids) r.terms) r.aggs:=by
 unfold hd1;cases r;simp only[sizR,Rel.kids_mk,Rel.terms_mk,Rel.aggs_mk,Rel.rows_mk];rfl
def zgd (t:Term) : Int:=sizT t
def zfb (r:Rel) : Int:=sizR r
def zid (m:Nat) : FnC Un:=fnF1 (dS .term) fun t=>z2l (2*t.ht) m ([t.sz≤2000000],z2c (zgd t))
def znx (m:Nat) : FnC Un:=fnF1 (dS .rel) fun r=>z2l (2*r.ht+1) m ([r.sz≤2000000],z2c (zfb r))
def zc8 (m:Nat) : Mc Un:=mcF_ [(21,zid m),(28,znx m)] [] [] [] []
def zfc : Nat→NS:=nsF_ [(3,{ ts:=bl 38 26,bs:=bl 38 2,nm:=[],cs:=true }),(7,{ ts:=bl 38 42,bs:=bl 38 2,nm:=[],cs:=true })] true
def zao (t:Term) (v0:Int) (v1:Int) : S Un:=(st 38 38 152 0 [(1,ax 1),(3,ai v0),(4,ai v1)] [(1,bg .term t)] [])
def zap (t:Term) (v0:Int) (v2:Int) : S Un:=(st 38 38 152 0 [(1,ax 1),(3,ai v0),(5,ai v2)] [(1,bg .term t)] [])
def zie (m:Nat) : S Un→Option (EX Un):=lpF_ (zc8 m) zfc Tryz.f21 [1,1,0,1,2,2] 3
def zif (m:Nat) : S Un→Option (EX Un):=lpF_ (zc8 m) zfc Tryz.f21 [1,1,1,0,1,2,2] 7
def z13f (m:Nat) : Exit→S Un→Option (RF Un):=cxF_ (zc8 m) zfc Tryz.f21 [1,1,0,1,2] [.d]
def z13g (m:Nat) : Exit→S Un→Option (RF Un):=cxF_ (zc8 m) zfc Tryz.f21 [1,1,1,0,1,2] [.d]
def z13h (m:Nat) (t:Term) : Option (RF Un):=fnF_ (zc8 m) zfc Tryz.f21 0 [.d] [.d (.agg (enc Ty.term t))]
theorem z1vh (m:Nat) (t:Term) : z13h m t=(zie m (zao t (0:Int) (0:Int))).bind (zb (z13f m)):=by kernel_rfl
theorem z13i (m:Nat) (t:Term) (v0:Int) (v1:Int) : zie m (zao t v0 v1)=cndO (decide (v1<(↑t.kids.length:Int))) (obO (0≤v1∧v1<(↑t.kids.length:Int)) (obO ((2:Nat)*(Term.ids (t.kids.getD v1.toNat za)).ht<m) (obO ((Term.ids (t.kids.getD v1.toNat za)).sz≤(2000000:Nat)) (zie m (zao t (IntKind.i64.wrap (v0+zgd (Term.ids (t.kids.getD v1.toNat za)))) (IntKind.i64.wrap (v1+1))))))) (some (.exit 0,(zao t v0 v1))):=lpQ_ (by kernel_rfl)
theorem z1g4 (m:Nat) (t:Term) (v0:Int) (v1:Int) : z13f m (.exit 0) (zao t v0 v1)=(zif m (zap t v0 (0:Int))).bind (zb (z13g m)):=by kernel_rfl
theorem z13j (m:Nat) (t:Term) (v0:Int) (v2:Int) : zif m (zap t v0 v2)=cndO (decide (v2<(↑t.sub.length:Int))) (obO (0≤v2∧v2<(↑t.sub.length:Int)) (obO ((2:Nat)*(Rel.ids (t.sub.getD v2.toNat z8)).ht+(1:Nat)<m) (obO ((Rel.ids (t.sub.getD v2.toNat z8)).sz≤(2000000:Nat)) (zif m (zap t (IntKind.i64.wrap (IntKind.i64.wrap (v0+4)+zfb (Rel.ids (t.sub.getD v2.toNat z8)))) (IntKind.i64.wrap (v2+1))))))) (some (.exit 2,(zap t v0 v2))):=lpQ_ (by kernel_rfl)
theorem z1g5 (m:Nat) (t:Term) (v0:Int) (v2:Int) : z13g m (.exit 2) (zap t v0 v2)=some (z2c (v0)):=by kernel_rfl
theorem z1kb (m:Nat) (t:Term) (ht:WS .term t) (hm:2*t.ht<m+1) (h:t.sz≤2000000) : z13h m t=some (z2c (zgd t)):=by
 have lp:=zak (e:=.exit 0) (L:=zie m) (st:=fun (n:Int) i=>zao t n i) (l:=t.kids) (d:=za) (fun n k=>addI n (sizT k)) (ht.term_kids).len
  (fun n i k hi hk hmem=>by
   have h1:=Term.ht_kid hmem;have h2:=zkl hmem;rw[z13i];simp only[z7,hi,decide_true,if_true,and_true,y5,hk,Term.ids_eq];rw[z6 (by omega),z6 (by omega),z6 (by omega)]
   rfl)
  (fun n=>by rw[z13i];simp [z7]) 0
 rw[zrv] at lp
 have lq:=zak (e:=.exit 2) (L:=zif m) (st:=fun (n:Int) i=>zap t n i) (l:=t.sub) (d:=z8) (fun n k=>addI (addI n 4) (sizR k)) (ht.term_sub).len
  (fun n i k hi hk hmem=>by
   have h1:=Term.ht_sub hmem;have h2:=zkm hmem;rw[z13j];simp only[z7,hi,decide_true,if_true,and_true,y5,hk,Rel.ids_eq];rw[z6 (by omega),z6 (by omega),z6 (by omega)]
   rfl)
  (fun n=>by rw[z13j];simp [z7]) (zei 0 t.kids)
 rw[z1k9] at lq;rw[z1vh];refine (ze lp).trans ?_;rw[z1g4];refine (ze lq).trans ?_;rw[z1g5,zgd,z2hh]
abbrev z1pn (m:Nat) : Prop:=FnOK 21 (zid m)∧FnOK 28 (znx m)
theorem z1po (m:Nat) (hG:z1pn m) : FnOK 21 (zid (m+1)):=fnK1 zo (M:=(zc8 m)) rfl ⟨hG.1,hG.2,trivial⟩ trivial trivial trivial trivial Tryz.func21 fun t=>GiF.r fun w o=>z1kb m t (wfA_ w 0) (obA_ o 0) (obA_ o 1)
def z7m (m:Nat) : Mc Un:=mcF_ [(28,znx m),(21,zid m)] [] [] [] []
def z5h : Nat→NS:=nsF_ [(5,{ ts:=bl 77 26,bs:=bl 77 2,nm:=[],cs:=true }),(9,{ ts:=bl 77 42,bs:=bl 77 2,nm:=[],cs:=true }),(13,{ ts:=bl 77 74,bs:=bl 77 2,nm:=[],cs:=true }),(16,{ ts:=bl 77 202,bs:=bl 77 2,nm:=[],cs:=true })] true
def z90 (r:Rel) (v0:Int) (v1:Int) : S Un:=(st 77 77 308 0 [(1,ax 1),(3,ai v0),(4,ai v1)] [(1,bg .rel r)] [])
def ze4 (r:Rel) (v0:Int) (v2:Int) : S Un:=(st 77 77 308 0 [(1,ax 1),(3,ai v0),(5,ai v2)] [(1,bg .rel r)] [])
def zc9 (r:Rel) (v0:Int) (v3:Int) : S Un:=(st 77 77 308 0 [(1,ax 1),(3,ai v0),(6,ai v3)] [(1,bg .rel r)] [])
def zca (r:Rel) (v0:Int) (v3:Int) (v4:Int) : S Un:=(st 77 77 308 0 [(1,ax 1),(3,ai v0),(6,ai v3),(7,ai v4)] [(1,bg .rel r)] [])
def ze5 (m:Nat) : S Un→Option (EX Un):=lpF_ (z7m m) z5h Tryz.f28 [1,1,1,0,1,2,2] 5
def zny (m:Nat) : S Un→Option (EX Un):=lpF_ (z7m m) z5h Tryz.f28 [1,1,1,1,0,1,2,2] 9
def zfd (m:Nat) : S Un→Option (EX Un):=lpF_ (z7m m) z5h Tryz.f28 [1,1,1,1,1,0,1,2,2] 13
noncomputable def z16k : Code:=sub (sub (zi Tryz.f28) [1,1,1,1,1,0,1,2,2]) [1,0,2,1,2,2]
def zkv (m:Nat) : S Un→Option (EX Un):=z1l (z5h 16) (fun s Q=>awf (z7m m) z5h z16k s Q)
def znz (m:Nat) : Exit→S Un→Option (RF Un):=cxF_ (z7m m) z5h Tryz.f28 [1,1,1,0,1,2] [.d]
def z1cz (m:Nat) : Exit→S Un→Option (RF Un):=cxF_ (z7m m) z5h Tryz.f28 [1,1,1,1,0,1,2] [.d]
def z16l (m:Nat) : Exit→S Un→Option (RF Un):=cxF_ (z7m m) z5h Tryz.f28 [1,1,1,1,1,0,1,2] [.d]
def z16m (m:Nat) : Exit→S Un→Option (EX Un):=ctxF (z7m m) z5h (sub (zi Tryz.f28) [1,1,1,1,1,0,1,2,2]) [1,0,2,1,2] (zby (z5h 13) (zfd m))
def zxi (m:Nat) (r:Rel) : Option (RF Un):=fnF_ (z7m m) z5h Tryz.f28 0 [.d] [.d (.agg (enc Ty.rel r))]
theorem z23w (m:Nat) (r:Rel) : zxi m r=cndO (decide ((↑r.kids.length:Int) > (1:Int))) ((ze5 m (z90 r (2:Int) (0:Int))).bind (zb (znz m))) ((ze5 m (z90 r (IntKind.i64.wrap ((1:Int)+(↑r.rows.length:Int))) (0:Int))).bind (zb (znz m))):=by kernel_rfl
theorem z1d0 (m:Nat) (r:Rel) (v0:Int) (v1:Int) : ze5 m (z90 r v0 v1)=cndO (decide (v1<(↑r.kids.length:Int))) (obO (0≤v1∧v1<(↑r.kids.length:Int)) (obO ((2:Nat)*(Rel.ids (r.kids.getD v1.toNat z8)).ht+(1:Nat)<m) (obO ((Rel.ids (r.kids.getD v1.toNat z8)).sz≤(2000000:Nat)) (ze5 m (z90 r (IntKind.i64.wrap (v0+zfb (Rel.ids (r.kids.getD v1.toNat z8)))) (IntKind.i64.wrap (v1+1))))))) (some (.exit 0,(z90 r v0 v1))):=lpQ_ (by kernel_rfl)
theorem z1pp (m:Nat) (r:Rel) (v0:Int) (v1:Int) : znz m (.exit 0) (z90 r v0 v1)=(zny m (ze4 r v0 (0:Int))).bind (zb (z1cz m)):=by kernel_rfl
theorem z1d1 (m:Nat) (r:Rel) (v0:Int) (v2:Int) : zny m (ze4 r v0 v2)=cndO (decide (v2<(↑r.terms.length:Int))) (obO (0≤v2∧v2<(↑r.terms.length:Int)) (obO ((2:Nat)*(Term.ids (r.terms.getD v2.toNat za)).ht<m) (obO ((Term.ids (r.terms.getD v2.toNat za)).sz≤(2000000:Nat)) (zny m (ze4 r (IntKind.i64.wrap (v0+zgd (Term.ids (r.terms.getD v2.toNat za)))) (IntKind.i64.wrap (v2+1))))))) (some (.exit 2,(ze4 r v0 v2))):=lpQ_ (by kernel_rfl)
theorem z1pq (m:Nat) (r:Rel) (v0:Int) (v2:Int) : z1cz m (.exit 2) (ze4 r v0 v2)=(zfd m (zc9 r v0 (0:Int))).bind (zb (z16l m)):=by kernel_rfl
theorem z16n (m:Nat) (r:Rel) (v0:Int) (v3:Int) : zfd m (zc9 r v0 v3)=cndO (decide (v3<(↑r.aggs.length:Int))) ((zkv m (zca r v0 v3 (0:Int))).bind (zb (z16m m))) (some (.exit 4,(zc9 r v0 v3))):=lpQ_ (by kernel_rfl)
theorem z1kc (m:Nat) (r:Rel) (v0:Int) (v3:Int) : z16l m (.exit 4) (zc9 r v0 v3)=some (z2c (v0)):=by kernel_rfl
theorem z16o (m:Nat) (r:Rel) (v0:Int) (v3:Int) (v4:Int) : zkv m (zca r v0 v3 v4)=obO (0≤v3∧v3<(↑r.aggs.length:Int)) (cndO (decide (v4<(↑(Agg.t (r.aggs.getD v3.toNat zn)).length:Int))) (obO (0≤v3∧v3<(↑r.aggs.length:Int)) (obO (0≤v4∧v4<(↑(Agg.t (r.aggs.getD v3.toNat zn)).length:Int)) (obO ((2:Nat)*(Term.ids ((Agg.t (r.aggs.getD v3.toNat zn)).getD v4.toNat za)).ht<m) (obO ((Term.ids ((Agg.t (r.aggs.getD v3.toNat zn)).getD v4.toNat za)).sz≤(2000000:Nat)) (zkv m (zca r (IntKind.i64.wrap (v0+zgd (Term.ids ((Agg.t (r.aggs.getD v3.toNat zn)).getD v4.toNat za)))) v3 (IntKind.i64.wrap (v4+1)))))))) (some (.exit 6,(zca r v0 v3 v4)))):=(zbe (z5h 16) z16k _).trans (by kernel_rfl)
theorem z1kd (m:Nat) (r:Rel) (v0:Int) (v3:Int) (v4:Int) : z16m m (.exit 6) (zca r v0 v3 v4)=zfd m (zc9 r v0 (IntKind.i64.wrap (v3+1))):=by kernel_rfl
theorem z1vi (m:Nat) (r:Rel) (hr:WS .rel r) (hm:2*r.ht+1<m+1) (h:r.sz≤2000000) : zxi m r=some (z2c (zfb r)):=by
 obtain⟨p1,p2⟩:=ztj r;have h3:=r.sz_eq
 have lp:=zak (e:=.exit 0) (L:=ze5 m) (st:=fun (n:Int) i=>z90 r n i) (l:=r.kids) (d:=z8) (fun n k=>addI n (sizR k)) (hr.rel_kids).len
  (fun p i k hi hk hmem=>by
   have h1:=Rel.ht_kid hmem;have h2:=z9h hmem;rw[z1d0];simp only[z7,hi,decide_true,if_true,and_true,y5,hk,Rel.ids_eq];rw[z6 (by omega),z6 (by omega),z6 (by omega)]
   rfl)
  (fun n=>by rw[z1d0];simp [z7]) (hd1 r)
 rw[z1k8] at lp
 have lq:=zak (e:=.exit 2) (L:=zny m) (st:=fun (a:Int) i=>ze4 r a i) (l:=r.terms) (d:=za) (fun n k=>addI n (sizT k)) (hr.rel_terms).len
  (fun a i k hi hk hmem=>by
   obtain⟨h1,h2⟩:=p1 k hmem;rw[z1d1];simp only[z7,hi,decide_true,if_true,and_true,y5,hk,Term.ids_eq];rw[z6 (by omega),z6 (by omega),z6 (by omega)]
   rfl)
  (fun n=>by rw[z1d1];simp [z7]) (zve (hd1 r) r.kids)
 rw[zrv] at lq
 have ls:=zak (e:=.exit 4) (L:=zfd m) (st:=fun (a:Int) i=>zc9 r a i) (l:=r.aggs) (d:=zn) (fun n a=>zei n a.t) (hr.rel_aggs).len
  (fun a i k hi hk hmem=>by
   have li:=zak (e:=.exit 6) (L:=zkv m) (st:=fun (a:Int) j=>zca r a i j) (l:=k.t) (d:=za) (fun n k=>addI n (sizT k)) (by have:=z5s k.t;have:=zms hmem;have:=k.sz_eq;omega)
    (fun a j t hj ht htm=>by
     obtain⟨h1,h2⟩:=p2 k hmem t htm;rw[z16o];simp only[hk,z7,hi,hj,decide_true,if_true,and_true,y5,ht,Term.ids_eq];rw[z6 (by omega),z6 (by omega),z6 (by omega),z6 (by omega),z6 (by omega)]
     rfl)
    (fun n=>by rw[z16o];simp only[z7,y5,hk,decide_eq_true_eq];rw[z6 (by omega),if_neg (by omega)]) a
   rw[zrv] at li;rw[z16n];simp only[z7,hi,decide_true,if_true];refine (ze li).trans ?_
   rw[z1kd])
  (fun n=>by rw[z16n];simp [z7]) (zei (zve (hd1 r) r.kids) r.terms)
 rw[z1ka] at ls;have e:zxi m r=(ze5 m (z90 r (hd1 r) (0:Int))).bind (zb (znz m)):=by
  rw[z23w,z7];unfold hd1;by_cases c : r.kids.length > 1
  ·rw[if_pos (by rw[decide_eq_true_eq];omega),if_pos c]
  ·rw[if_neg (by rw[decide_eq_true_eq];omega),if_neg c]
 rw[e];refine (ze lp).trans ?_;rw[z1pp];refine (ze lq).trans ?_;rw[z1pq];refine (ze ls).trans ?_;rw[z1kc,zfb,z2hi]
theorem z1ze (m:Nat) (hG:z1pn m) : FnOK 28 (znx (m+1)):=fnK1 zo (M:=(z7m m)) rfl ⟨hG.2,hG.1,trivial⟩ trivial trivial trivial trivial Tryz.func28 fun r=>GiF.r fun w o=>z1vi m r (wfA_ w 0) (obA_ o 0) (obA_ o 1)
theorem zxj : ∀ m,z1pn m
 | 0=>⟨fnZ1,fnZ1⟩
 | m+1=>⟨z1po m (zxj m),z1ze m (zxj m)⟩
def z1ke : FnC Un:=fnF1 (dS .rel) fun r=>([r.sz≤2000000],z2c (zfb r))
theorem z23x : FnOK 28 z1ke:=fnA1 fun m=>(zxj m).2
end
end B
end Go.Proofs.YtjfpbchdcbhfgaaGreat
