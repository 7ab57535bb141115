/- Part 18 of the proof: Snaive5 Snaive6 Sr03l. -/
import Derived.Test.YtjfpbchdcbhfgaaGreatNjo17
set_option linter.unusedVariables false
set_option linter.unusedSimpArgs false
namespace Go.Proofs.YtjfpbchdcbhfgaaGreat
namespace B
open Go Go.RowKit
set_option maxRecDepth 100000
noncomputable section
attribute [local irreducible] awp ctxK zw z1a retQ z1m awf ctxF z1l
def zt4(m:Nat):FnC Un:=fnF2 (dS .wld) (dS .term) fun w t=>z2o (8*t.ht+6) m ([z1rd w t],zwq (z5x w t))
def z8x(m:Nat):FnC Un:=fnF2 (dS .wld) (dS .term) fun w t=>z2o (8*t.ht+7) m ([okT w t],zzd (z6x w t))
def zt5(r:List Val):List (A Un):=[.c (.sl (U:=Un) Ty.val r false)]
def z17l(_r:List Val):List (Ob Un):=[]
def zt6(r:List Val):RF Un:=(zt5 r,z17l r)
def z6b(m:Nat):FnC Un:=fun args=>match args with
 |[x0,x1]=>(dS .wld x0).bind fun w=>(dL .term x1).bind fun l=>some ([8*htTs l+8<m,okTs w l],zt5 (z56 w l),z17l (z56 w l))
 |_=>none
def zqv(m:Nat):FnC Un:=fnF3 (dS .wld) (dL .term) (dL .val) fun w l x=>z2o (8*htTs l+8) m ([okSo w l x],z9b (ze8 w l x))
def z8c(m:Nat):FnC Un:=fnF3 (dS .wld) (dS .rel) (dI .i64) fun w r n=>z2o (8*r.ht+4) m ([zfl w r n],zwq (zp w r n))
def znx(m:Nat):FnC Un:=fnF2 (dS .wld) (dS .rel) fun w r=>z2o (8*r.ht+7) m ([okRl w r],zwq (z9o w r))
def zny(m:Nat):FnC Un:=fnF2 (dS .wld) (dS .rel) fun w r=>z2o (8*r.ht+6) m ([z1ky w r],zwq (zal w r))
def zkp(m:Nat):FnC Un:=fnF2 (dS .wld) (dS .rel) fun w r=>z2o (8*r.ht+6) m ([z1c4 w r],zwq (z8w w r))
def zt7(m:Nat):FnC Un:=fnF2 (dS .wld) (dS .rel) fun w r=>z2o (8*r.ht+6) m ([z1rf w r],zwq (zbu w r))
def z1ru(r:List Bunch):List (A Un):=[.c (.sl (U:=Un) Ty.bunch r false)]
def z1rv(_r:List Bunch):List (Ob Un):=[]
def zam(m:Nat):FnC Un:=fun args=>match args with
 |[x0,x1,x2]=>(dS .wld x0).bind fun w=>(dL .row x1).bind fun rows=>(dL .term x2).bind fun terms=>some ([8*htTs terms+9<m,z2eu w rows terms],z1ru (z19 w rows terms),z1rv (z19 w rows terms))
 |_=>none
def zp0(m:Nat):FnC Un:=fnF2 (dS .wld) (dS .rel) fun w r=>z2o (8*r.ht+6) m ([z1vk w r],zwq (zcf w r))
def zx0(m:Nat):FnC Un:=fnF2 (dS .wld) (dS .rel) fun w r=>z2o (8*r.ht+6) m ([z1rg w r],zwq (zbv w r))
def z1cd(m:Nat):Mc Un:=mcF_ [(45,znx m)] [] [] [] []
def z17m(m:Nat)(w:Wld)(t:Term):Option (RF Un):=fnF_ (z1cd m) z28d Tryz.f118 0 [.m] [.d (.agg (enc Ty.wld w)),.d (.agg (enc Ty.term t))]
theorem z21d(m:Nat)(w:Wld)(t:Term):z17m m w t=cndO ((↑t.sub.length:Int)==(0:Int)) (some (zwq ([]))) (obO ((0:Int)≤(0:Int)∧(0:Int)<(↑t.sub.length:Int)) (obO ((8:Nat)*(Rel.ids (t.sub.getD 0 za)).ht+(7:Nat)<m) (obO (okRl w (Rel.ids (t.sub.getD 0 za))) (some (zwq (z9o w (Rel.ids (t.sub.getD 0 za)))))))):=by kernel_rfl
theorem Term.ht_kids(t:Term):htTs t.kids<t.ht:=by cases t;grind[Term.kids_mk,Term.ht]
theorem Rel.ht_terms(r:Rel):htTs r.terms<r.ht:=by cases r;grind[Rel.terms_mk,Rel.ht]
theorem zk3{w:Wld}{t:Term}{l:Rows}(h:nSub t.sub w=some l):z5x w t=l:=by simp_all[z5x]
theorem z4y{w:Wld}{r:Rel}{l:Rows}(h:nR r w=some l):z9o w r=l:=by simp_all[z9o]
theorem zbc{w:Wld}{t:Term}{v:Val}(h:nT t w=some v):z6x w t=v:=by simp_all[z6x]
theorem zhu{w:Wld}{t:List Term}{v:List Val}(h:nTs t w=some v):z56 w t=v:=by simp_all[z56]
theorem z10k{w:Wld}{t:List Term}{x:List Val}{b:Bool}(h:nSo t (zi w x)=some b):ze8 w t x=b:=by simp_all[ze8]
theorem zx1{w:Wld}{r:Rel}{n:Nat}{l:Rows}(h:nKid r.kids n w=some l):zp w r (n:Int)=l:=by simp_all[zp,y5]
theorem z5y{w:Wld}{r:Rel}{l:Rows}(h:nKid r.kids 0 w=some l):zp w r (0:Int)=l:=zx1 (n:=0) h
theorem zuk{w:Wld}{r:Rel}{l:Rows}(h:nKid r.kids 1 w=some l):zp w r (1:Int)=l:=zx1 (n:=1) h
theorem zs7{w:Wld}{r:Rel}{l:Rows}(h:nKid r.kids 0 w=some l):zfl w r (0:Int):=⟨y2f _,l,h⟩
theorem z2jb{w:Wld}{r:Rel}{l:Rows}(h:nKid r.kids 1 w=some l):zfl w r (1:Int):=⟨by omega,l,h⟩
theorem z1rw(m:Nat)(w:Wld)(t:Term)(_hw:WS .wld w)(_ht:WS .term t)(hm:8*t.ht+6<m+1)(h:z1rd w t):z17m m w t=some (zwq (z5x w t)):=by
 obtain⟨l,hl⟩:=h;rw[zk3 hl];rw[z2bp]at hl;rw[z21d];simp only[z8,Rel.ids_eq,beq_iff_eq];by_cases h0:t.sub.length=0
 ·grind
 ·rw[if_neg h0]at hl;have hs:(t.sub.getD 0 za).ht<t.ht:=Term.ht_sub (z8r (by omega));rw[if_neg (by omega),z6 (by omega),z6 (by omega),z6 ⟨l,hl⟩,z4y hl]
abbrev z7i(m:Nat):Prop:=FnOK 118 (zt4 m)∧FnOK 67 (z8x m)∧FnOK 121 (z6b m)∧FnOK 136 (zqv m)∧FnOK 91 (z8c m)∧FnOK 45 (znx m)∧FnOK 86 (zny m)∧FnOK 87 (zkp m)∧FnOK 88 (zt7 m)∧FnOK 139 (zam m)∧FnOK 89 (zp0 m)∧FnOK 92 (zx0 m)
theorem z1vn(m:Nat)(hG:z7i m):FnOK 118 (zt4 (m+1)):=fnK2 zt zt (M:=(z1cd m)) rfl ⟨hG.2.2.2.2.2.1,trivial⟩ trivial trivial trivial trivial Tryz.func118 fun w t=>GiF.r fun w1 o=>z1rw m w t (wfA_ w1 0) (wfA_ w1 1) (obA_ o 0) (obA_ o 1)
def z1ce(m:Nat):Mc Un:=mcF_ [(117,z16x),(118,zt4 m),(39,zdb),(67,z8x m),(119,z17b),(121,z6b m),(120,zos)] [] [] [] []
def z17n(m:Nat)(w:Wld)(t:Term):Option (RF Un):=fnF_ (z1ce m) z28d Tryz.f67 0 [.d] [.d (.agg (enc Ty.wld w)),.d (.agg (enc Ty.term t))]
theorem z21e(m:Nat)(w:Wld)(t:Term):z17n m w t=cndO (t.op==1) (obO ((Term.ids t).sz≤(2000000:Nat)) (obO (strT (Term.ids t)) (obO (z6v w.env) (some (zzd (z54 (Term.ids t) w.env)))))) (cndO (t.op==2) (obO ((Term.ids t).sz≤(2000000:Nat)) (obO (strT (Term.ids t)) (obO (z6v w.env) (some (zzd (z54 (Term.ids t) w.env)))))) (cndO (t.op==26) (obO ((8:Nat)*(Term.ids t).ht+(6:Nat)<m) (obO (z1rd w (Term.ids t)) (cndO ((↑(z5x w (Term.ids t)).length:Int)==(1:Int)) (obO ((0:Int)≤(0:Int)∧(0:Int)<(↑(z5x w (Term.ids t)).length:Int)) (cndO (decide ((↑(List.length ((z5x w (Term.ids t)).getD 0 [])):Int)>(0:Int))) (obO ((0:Int)≤(0:Int)∧(0:Int)<(↑(z5x w (Term.ids t)).length:Int)) (obO ((0:Int)≤(0:Int)∧(0:Int)<(↑(List.length ((z5x w (Term.ids t)).getD 0 [])):Int)) (some (zzd (List.getD ((z5x w (Term.ids t)).getD 0 []) 0 z7))))) (some (zzd (z7))))) (some (zzd (z7)))))) (cndO (t.op==27) (obO ((8:Nat)*(Term.ids t).ht+(6:Nat)<m) (obO (z1rd w (Term.ids t)) (some (zzd (z2z (decide ((↑(z5x w (Term.ids t)).length:Int)>(0:Int)))))))) (cndO (t.op==28) (cndO ((↑t.kids.length:Int)==(0:Int)) (some (zzd (z7))) (obO ((0:Int)≤(0:Int)∧(0:Int)<(↑t.kids.length:Int)) (obO ((8:Nat)*(Term.ids (t.kids.getD 0 zb)).ht+(7:Nat)<m) (obO (okT w (Term.ids (t.kids.getD 0 zb))) (obO ((8:Nat)*(Term.ids t).ht+(6:Nat)<m) (obO (z1rd w (Term.ids t)) (some (zzd (ziz (z6x w (Term.ids (t.kids.getD 0 zb))) (z5x w (Term.ids t))))))))))) (obO ((8:Nat)*htTs t.kids+(8:Nat)<m) (obO (okTs w t.kids) (obO (txts (z56 w t.kids)) (some (zzd (z1y t.op t.name (z56 w t.kids))))))))))):=by kernel_rfl
theorem z1rx(m:Nat)(w:Wld)(t:Term)(_hw:WS .wld w)(_ht:WS .term t)(hm:8*t.ht+7<m+1)(h:okT w t):z17n m w t=some (zzd (z6x w t)):=by
 obtain⟨v,hv⟩:=h;rw[zbc hv];rw[z1rc]at hv;rw[z21e];simp only[z8,Term.ids_eq,beq_iff_eq,decide_eq_true_eq];have hkd:=Term.ht_kids t;by_cases c12:t.op=1∨t.op=2
 ·rw[if_pos c12]at hv;obtain⟨⟨h1,h2,h3⟩,h4⟩:=chkQ_some.1 hv;rcases c12 with c|c
  all_goals simp_all[if_pos,z6,if_neg]
 rw[if_neg c12]at hv;rw[if_neg (fun e=>c12 (.inl e)),if_neg (fun e=>c12 (.inr e))];by_cases c3:t.op=26
 ·rw[if_pos c3]at hv ⊢;obtain⟨l,hl,h4⟩:=y7.1 hv;rw[z6 (by omega),z6 ⟨l,hl⟩,zk3 hl];by_cases d1:l.length=1
  ·by_cases d2:0<(l.getD 0 []).length
   all_goals simp_all[if_pos,z6,if_neg]
  grind
 rw[if_neg c3]at hv ⊢;by_cases c4:t.op=27
 ·rw[if_pos c4]at hv ⊢;obtain⟨l,hl,h4⟩:=y7.1 hv;obtain rfl:=yk h4;rw[z6 (by omega),z6 ⟨l,hl⟩,zk3 hl];simp
 rw[if_neg c4]at hv ⊢;by_cases c5:t.op=28
 ·rw[if_pos c5]at hv ⊢;by_cases d:t.kids.length=0
  ·grind
  ·rw[if_neg d]at hv;obtain⟨x,hx,h4⟩:=y7.1 hv;obtain⟨l,hl,h5⟩:=y7.1 h4;obtain rfl:=yk h5;rw[z1c2,if_neg d]at hx;have hk:(t.kids.getD 0 zb).ht<t.ht:=Term.ht_kidD (by omega);rw[if_neg (by omega),z6 (by omega),z6 (by omega),z6 ⟨x,hx⟩,z6 (by omega),z6 ⟨l,hl⟩,zbc hx,zk3 hl]
 rw[if_neg c5]at hv ⊢;split at hv
 ·obtain⟨l,hl,h4⟩:=y7.1 hv;obtain⟨h5,h6⟩:=chkQ_some.1 h4;obtain rfl:=yk h6;rw[z6 (by omega),z6 ⟨by omega,l,hl⟩,zhu hl,z6 h5]
 grind
theorem z1vo(m:Nat)(hG:z7i m):FnOK 67 (z8x (m+1)):=fnK2 zt zt (M:=(z1ce m)) rfl ⟨z1us,hG.1,zsq,hG.2.1,z1vb,hG.2.2.1,zyg,trivial⟩ trivial trivial trivial trivial Tryz.func67 fun w t=>GiF.r fun w1 o=>z1rx m w t (wfA_ w1 0) (wfA_ w1 1) (obA_ o 0) (obA_ o 1)
def zk4(m:Nat):Mc Un:=mcF_ [(67,z8x m)] [] [] [] []
def zk5:Nat→NS:=nsF_ [(3,{ts:=bl 26 14372,bs:=bl 26 4,nm:=[(.sl 5,104)],cs:=true})] true
def z4c(w:Wld)(l:List Term)(v0:Int)(v1:List Val):S Un:=(st 26 26 105 0 [(2,ax 2),(5,ao 104),(11,al .term l),(12,ai (↑l.length:Int)),(13,ai v0)] [(2,bg .wld w)] [(104,some ⟨(0:Nat),Ty.val,v1,some (0:Nat),true⟩)])
def z7j(m:Nat):S Un→Option (EX Un):=lpF_ (zk4 m) zk5 Tryz.f121 [1,1,0,1,2,2] 3
def zp1(m:Nat):Exit→S Un→Option (RF Un):=cxF_ (zk4 m) zk5 Tryz.f121 [1,1,0,1,2] [.d]
def z12y(m:Nat)(w:Wld)(l:List Term):Option (RF Un):=fnF_ (zk4 m) zk5 Tryz.f121 1 [.d] [.d (.agg (enc Ty.wld w)),.d (.v (.dat (U:=Un) Ty.term l))]
theorem z1vp(m:Nat)(w:Wld)(l:List Term):z12y m w l=obO ((0:Int)≤(↑l.length:Int)∧(↑l.length:Int)≤(↑l.length:Int)∧(↑l.length:Int).toNat*(32:Nat)≤ze) ((z7j m (z4c w l (0:Int) (List.replicate (↑l.length:Int).toNat z7))).bind (zd (zp1 m))):=by kernel_rfl
theorem z12z(m:Nat)(w:Wld)(l:List Term)(v0:Int)(v1:List Val):z7j m (z4c w l v0 v1)=cndO (decide (v0<(↑l.length:Int))) (obO (0≤v0∧v0<(↑l.length:Int)) (obO ((8:Nat)*(Term.ids (l.getD v0.toNat zb)).ht+(7:Nat)<m) (obO (okT w (Term.ids (l.getD v0.toNat zb))) (obO (0≤v0∧v0<(↑v1.length:Int)) (obO ((0:Nat)≤v0.toNat) (z7j m (z4c w l (IntKind.i64.wrap (v0+1)) (v1.set v0.toNat (z6x w (Term.ids (l.getD v0.toNat zb))))))))))) (some (.exit 0,(z4c w l v0 v1))):=lpQ_ (by kernel_rfl)
theorem z1en(m:Nat)(w:Wld)(l:List Term)(v0:Int)(v1:List Val):zp1 m (.exit 0) (z4c w l v0 v1)=some (zt6 (v1)):=by kernel_rfl
theorem z1yy{α β:Type}{f:α→Option β}:∀{l:List α}{s:List β}(i:Nat),mapQ f l=some s→mapQ f (l.drop i)=some (s.drop i)
 |_,_,0,h=>h
 |[],s,i+1,h=>by simp_all[mapQ,y8]
 |x::l,s,i+1,h=>by
  obtain⟨y,r,h1,h2,rfl⟩:=zs3 h;exact z1yy i h2
theorem z1l7(m:Nat)(w:Wld)(l:List Term)(_hw:WS .wld w)(hl:WL .term l)(hm:8*htTs l+8<m+1)(h:okTs w l):z12y m w l=some (zt6 (z56 w l)):=by
 obtain⟨hlen,s,hs⟩:=h;rw[zhu hs];rw[z1c3]at hs;have hsl:=zow hs;have key:∀(r:List Term)(i:Nat)(q:List Val),l.drop i=r→i≤l.length→q.length=l.length→q.take i=s.take i→(z7j m (z4c w l (i:Int) q)).bind (zd (zp1 m))=some (zt6 s):=by
  intro r
  induction r with
  |nil=>
   intro i q hr hi hq ht;have hil:l.length≤i:=by rw[←y1q];exact hr
   have e:z7j m (z4c w l (i:Int) q)=some (.exit 0,z4c w l (i:Int) q):=by rw[z12z,z8,if_neg (by simp;omega)]
   rw[zj e,z1en];rw[y36 (by omega),y36 (by omega)]at ht;rw[ht]
  |cons x r ih=>
   intro i q hr hi hq ht;obtain⟨a1,a2,a3,hmem⟩:=z3f hr;have hx:l.getD i zb=x:=a2 zb;have hd:=z1yy i hs;rw[hr]at hd;obtain⟨y,s',h1,h2,h3⟩:=zs3 hd;have hht:=zc1 hmem;have e:z7j m (z4c w l (i:Int) q)=z7j m (z4c w l ((i+1:Nat):Int) (q.set i y)):=by
    rw[z12z];simp only[z8,Term.ids_eq,y5,hx];rw[if_pos (by simp;omega),z6 (by omega),z6 (by omega),z6 ⟨y,h1⟩,z6 (by omega),z6 (by omega),z3g a1 hl.len,zbc h1]
   rw[e];refine ih (i+1) (q.set i y) a3 (by omega) (by rw[y1s];exact hq) ?_;have hsi:s[i]?=some y:=by
    have:=congrArg (fun z=>z[0]?) h3;simpa using this
   rw[y3d,y3d,List.take_set_of_le (y6 _),ht,hsi,y19 (by omega)]
 rw[z1vp,z6 (by rw[y5];refine⟨by omega,by omega,?_⟩;unfold ze;omega)];have:=key l 0 (List.replicate (l.length:Int).toNat z7) rfl (yb _) (by simp) rfl;exact this
theorem z1ry(m:Nat)(hG:z7i m):FnOK 121 (z6b (m+1)):=by
 intro args ob rs os h hob;unfold z6b at h;split at h
 ·simp only[y7,y8,ym]at h;obtain⟨w,e0,l,e1,rfl,rfl,rfl⟩:=h;obtain rfl:=zt e0;obtain rfl:=zr e1;exact⟨z2d (M:=(zk4 m)) rfl (z4o (l1:=[(67,z8x m)]) (l2:=[]) (l3:=[]) (l4:=[]) (l5:=[]) ⟨hG.2.1,trivial⟩ trivial trivial trivial trivial) Tryz.func121 (by kernel_rfl) zk5 1 [.d] (fun hwf=>(z1l7 m w l (z57 hwf (a:=.d (.agg (enc Ty.wld w))) (ye (i:=0) rfl)) (z57 hwf (a:=.d (.v (.dat (U:=Un) Ty.term l))) (ye (i:=1) rfl)) (hob _ (ye (i:=0) rfl)) (hob _ (ye (i:=1) rfl)))),zk Tryz.func121 (by kernel_rfl) (by kernel_rfl)⟩
 ·simp at h
def zul(m:Nat):Mc Un:=mcF_ [(137,ze7),(67,z8x m),(161,ze4)] [] [] [] []
def z15b:Nat→NS:=nsF_ [(3,{ts:=bl 25 57536,bs:=bl 25 128,nm:=[],cs:=true})] true
def z3w(w:Wld)(l:List Term)(x:List Val)(v0:Int):S Un:=(st 25 25 100 0 [(6,ab false),(7,ax 7),(13,al .term l),(14,ai (↑l.length:Int)),(15,ai v0)] [(7,some (false,encC Ty.wld (zi w x)))] [])
def z9s(m:Nat):S Un→Option (EX Un):=lpF_ (zul m) z15b Tryz.f136 [1,1,0,1,2,2] 3
def zqx(m:Nat):Exit→S Un→Option (RF Un):=cxF_ (zul m) z15b Tryz.f136 [1,1,0,1,2] [.d]
def z1hv(m:Nat)(w:Wld)(l:List Term)(x:List Val):Option (RF Un):=fnF_ (zul m) z15b Tryz.f136 0 [.d] [.d (.agg (enc Ty.wld w)),.d (.v (.dat (U:=Un) Ty.term l)),.d (.v (.dat (U:=Un) Ty.val x))]
theorem z2ah(m:Nat)(w:Wld)(l:List Term)(x:List Val):z1hv m w l x=obO (w.env.length≤(100000000:Nat)) ((z9s m (z3w w l x (0:Int))).bind (zd (zqx m))):=by kernel_rfl
theorem z10l(m:Nat)(w:Wld)(l:List Term)(x:List Val)(v0:Int):z9s m (z3w w l x v0)=cndO (decide (v0<(↑l.length:Int))) (obO (0≤v0∧v0<(↑l.length:Int)) (obO ((8:Nat)*(Term.ids (l.getD v0.toNat zb)).ht+(7:Nat)<m) (obO (okT (zi w x) (Term.ids (l.getD v0.toNat zb))) (cndO (z2k (z6x (zi w x) (Term.ids (l.getD v0.toNat zb))) !=2) (some (.ret,(z3w w l x v0))) (z9s m (z3w w l x (IntKind.i64.wrap (v0+1)))))))) (some (.exit 0,(z3w w l x v0))):=lpQ_ (by kernel_rfl)
theorem z1rz(m:Nat)(w:Wld)(l:List Term)(x:List Val)(v0:Int):zqx m .ret (z3w w l x v0)=some (z9b (false)):=by kernel_rfl
theorem z1vq(m:Nat)(w:Wld)(l:List Term)(x:List Val)(v0:Int):zqx m (.exit 0) (z3w w l x v0)=some (z9b (true)):=by kernel_rfl
theorem z21f(m:Nat)(w:Wld)(l:List Term)(x:List Val)(_hw:WS .wld w)(hl:WL .term l)(_hx:WL .val x)(hm:8*htTs l+8<m+1)(h:okSo w l x):z1hv m w l x=some (z9b (ze8 w l x)):=by
 obtain⟨hE,b,hb⟩:=h;rw[z10k hb];have key:∀(r:List Term)(i:Nat)(b:Bool),l.drop i=r→i≤l.length→nSo r (zi w x)=some b→(z9s m (z3w w l x (i:Int))).bind (zd (zqx m))=some (z9b b):=by
  intro r
  induction r with
  |nil=>
   intro i b hr hi hs;have hil:l.length≤i:=by rw[←y1q];exact hr
   have e:z9s m (z3w w l x (i:Int))=some (.exit 0,z3w w l x (i:Int)):=by rw[z10l,z8,if_neg (by simp;omega)]
   rw[zj e,z1vq];simp only[nSo,y8]at hs;rw[hs]
  |cons t r ih=>
   intro i b hr hi hs;obtain⟨a1,a2,a3,hmem⟩:=z3f hr;have ht:l.getD i zb=t:=a2 zb;have hht:=zc1 hmem;simp only[nSo,y7]at hs;obtain⟨v,hv,hs⟩:=hs;by_cases c:z2k v=2
   ·rw[if_pos c]at hs;have e:z9s m (z3w w l x (i:Int))=z9s m (z3w w l x ((i+1:Nat):Int)):=by
     rw[z10l];simp only[z8,Term.ids_eq,y5,ht];rw[if_pos (by simp;omega),z6 (by omega),z6 (by omega),z6 ⟨v,hv⟩,zbc hv,if_neg (by rw[c];decide),z3g a1 hl.len]
    rw[e];exact ih (i+1) b a3 (by omega) hs
   ·rw[if_neg c]at hs;obtain rfl:=yk hs;have e:z9s m (z3w w l x (i:Int))=some (.ret,z3w w l x (i:Int)):=by
     rw[z10l];simp only[z8,Term.ids_eq,y5,ht];rw[if_pos (by simp;omega),z6 (by omega),z6 (by omega),z6 ⟨v,hv⟩,zbc hv,if_pos (by simpa using c)]
    rw[zj e,z1rz]
 rw[z2ah,z6 hE];exact key l 0 b rfl (yb _) hb
theorem z278(m:Nat)(hG:z7i m):FnOK 136 (zqv (m+1)):=fnK3 zt zr zr (M:=(zul m)) rfl ⟨zqs,hG.2.1,ziu,trivial⟩ trivial trivial trivial trivial Tryz.func136 fun w l x=>GiF.r fun w1 o=>z21f m w l x (wfA_ w1 0) (wfA_ w1 1) (wfA_ w1 2) (obA_ o 0) (obA_ o 1)
def z1cf(m:Nat)(w:Wld)(r:Rel)(n:Int):Option (RF Un):=fnF_ (z1cd m) z28d Tryz.f91 0 [.m] [.d (.agg (enc Ty.wld w)),.d (.agg (enc Ty.rel r)),.d (.v (.s (.int .i64 n)))]
theorem z279(m:Nat)(w:Wld)(r:Rel)(n:Int):z1cf m w r n=cndO (decide (n≥(↑r.kids.length:Int))) (some (zwq ([]))) (obO (0≤n∧n<(↑r.kids.length:Int)) (obO ((8:Nat)*(Rel.ids (r.kids.getD n.toNat za)).ht+(7:Nat)<m) (obO (okRl w (Rel.ids (r.kids.getD n.toNat za))) (some (zwq (z9o w (Rel.ids (r.kids.getD n.toNat za)))))))):=by kernel_rfl
theorem z1vr(m:Nat)(w:Wld)(r:Rel)(n:Int)(_hw:WS .wld w)(_hr:WS .rel r)(_hn:WI n)(hm:8*r.ht+4<m+1)(h:zfl w r n):z1cf m w r n=some (zwq (zp w r n)):=by
 obtain⟨h0,l,hl⟩:=h;obtain⟨k,rfl⟩:∃k:Nat,n=k:=⟨n.toNat,(y3x h0).symm⟩;rw[y5]at hl;rw[zx1 hl];rw[z12s]at hl;rw[z279];simp only[z8,Rel.ids_eq,decide_eq_true_eq,y5];by_cases c:k<r.kids.length
 ·rw[if_pos c]at hl;have hk:(r.kids.getD k za).ht<r.ht:=Rel.ht_kid (z8r c);rw[if_neg (by omega),z6 (by omega),z6 (by omega),z6 ⟨l,hl⟩,z4y hl]
 ·rw[if_neg c]at hl;obtain rfl:=yk hl;rw[if_pos (by omega)]
theorem z21g(m:Nat)(hG:z7i m):FnOK 91 (z8c (m+1)):=fnK3 zt zt z17 (M:=(z1cd m)) rfl ⟨hG.2.2.2.2.2.1,trivial⟩ trivial trivial trivial trivial Tryz.func91 fun w r n=>GiF.r fun w1 o=>z1vr m w r n (wfA_ w1 0) (wfA_ w1 1) (wfA_ w1 2) (obA_ o 0) (obA_ o 1)
def z1hx(m:Nat):Mc Un:=mcF_ [(84,z17c),(85,znm),(86,zny m),(87,zkp m),(88,zt7 m),(89,zp0 m),(91,z8c m),(90,zws),(92,zx0 m)] [] [] [(93,zns),(94,znt)] []
def z1cg(m:Nat)(w:Wld)(r:Rel):Option (RF Un):=fnF_ (z1hx m) z28d Tryz.f45 0 [.m] [.d (.agg (enc Ty.wld w)),.d (.agg (enc Ty.rel r))]
theorem z27a(m:Nat)(w:Wld)(r:Rel):z1cg m w r=cndO (r.op==1) (obO (dbOK w.db) (some (zwq (z6i w r.table)))) (cndO (r.op==2) (obO (r.rows.length≤(1000000000:Nat)) (some (zwq (r.rows)))) (cndO (r.op==3) (obO ((8:Nat)*(Rel.ids r).ht+(6:Nat)<m) (obO (z1ky w (Rel.ids r)) (some (zwq (zal w (Rel.ids r)))))) (cndO (r.op==4) (obO ((8:Nat)*(Rel.ids r).ht+(6:Nat)<m) (obO (z1c4 w (Rel.ids r)) (some (zwq (z8w w (Rel.ids r)))))) (cndO (r.op==5) (obO ((8:Nat)*(Rel.ids r).ht+(6:Nat)<m) (obO (z1rf w (Rel.ids r)) (some (zwq (zbu w (Rel.ids r)))))) (cndO (r.op==6) (obO ((8:Nat)*(Rel.ids r).ht+(6:Nat)<m) (obO (z1rf w (Rel.ids r)) (some (zwq (zbu w (Rel.ids r)))))) (cndO (r.op==7) (obO ((8:Nat)*(Rel.ids r).ht+(6:Nat)<m) (obO (z1vk w (Rel.ids r)) (some (zwq (zcf w (Rel.ids r)))))) (cndO (r.op==8) (obO ((8:Nat)*(Rel.ids r).ht+(4:Nat)<m) (obO (zfl w (Rel.ids r) (0:Int)) (obO ((zp w (Rel.ids r) (0:Int)).length≤(100000000:Nat)) (some (zwq (z1q (zp w (Rel.ids r) (0:Int)))))))) (cndO (r.op==9) (obO ((8:Nat)*(Rel.ids r).ht+(6:Nat)<m) (obO (z1rg w (Rel.ids r)) (some (zwq (zbv w (Rel.ids r)))))) (cndO (r.op==10) (obO ((8:Nat)*(Rel.ids r).ht+(6:Nat)<m) (obO (z1rg w (Rel.ids r)) (some (zwq (zbv w (Rel.ids r)))))) (cndO (r.op==11) (obO ((8:Nat)*(Rel.ids r).ht+(6:Nat)<m) (obO (z1rg w (Rel.ids r)) (some (zwq (zbv w (Rel.ids r)))))) (cndO (r.op==12) (obO ((8:Nat)*(Rel.ids r).ht+(4:Nat)<m) (obO (zfl w (Rel.ids r) (0:Int)) (obO ((zp w (Rel.ids r) (0:Int)).length≤(100000000:Nat)) (some (zwq (z55 (zp w (Rel.ids r) (0:Int)) r.keys)))))) (cndO (r.op==13) (obO ((8:Nat)*(Rel.ids r).ht+(4:Nat)<m) (obO (zfl w (Rel.ids r) (0:Int)) (obO ((zp w (Rel.ids r) (0:Int)).length≤(100000000:Nat)) (some (zwq (z3k (zp w (Rel.ids r) (0:Int)) r.limit r.skip)))))) (some (zwq ([]))))))))))))))):=by kernel_rfl
theorem z1vs(m:Nat)(w:Wld)(r:Rel)(_hw:WS .wld w)(_hr:WS .rel r)(hm:8*r.ht+7<m+1)(h:okRl w r):z1cg m w r=some (zwq (z9o w r)):=by
 obtain⟨v,hv⟩:=h;rw[z4y hv];rw[z156,y7]at hv;obtain⟨s,hs,hc⟩:=hv;obtain⟨rfl,hlen⟩:=zyv hc;clear hc;rw[z27a];simp only[z8,Rel.ids_eq,beq_iff_eq];by_cases c1:r.op=1
 ·rw[if_pos c1]at hs ⊢;obtain⟨h1,h2⟩:=chkQ_some.1 hs;rw[z6 h1,yk h2]
 rw[if_neg c1]at hs ⊢;by_cases c2:r.op=2
 ·rw[if_pos c2]at hs ⊢;obtain rfl:=yk hs;rw[z6 (by omega)]
 rw[if_neg c2]at hs ⊢;by_cases c3:r.op=3
 ·rw[if_pos c3]at hs ⊢;have e:zal w r=s:=by unfold zal z1dr;rw[hs];rfl
  rw[z6 (by omega),z6 ⟨s,hs⟩,e]
 rw[if_neg c3]at hs ⊢;by_cases c4:r.op=4
 ·rw[if_pos c4]at hs ⊢;have e:z8w w r=s:=by unfold z8w z157;rw[hs];rfl
  rw[z6 (by omega),z6 ⟨s,hs⟩,e]
 rw[if_neg c4]at hs ⊢;by_cases c5:r.op=5∨r.op=6
 ·rw[if_pos c5]at hs;have e:zbu w r=s:=by unfold zbu z21z;rw[hs];rfl
  rcases c5 with c|c
  ·rw[if_pos c,z6 (by omega),z6 ⟨s,hs⟩,e]
  ·rw[if_neg (by omega),if_pos c,z6 (by omega),z6 ⟨s,hs⟩,e]
 rw[if_neg c5]at hs;rw[if_neg (fun e=>c5 (.inl e)),if_neg (fun e=>c5 (.inr e))];by_cases c7:r.op=7
 ·rw[if_pos c7]at hs ⊢;have e:zcf w r=s:=by unfold zcf z1re;rw[hs];rfl
  rw[z6 (by omega),z6 ⟨s,hs⟩,e]
 rw[if_neg c7]at hs ⊢;by_cases c8:r.op=8
 ·rw[if_pos c8]at hs ⊢;obtain⟨l,hl,h4⟩:=y7.1 hs;have hk:=zcg hl;rw[z6 (by omega),z6 (zs7 hl),z5y hl,z6 hk,yk h4]
 rw[if_neg c8]at hs ⊢;by_cases c9:r.op=9∨r.op=10∨r.op=11
 ·rw[if_pos c9]at hs;have e:zbv w r=s:=by unfold zbv nSet;rw[hs];rfl
  rcases c9 with c|c|c
  ·rw[if_pos c,z6 (by omega),z6 ⟨s,hs⟩,e]
  ·rw[if_neg (by omega),if_pos c,z6 (by omega),z6 ⟨s,hs⟩,e]
  ·rw[if_neg (by omega),if_neg (by omega),if_pos c,z6 (by omega),z6 ⟨s,hs⟩,e]
 rw[if_neg c9]at hs;rw[if_neg (fun e=>c9 (.inl e)),if_neg (fun e=>c9 (.inr (.inl e))),if_neg (fun e=>c9 (.inr (.inr e)))];by_cases c12:r.op=12
 ·rw[if_pos c12]at hs ⊢;obtain⟨l,hl,h4⟩:=y7.1 hs;have hk:=zcg hl;rw[z6 (by omega),z6 (zs7 hl),z5y hl,z6 hk,yk h4]
 rw[if_neg c12]at hs ⊢;by_cases c13:r.op=13
 ·rw[if_pos c13]at hs ⊢;obtain⟨l,hl,h4⟩:=y7.1 hs;have hk:=zcg hl;rw[z6 (by omega),z6 (zs7 hl),z5y hl,z6 hk,yk h4]
 rw[if_neg c13]at hs ⊢;rw[yk hs]
theorem z21h(m:Nat)(hG:z7i m):FnOK 45 (znx (m+1)):=fnK2 zt zt (M:=(z1hx m)) rfl ⟨z1vd,zsv,hG.2.2.2.2.2.2.1,hG.2.2.2.2.2.2.2.1,hG.2.2.2.2.2.2.2.2.1,hG.2.2.2.2.2.2.2.2.2.2.1,hG.2.2.2.2.1,z17a,hG.2.2.2.2.2.2.2.2.2.2.2,trivial⟩ trivial trivial ⟨z1ej,z1em,trivial⟩ trivial Tryz.func45 fun w r=>GiF.r fun w1 o=>z1vs m w r (wfA_ w1 0) (wfA_ w1 1) (obA_ o 0) (obA_ o 1)
def zhv(m:Nat):Mc Un:=mcF_ [(91,z8c m),(136,zqv m)] [] [] [] []
def zp2:Nat→NS:=nsF_ [(3,{ts:=bl 27 7212,bs:=bl 27 12,nm:=[(.sl 10,108),(.sl 5,109)],cs:=true})] true
def z6y(w:Wld)(r:Rel)(v0:Int)(v1:List (List Val)):S Un:=(st 27 27 110 0 [(2,ax 2),(3,ax 3),(5,ao 109),(10,ao 108),(11,ai (↑(zp w (Rel.ids r) (0:Int)).length:Int)),(12,ai v0)] [(2,bg .wld w),(3,bg .rel r)] [(108,some ⟨(0:Nat),Ty.row,zp w (Rel.ids r) (0:Int),some (0:Nat),true⟩),(109,some ⟨(0:Nat),Ty.row,v1,some (0:Nat),true⟩)])
def zbw(m:Nat):S Un→Option (EX Un):=lpF_ (zhv m) zp2 Tryz.f86 [1,1,0,1,2,2] 3
def zyw(m:Nat):Exit→S Un→Option (RF Un):=cxF_ (zhv m) zp2 Tryz.f86 [1,1,0,1,2] [.m]
def zyx(m:Nat)(w:Wld)(r:Rel):Option (RF Un):=fnF_ (zhv m) zp2 Tryz.f86 2 [.m] [.d (.agg (enc Ty.wld w)),.d (.agg (enc Ty.rel r))]
theorem z1s0(m:Nat)(w:Wld)(r:Rel):zyx m w r=obO ((8:Nat)*(Rel.ids r).ht+(4:Nat)<m) (obO (zfl w (Rel.ids r) (0:Int)) ((zbw m (z6y w r (0:Int) ([]))).bind (zd (zyw m)))):=by kernel_rfl
theorem zyy(m:Nat)(w:Wld)(r:Rel)(v0:Int)(v1:List (List Val)):zbw m (z6y w r v0 v1)=cndO (decide (v0<(↑(zp w (Rel.ids r) (0:Int)).length:Int))) (obO (0≤v0∧v0<(↑(zp w (Rel.ids r) (0:Int)).length:Int)) (obO ((8:Nat)*htTs r.terms+(8:Nat)<m) (obO (okSo w r.terms ((zp w (Rel.ids r) (0:Int)).getD v0.toNat [])) (cndO (ze8 w r.terms ((zp w (Rel.ids r) (0:Int)).getD v0.toNat [])) (obO ((v1.length+[(zp w (Rel.ids r) (0:Int)).getD v0.toNat []].length)*(24:Nat)≤ze) (zbw m (z6y w r (IntKind.i64.wrap (v0+1)) (v1++[(zp w (Rel.ids r) (0:Int)).getD v0.toNat []])))) (zbw m (z6y w r (IntKind.i64.wrap (v0+1)) v1)))))) (some (.exit 0,(z6y w r v0 v1))):=lpQ_ (by kernel_rfl)
theorem z1ch(m:Nat)(w:Wld)(r:Rel)(v0:Int)(v1:List (List Val)):zyw m (.exit 0) (z6y w r v0 v1)=some (zwq (v1)):=by kernel_rfl
theorem z1eo(m:Nat)(w:Wld)(r:Rel)(_hw:WS .wld w)(_hr:WS .rel r)(hm:8*r.ht+6<m+1)(h:z1ky w r):zyx m w r=some (zwq (zal w r)):=by
 obtain⟨v,hv⟩:=h;have e:zal w r=v:=by unfold zal;rw[hv];rfl
 rw[e];unfold z1dr filO at hv;split at hv
 ·rename_i hE;obtain⟨l,hl,hf⟩:=y7.1 hv;have hll:=zcg hl;have ht:=Rel.ht_terms r;have hmem:=z1yu hf
  obtain⟨lp,_⟩:=z1j (e:=.exit 0) (L:=zbw m) (st:=fun(o:Rows) i=>z6y w r i o) (l:=l) (d:=[]) (g:=fun o x=>if ze8 w r.terms x=true then o++[x]else o) (fun i o=>o.length≤i) (by omega)
   (fun o i x hi hx hI=>by
    have hI':o.length≤i:=hI;have hxm:x∈l:=by rw[←hx];exact z8r (by omega)
    obtain⟨b,hb⟩:=hmem x hxm;rw[zyy];simp only[z8,Rel.ids_eq,z5y hl,hi,decide_true,if_true,and_true,y5,hx];rw[z6 (by omega),z6 (by omega),z6 ⟨hE,b,hb⟩];by_cases hp:ze8 w r.terms x=true
    ·rw[if_pos hp,if_pos hp,z6 (by unfold ze;rw[yf];omega)];exact⟨by show(o++[x]).length≤i+1;rw[y9,yf];omega,rfl⟩
    ·rw[if_neg hp,if_neg hp]
     exact⟨by show o.length≤i+1;omega,rfl⟩)
   (fun o _=>by rw[zyy];simp only[z8,Rel.ids_eq,z5y hl];rw[if_neg (by simp)]) [] (y6 _)
  have hfo:=z1rh (ze8 w r.terms) [] hf (fun x hx b hb=>z10k hb);rw[yw]at hfo;rw[z1s0,Rel.ids_eq,z6 (by omega),z6 (zs7 hl)];refine(zj lp).trans ?_;rw[z1ch,hfo]
 ·simp at hv
theorem z1l8(m:Nat)(hG:z7i m):FnOK 86 (zny (m+1)):=fnK2 zt zt (M:=(zhv m)) rfl ⟨hG.2.2.2.2.1,hG.2.2.2.1,trivial⟩ trivial trivial trivial trivial Tryz.func86 fun w r=>GiF.r fun w1 o=>z1eo m w r (wfA_ w1 0) (wfA_ w1 1) (obA_ o 0) (obA_ o 1)
def zfm(m:Nat):Mc Un:=mcF_ [(91,z8c m),(137,ze7),(121,z6b m)] [] [] [] []
def zea(m:Nat):S Un→Option (EX Un):=lpF_ (zfm m) zp2 Tryz.f87 [1,1,0,1,2,2] 3
def zx2(m:Nat):Exit→S Un→Option (RF Un):=cxF_ (zfm m) zp2 Tryz.f87 [1,1,0,1,2] [.m]
def zx3(m:Nat)(w:Wld)(r:Rel):Option (RF Un):=fnF_ (zfm m) zp2 Tryz.f87 2 [.m] [.d (.agg (enc Ty.wld w)),.d (.agg (enc Ty.rel r))]
theorem z1l9(m:Nat)(w:Wld)(r:Rel):zx3 m w r=obO ((8:Nat)*(Rel.ids r).ht+(4:Nat)<m) (obO (zfl w (Rel.ids r) (0:Int)) ((zea m (z6y w r (0:Int) ([]))).bind (zd (zx2 m)))):=by kernel_rfl
theorem zx4(m:Nat)(w:Wld)(r:Rel)(v0:Int)(v1:List (List Val)):zea m (z6y w r v0 v1)=cndO (decide (v0<(↑(zp w (Rel.ids r) (0:Int)).length:Int))) (obO (0≤v0∧v0<(↑(zp w (Rel.ids r) (0:Int)).length:Int)) (obO (w.env.length≤(100000000:Nat)) (obO ((8:Nat)*htTs r.terms+(8:Nat)<m) (obO (okTs (zi w ((zp w (Rel.ids r) (0:Int)).getD v0.toNat [])) r.terms) (obO ((v1.length+[z56 (zi w ((zp w (Rel.ids r) (0:Int)).getD v0.toNat [])) r.terms].length)*(24:Nat)≤ze) (zea m (z6y w r (IntKind.i64.wrap (v0+1)) (v1++[z56 (zi w ((zp w (Rel.ids r) (0:Int)).getD v0.toNat [])) r.terms])))))))) (some (.exit 0,(z6y w r v0 v1))):=lpQ_ (by kernel_rfl)
theorem z17v(m:Nat)(w:Wld)(r:Rel)(v0:Int)(v1:List (List Val)):zx2 m (.exit 0) (z6y w r v0 v1)=some (zwq (v1)):=by kernel_rfl
theorem z1ci(m:Nat)(w:Wld)(r:Rel)(_hw:WS .wld w)(_hr:WS .rel r)(hm:8*r.ht+6<m+1)(h:z1c4 w r):zx3 m w r=some (zwq (z8w w r)):=by
 obtain⟨v,hv⟩:=h;have e:z8w w r=v:=by unfold z8w;rw[hv];rfl
 rw[e];unfold z157 z1dq at hv;split at hv
 ·rename_i hE;obtain⟨l,hl,hf⟩:=y7.1 hv;have hll:=zcg hl;have ht:=Rel.ht_terms r;have hmem:=zwv hf
  obtain⟨lp,_⟩:=z1j (e:=.exit 0) (L:=zea m) (st:=fun(o:Rows) i=>z6y w r i o) (l:=l) (d:=[]) (g:=fun o x=>o++[z56 (zi w x) r.terms]) (fun i o=>o.length=i) (by omega)
   (fun o i x hi hx hI=>by
    have hI':o.length=i:=hI;have hxm:x∈l:=by rw[←hx];exact z8r (by omega)
    obtain⟨b,hb⟩:=hmem x hxm;refine⟨by show(o++[_]).length=i+1;rw[y9,yf];omega,?_⟩;rw[zx4];simp only[z8,Rel.ids_eq,z5y hl,hi,decide_true,if_true,and_true,y5,hx]
    rw[z6 (by omega),z6 hE.1,z6 (by omega),z6 ⟨hE.2,b,hb⟩,z6 (by unfold ze;rw[yf];omega)])
   (fun o _=>by rw[zx4];simp only[z8,Rel.ids_eq,z5y hl];rw[if_neg (by simp)]) [] rfl
  rw[zgl,yw,zww (fun x=>z56 (zi w x) r.terms) hf (fun x hx y hy=>zhu hy)]at lp;rw[z1l9,Rel.ids_eq,z6 (by omega),z6 (zs7 hl)];refine(zj lp).trans ?_;rw[z17v]
 ·simp at hv
theorem z1ep(m:Nat)(hG:z7i m):FnOK 87 (zkp (m+1)):=fnK2 zt zt (M:=(zfm m)) rfl ⟨hG.2.2.2.2.1,zqs,hG.2.2.1,trivial⟩ trivial trivial trivial trivial Tryz.func87 fun w r=>GiF.r fun w1 o=>z1ci m w r (wfA_ w1 0) (wfA_ w1 1) (obA_ o 0) (obA_ o 1)
def zdh(m:Nat):Mc Un:=mcF_ [(91,z8c m),(138,z1ca),(136,zqv m)] [] [] [] []
def z8d:Nat→NS:=nsF_ [(7,{ts:=bl 72 7516193004,bs:=bl 72 12,nm:=[(.sl 5,288),(.sl 6,289),(.sl 30,290),(.sl 7,291)],cs:=true}),(11,{ts:=bl 72 488552531692,bs:=bl 72 12,nm:=[(.sl 5,292),(.sl 6,293),(.sl 30,294),(.sl 7,295)],cs:=true})] true
def z33(w:Wld)(r:Rel):=zp w (Rel.mk r.op r.table r.cols r.kids r.terms r.aggs r.keys r.limit r.skip r.all r.rows) (0:Int)
def z79(w:Wld)(r:Rel):=zp w (Rel.mk r.op r.table r.cols r.kids r.terms r.aggs r.keys r.limit r.skip r.all r.rows) (1:Int)
def zk6(w:Wld)(r:Rel)(v0:Int)(v4:Int):=z97 [(z33 w r).getD v0.toNat [],(z79 w r).getD v4.toNat []]
def z44(w:Wld)(r:Rel)(v0:Int)(v1:Option Nat)(v2:List (List Val)):S Un:=(st 72 72 296 0 [(2,ax 2),(3,ax 3),(5,ao 288),(6,ao 289),(7,ao 291),(30,ao 290),(31,ai (↑(z33 w r).length:Int)),(32,ai v0)] [(2,bg .wld w),(3,bg .rel r)] [(288,some ⟨(0:Nat),Ty.row,zp w (Rel.ids r) (1:Int),some (0:Nat),true⟩),(289,some ⟨(0:Nat),Ty.val,List.replicate (↑(Rel.cols (r.kids.getD 1 za)).length:Int).toNat z7,v1,true⟩),(290,some ⟨(0:Nat),Ty.row,zp w (Rel.ids r) (0:Int),some (0:Nat),true⟩),(291,some ⟨(0:Nat),Ty.row,v2,some (0:Nat),true⟩)])
def z5a(w:Wld)(r:Rel)(v0:Int)(v1:Option Nat)(v2:List (List Val))(v3:Bool)(v4:Int):S Un:=(st 72 72 296 0 [(2,ax 2),(3,ax 3),(5,ao 292),(6,ao 293),(7,ao 295),(9,al .val ((z33 w r).getD v0.toNat [])),(10,ab v3),(30,ao 294),(31,ai (↑(z33 w r).length:Int)),(32,ai v0),(36,ao 292),(37,ai (↑(z79 w r).length:Int)),(38,ai v4)] [(2,bg .wld w),(3,bg .rel r)] [(292,some ⟨(0:Nat),Ty.row,zp w (Rel.ids r) (1:Int),some (0:Nat),true⟩),(293,some ⟨(0:Nat),Ty.val,List.replicate (↑(Rel.cols (r.kids.getD 1 za)).length:Int).toNat z7,v1,true⟩),(294,some ⟨(0:Nat),Ty.row,zp w (Rel.ids r) (0:Int),some (0:Nat),true⟩),(295,some ⟨(0:Nat),Ty.row,v2,some (0:Nat),true⟩)])
def z5z(m:Nat):S Un→Option (EX Un):=lpF_ (zdh m) z8d Tryz.f88 [1,1,1,1,1,0,1,2,2] 7
noncomputable def z130:Code:=sub (sub (zf Tryz.f88) [1,1,1,1,1,0,1,2,2]) [1,1,0,2,1,1,0,1,2,2]
def zdi(m:Nat):S Un→Option (EX Un):=z1l (z8d 11) (fun s Q=>awf (zdh m) z8d z130 s Q)
def zt9(m:Nat):Exit→S Un→Option (RF Un):=cxF_ (zdh m) z8d Tryz.f88 [1,1,1,1,1,0,1,2] [.m]
def zp3(m:Nat):Exit→S Un→Option (EX Un):=ctxF (zdh m) z8d (sub (zf Tryz.f88) [1,1,1,1,1,0,1,2,2]) [1,1,0,2,1,1,0,1,2] (zco (z8d 7) (z5z m))
def z17o(m:Nat)(w:Wld)(r:Rel):Option (RF Un):=fnF_ (zdh m) z8d Tryz.f88 8 [.m] [.d (.agg (enc Ty.wld w)),.d (.agg (enc Ty.rel r))]
theorem z21i(m:Nat)(w:Wld)(r:Rel):z17o m w r=cndO (decide ((↑r.kids.length:Int)<(2:Int))) (some (zwq ([]))) (obO ((8:Nat)*(Rel.ids r).ht+(4:Nat)<m) (obO (zfl w (Rel.ids r) (1:Int)) (obO ((0:Int)≤(1:Int)∧(1:Int)<(↑r.kids.length:Int)) (obO ((0:Int)≤(↑(Rel.cols (r.kids.getD 1 za)).length:Int)∧(↑(Rel.cols (r.kids.getD 1 za)).length:Int)≤(↑(Rel.cols (r.kids.getD 1 za)).length:Int)∧(↑(Rel.cols (r.kids.getD 1 za)).length:Int).toNat*(32:Nat)≤ze) (obO ((8:Nat)*(Rel.ids r).ht+(4:Nat)<m) (obO (zfl w (Rel.ids r) (0:Int)) ((z5z m (z44 w r (0:Int) (some (0:Nat)) ([]))).bind (zd (zt9 m))))))))):=by kernel_rfl
theorem z17p(m:Nat)(w:Wld)(r:Rel)(v0:Int)(v1:Option Nat)(v2:List (List Val)):z5z m (z44 w r v0 v1 v2)=cndO (decide (v0<(↑(z33 w r).length:Int))) (obO (0≤v0∧v0<(↑(z33 w r).length:Int)) ((zdi m (z5a w r v0 v1 v2 false (0:Int))).bind (zd (zp3 m)))) (some (.exit 0,(z44 w r v0 v1 v2))):=lpQ_ (by kernel_rfl)
theorem z1la(m:Nat)(w:Wld)(r:Rel)(v0:Int)(v1:Option Nat)(v2:List (List Val)):zt9 m (.exit 0) (z44 w r v0 v1 v2)=some (zwq (v2)):=by kernel_rfl
theorem z131(m:Nat)(w:Wld)(r:Rel)(v0:Int)(v1:Option Nat)(v2:List (List Val))(v3:Bool)(v4:Int):zdi m (z5a w r v0 v1 v2 v3 v4)=cndO (decide (v4<(↑(z79 w r).length:Int))) (obO (0≤v4∧v4<(↑(z79 w r).length:Int)) (obO ([(z33 w r).getD v0.toNat [],(z79 w r).getD v4.toNat []].flatten.length≤(1000000000:Nat)) (obO ((8:Nat)*htTs r.terms+(8:Nat)<m) (obO (okSo w r.terms (zk6 w r v0 v4)) (cndO (ze8 w r.terms (zk6 w r v0 v4)) (obO ((v2.length+[z97 [(z33 w r).getD v0.toNat [],(z79 w r).getD v4.toNat []]].length)*(24:Nat)≤ze) (zdi m (z5a w r v0 v1 (v2++[z97 [(z33 w r).getD v0.toNat [],(z79 w r).getD v4.toNat []]]) true (IntKind.i64.wrap (v4+1))))) (zdi m (z5a w r v0 v1 v2 v3 (IntKind.i64.wrap (v4+1))))))))) (some (.exit 2,(z5a w r v0 v1 v2 v3 v4))):=(zc0 (z8d 11) z130 _).trans (by kernel_rfl)
theorem z1eq(m:Nat)(w:Wld)(r:Rel)(v0:Int)(v1:Option Nat)(v2:List (List Val))(v3:Bool)(v4:Int):zp3 m (.exit 2) (z5a w r v0 v1 v2 v3 v4)=cndO (!v3) (cndO (r.op==6) (obO ([(z33 w r).getD v0.toNat [],List.replicate (↑(Rel.cols (r.kids.getD 1 za)).length:Int).toNat z7].flatten.length≤(1000000000:Nat)) (obO ((v2.length+[z97 [(z33 w r).getD v0.toNat [],List.replicate (↑(Rel.cols (r.kids.getD 1 za)).length:Int).toNat z7]].length)*(24:Nat)≤ze) (z5z m (z44 w r (IntKind.i64.wrap (v0+1)) none (v2++[z97 [(z33 w r).getD v0.toNat [],List.replicate (↑(Rel.cols (r.kids.getD 1 za)).length:Int).toNat z7]]))))) (z5z m (z44 w r (IntKind.i64.wrap (v0+1)) v1 v2))) (z5z m (z44 w r (IntKind.i64.wrap (v0+1)) v1 v2)):=by kernel_rfl
theorem z1s1(m:Nat)(w:Wld)(r:Rel)(_hw:WS .wld w)(_hr:WS .rel r)(hm:8*r.ht+6<m+1)(h:z1rf w r):z17o m w r=some (zwq (zbu w r)):=by
 obtain⟨v,hv⟩:=h;have e:zbu w r=v:=by unfold zbu;rw[hv];rfl
 rw[e];have ht:=Rel.ht_terms r;unfold z21z zyu at hv;rw[z21i];simp only[z8,Rel.ids_eq,decide_eq_true_eq];by_cases c:r.kids.length<2
 ·rw[if_pos c]at hv;obtain rfl:=yk hv;rw[if_pos (by omega)]
 rw[if_neg c]at hv;rw[if_neg (by omega)];split at hv
 ·rename_i hc;obtain⟨hE,hC⟩:=hc;obtain⟨right,hR,hv⟩:=y7.1 hv;obtain⟨l,hL,hv⟩:=y7.1 hv;obtain⟨s,hS,hv⟩:=y7.1 hv;obtain⟨rfl,hlen⟩:=zyv hv;have hrl:=zcg hR;have hll:=zcg hL;have e1:z33 w r=l:=z5y hL;have e2:z79 w r=right:=zuk hR;have ecc:∀a b:List Val,z97 [a,b]=a++b:=fun a b=>by unfold z97;simp
  have efl:∀a b:List Val,[a,b].flatten.length=a.length+b.length:=fun a b=>by simp
  have inner:∀(i:Nat)(fr:Option Nat)(a:List Val),l.getD i []=a→∀(q:Rows)(j:Nat)(out:Rows)(met:Bool)(u:Rows),right.drop j=q→j≤right.length→
    zau (fun x=>if x.length≤100000000 then nSo r.terms (zi w x)else none) (q.map (a++·))=some u→out.length+u.length≤100000000→
    zdi m (z5a w r (i:Int) fr out met (j:Int))=some (.exit 2,z5a w r (i:Int) fr (out++u) (met||decide (0<u.length)) (right.length:Int)):=by
   intro i fr a ha q
   induction q with
   |nil=>
    intro j out met u hr hj hu ho;have hjl:right.length≤j:=by rw[←y1q];exact hr
    obtain rfl:j=right.length:=by omega
    simp only[y1o,zau,y8]at hu;subst hu;rw[z131,e2,z8,if_neg (by simp)];simp
   |cons b q ih=>
    intro j out met u hr hj hu ho;obtain⟨a1,a2,a3,hmem⟩:=z3f hr;have hb:right.getD j []=b:=a2 [];rw[yy]at hu;obtain⟨y,u',h1,h2,h3⟩:=z158 hu;split at h1
    ·rename_i hab;rw[y9]at hab;have e3:zk6 w r (i:Int) (j:Int)=a++b:=by unfold zk6;rw[e1,e2,y5,y5,ha,hb,ecc]
     rw[z131,e1,e2,e3];simp only[z8,y5,ha,hb,ecc,efl];rw[if_pos (by simp;omega),z6 (by omega),z6 (by omega),z6 (by omega),z6 ⟨hE,y,h1⟩,z10k h1,z3g a1 (by omega)];cases y with
     |true=>
      rw[if_pos rfl]at h3 ⊢;subst h3;rw[yt]at ho;rw[z6 (by unfold ze;rw[yf];omega),ih (j+1) (out++[a++b]) true u' a3 (by omega) h2 (by rw[y9,yf];omega)];simp
     |false=>
      rw[if_neg (by simp)]at h3 ⊢;subst h3;exact ih (j+1) out met _ a3 (by omega) h2 ho
    ·simp at h1
  have outer:∀(q:Rows)(i:Nat)(fr:Option Nat)(out:Rows)(s:Rows),l.drop i=q→i≤l.length→
    zfk (decide (r.op=6)) (List.replicate (r.kids.getD 1 za).cols.length z7) (fun x=>if x.length≤100000000 then nSo r.terms (zi w x)else none) right q=some s→out.length+s.length≤100000000→
    (z5z m (z44 w r (i:Int) fr out)).bind (zd (zt9 m))=some (zwq (out++s)):=by
   intro q
   induction q with
   |nil=>
    intro i fr out s hr hi hs ho;have hil:l.length≤i:=by rw[←y1q];exact hr
    simp only[zfk,y8]at hs;subst hs;have e:z5z m (z44 w r (i:Int) fr out)=some (.exit 0,z44 w r (i:Int) fr out):=by rw[z17p,e1,z8,if_neg (by simp;omega)]
    rw[zj e,z1la,y13]
   |cons a q ih=>
    intro i fr out s hr hi hs ho;obtain⟨a1,a2,a3,hmem⟩:=z3f hr;have ha:l.getD i []=a:=a2 [];simp only[zfk,y7]at hs;obtain⟨u,hu,z,hz,s',hs',h3⟩:=hs;obtain rfl:=yk h3;rw[y9]at ho;have hzu:u.length≤z.length:=by
     split at hz
     ·rename_i hc;omega
     ·rw[yk hz];exact y6 _
    have e:z5z m (z44 w r (i:Int) fr out)=zp3 m (.exit 2) (z5a w r (i:Int) fr (out++u) (false||decide (0<u.length)) (right.length:Int)):=by
     rw[z17p,e1,z8,if_pos (by simp;omega),z6 (by omega)];exact zj (inner i fr a ha right 0 out false u rfl (yb _) hu (by omega))
    rw[e,z1eq,e1];simp only[z8,y5,ha,ecc,efl,y3q,z3g a1 (show l.length≤9223372036854775807 by omega),beq_iff_eq];by_cases d:u.length=0
    ·rw[if_pos (by simp[d])];obtain rfl:=yz d;by_cases d6:r.op=6
     ·rw[if_pos d6];rw[if_pos ⟨d,by simp[d6]⟩]at hz;split at hz
      ·rename_i hab;obtain rfl:=yk hz;rw[y9,y2u]at hab;rw[yf]at ho;rw[z6 (by rw[y2u];omega),z6 (by unfold ze;rw[yf,y13];omega),y13];rw[ih (i+1) none _ s' a3 (by omega) hs' (by rw[y9,yf];omega)];simp
      ·simp at hz
     ·rw[if_neg d6];rw[if_neg (fun e=>d6 (by simpa using e.2))]at hz;obtain rfl:=yk hz;rw[y13,ih (i+1) fr out s' a3 (by omega) hs' (by simpa using ho)];simp
    ·rw[if_neg (by rw[decide_eq_true (Nat.pos_of_ne_zero d)];decide)];rw[if_neg (fun e=>d e.1)]at hz;obtain rfl:=yk hz;rw[ih (i+1) fr (out++u) s' a3 (by omega) hs' (by rw[y9];omega),y11]
  rw[z6 (by omega),z6 (z2jb hR),z6 (by omega),z6 (by rw[y5];refine⟨by omega,by omega,?_⟩;unfold ze;omega),z6 (by omega),z6 (zs7 hL)];have:=outer l 0 (some 0) [] s rfl (yb _) hS (by simpa using hlen);exact this
 ·simp at hv
theorem z1vt(m:Nat)(hG:z7i m):FnOK 88 (zt7 (m+1)):=fnK2 zt zt (M:=(zdh m)) rfl ⟨hG.2.2.2.2.1,z219,hG.2.2.2.1,trivial⟩ trivial trivial trivial trivial Tryz.func88 fun w r=>GiF.r fun w1 o=>z1s1 m w r (wfA_ w1 0) (wfA_ w1 1) (obA_ o 0) (obA_ o 1)
def z7a(m:Nat):Mc Un:=mcF_ [(91,z8c m),(139,zam m),(140,z1hj),(137,ze7),(67,z8x m),(141,z1yl)] [] [] [] []
def z34:Nat→NS:=nsF_ [(3,{ts:=bl 76 7340076,bs:=bl 76 12,nm:=[(.sl 5,304)],cs:=true}),(7,{ts:=bl 76 7523533228,bs:=bl 76 140,nm:=[(.sl 8,305),(.sl 5,306)],cs:=true}),(11,{ts:=bl 76 969596210604,bs:=bl 76 1164,nm:=[(.sl 11,307),(.sl 8,308),(.sl 5,309)],cs:=true})] true
def z1g(w:Wld)(r:Rel):=zp w (Rel.mk r.op r.table r.cols r.kids r.terms r.aggs r.keys r.limit r.skip r.all r.rows) (0:Int)
def zp4(r:Rel)(v2:Int)(v5:List Val):=zf8 (Agg.mk (Agg.name (r.aggs.getD v2.toNat zq)) (Agg.distinct (r.aggs.getD v2.toNat zq)) (Agg.t (r.aggs.getD v2.toNat zq))) v5
def za9(w:Wld)(r:Rel)(v0:Int)(v1:List (List Val)):S Un:=(st 76 76 310 0 [(2,ax 2),(3,ax 3),(5,ao 304),(20,al .bunch (z19 w (z1g w r) r.terms)),(21,ai (↑(z19 w (z1g w r) r.terms).length:Int)),(22,ai v0)] [(2,bg .wld w),(3,bg .rel r)] [(304,some ⟨(0:Nat),Ty.row,v1,some (0:Nat),true⟩)])
def z6c(w:Wld)(r:Rel)(v0:Int)(v1:List (List Val))(v2:Int)(v3:List Val):S Un:=(st 76 76 310 0 [(2,ax 2),(3,ax 3),(5,ao 306),(7,ax 7),(8,ao 305),(20,al .bunch (z19 w (z1g w r) r.terms)),(21,ai (↑(z19 w (z1g w r) r.terms).length:Int)),(22,ai v0),(30,al .agg r.aggs),(31,ai (↑r.aggs.length:Int)),(32,ai v2)] [(2,bg .wld w),(3,bg .rel r),(7,some (false,encC Ty.bunch ((z19 w (z1g w r) r.terms).getD v0.toNat zn)))] [(305,some ⟨(0:Nat),Ty.val,v3,some (0:Nat),true⟩),(306,some ⟨(0:Nat),Ty.row,v1,some (0:Nat),true⟩)])
def z4l(w:Wld)(r:Rel)(v0:Int)(v2:Int)(v3:List Val)(v1:List (List Val))(v4:Int)(v5:List Val):S Un:=(st 76 76 310 0 [(2,ax 2),(3,ax 3),(5,ao 309),(7,ax 7),(8,ao 308),(10,ax 10),(11,ao 307),(20,al .bunch (z19 w (z1g w r) r.terms)),(21,ai (↑(z19 w (z1g w r) r.terms).length:Int)),(22,ai v0),(30,al .agg r.aggs),(31,ai (↑r.aggs.length:Int)),(32,ai v2),(37,AV.one (A.c (C.sl Ty.row ((z19 w (z1g w r) r.terms).getD v0.toNat zn).rows false))),(38,ai (↑((z19 w (z1g w r) r.terms).getD v0.toNat zn).rows.length:Int)),(39,ai v4)] [(2,bg .wld w),(3,bg .rel r),(7,some (false,encC Ty.bunch ((z19 w (z1g w r) r.terms).getD v0.toNat zn))),(10,some (false,encC Ty.agg (r.aggs.getD v2.toNat zq)))] [(307,some ⟨(0:Nat),Ty.val,v5,some (0:Nat),true⟩),(308,some ⟨(0:Nat),Ty.val,v3,some (0:Nat),true⟩),(309,some ⟨(0:Nat),Ty.row,v1,some (0:Nat),true⟩)])
def zdj(m:Nat):S Un→Option (EX Un):=lpF_ (z7a m) z34 Tryz.f89 [1,1,0,1,2,2] 3
noncomputable def zp5:Code:=sub (sub (zf Tryz.f89) [1,1,0,1,2,2]) [1,1,0,2,1,1,0,1,2,2]
def zaa(m:Nat):S Un→Option (EX Un):=z1l (z34 7) (fun s Q=>awf (z7a m) z34 zp5 s Q)
noncomputable def zyz:Code:=sub (sub (sub (zf Tryz.f89) [1,1,0,1,2,2]) [1,1,0,2,1,1,0,1,2,2]) [1,1,0,2,1,1,0,1,2,2]
def z8o(m:Nat):S Un→Option (EX Un):=z1l (z34 11) (fun s Q=>awf (z7a m) z34 zyz s Q)
def z132(m:Nat):Exit→S Un→Option (RF Un):=cxF_ (z7a m) z34 Tryz.f89 [1,1,0,1,2] [.m]
def z133(m:Nat):Exit→S Un→Option (EX Un):=ctxF (z7a m) z34 (sub (zf Tryz.f89) [1,1,0,1,2,2]) [1,1,0,2,1,1,0,1,2] (zco (z34 3) (zdj m))
def zz0(m:Nat):Exit→S Un→Option (EX Un):=ctxF (z7a m) z34 zp5 [1,1,0,2,1,1,0,1,2] (zco (z34 7) (zaa m))
def z134(m:Nat)(w:Wld)(r:Rel):Option (RF Un):=fnF_ (z7a m) z34 Tryz.f89 6 [.m] [.d (.agg (enc Ty.wld w)),.d (.agg (enc Ty.rel r))]
theorem z1vu(m:Nat)(w:Wld)(r:Rel):z134 m w r=obO ((8:Nat)*(Rel.ids r).ht+(4:Nat)<m) (obO (zfl w (Rel.ids r) (0:Int)) (obO ((8:Nat)*htTs r.terms+(9:Nat)<m) (obO (z2eu w (z1g w r) r.terms) ((zdj m (za9 w r (0:Int) ([]))).bind (zd (z132 m)))))):=by kernel_rfl
theorem z135(m:Nat)(w:Wld)(r:Rel)(v0:Int)(v1:List (List Val)):zdj m (za9 w r v0 v1)=cndO (decide (v0<(↑(z19 w (z1g w r) r.terms).length:Int))) (obO (0≤v0∧v0<(↑(z19 w (z1g w r) r.terms).length:Int)) (obO (((z19 w (z1g w r) r.terms).getD v0.toNat zn).key.length≤(1000000000:Nat)) ((zaa m (z6c w r v0 v1 (0:Int) (((z19 w (z1g w r) r.terms).getD v0.toNat zn).key))).bind (zd (z133 m))))) (some (.exit 0,(za9 w r v0 v1))):=lpQ_ (by kernel_rfl)
theorem z1er(m:Nat)(w:Wld)(r:Rel)(v0:Int)(v1:List (List Val)):z132 m (.exit 0) (za9 w r v0 v1)=some (zwq (v1)):=by kernel_rfl
theorem z136(m:Nat)(w:Wld)(r:Rel)(v0:Int)(v1:List (List Val))(v2:Int)(v3:List Val):zaa m (z6c w r v0 v1 v2 v3)=cndO (decide (v2<(↑r.aggs.length:Int))) (obO (0≤v2∧v2<(↑r.aggs.length:Int)) ((z8o m (z4l w r v0 v2 v3 v1 (0:Int) ([]))).bind (zd (zz0 m)))) (some (.exit 2,(z6c w r v0 v1 v2 v3))):=(zc0 (z34 7) zp5 _).trans (by kernel_rfl)
theorem z1es(m:Nat)(w:Wld)(r:Rel)(v0:Int)(v1:List (List Val))(v2:Int)(v3:List Val):z133 m (.exit 2) (z6c w r v0 v1 v2 v3)=obO ((v1.length+[v3].length)*(24:Nat)≤ze) (zdj m (za9 w r (IntKind.i64.wrap (v0+1)) (v1++[v3]))):=by kernel_rfl
theorem zz1(m:Nat)(w:Wld)(r:Rel)(v0:Int)(v2:Int)(v3:List Val)(v1:List (List Val))(v4:Int)(v5:List Val):z8o m (z4l w r v0 v2 v3 v1 v4 v5)=cndO (decide (v4<(↑((z19 w (z1g w r) r.terms).getD v0.toNat zn).rows.length:Int))) (obO (0≤v4∧v4<(↑((z19 w (z1g w r) r.terms).getD v0.toNat zn).rows.length:Int)) (cndO ((↑(Agg.t (r.aggs.getD v2.toNat zq)).length:Int)==(0:Int)) (obO ((v5.length+[z7].length)*(32:Nat)≤ze) (z8o m (z4l w r v0 v2 v3 v1 (IntKind.i64.wrap (v4+1)) (v5++[z7])))) (obO (w.env.length≤(100000000:Nat)) (obO ((0:Int)≤(0:Int)∧(0:Int)<(↑(Agg.t (r.aggs.getD v2.toNat zq)).length:Int)) (obO ((8:Nat)*(Term.ids ((Agg.t (r.aggs.getD v2.toNat zq)).getD 0 zb)).ht+(7:Nat)<m) (obO (okT (zi w (((z19 w (z1g w r) r.terms).getD v0.toNat zn).rows.getD v4.toNat [])) (Term.ids ((Agg.t (r.aggs.getD v2.toNat zq)).getD 0 zb))) (obO ((v5.length+[(z6x (zi w (((z19 w (z1g w r) r.terms).getD v0.toNat zn).rows.getD v4.toNat [])) (Term.ids ((Agg.t (r.aggs.getD v2.toNat zq)).getD 0 zb)))].length)*(32:Nat)≤ze) (z8o m (z4l w r v0 v2 v3 v1 (IntKind.i64.wrap (v4+1)) (v5++[(z6x (zi w (((z19 w (z1g w r) r.terms).getD v0.toNat zn).rows.getD v4.toNat [])) (Term.ids ((Agg.t (r.aggs.getD v2.toNat zq)).getD 0 zb)))])))))))))) (some (.exit 4,(z4l w r v0 v2 v3 v1 v4 v5))):=(zc0 (z34 11) zyz _).trans (by kernel_rfl)
theorem z1cj(m:Nat)(w:Wld)(r:Rel)(v0:Int)(v2:Int)(v3:List Val)(v1:List (List Val))(v4:Int)(v5:List Val):zz0 m (.exit 4) (z4l w r v0 v2 v3 v1 v4 v5)=obO (v5.length≤(400000:Nat)) (obO ((v3.length+[(zp4 r v2 v5)].length)*(32:Nat)≤ze) (zaa m (z6c w r v0 v1 (IntKind.i64.wrap (v2+1)) (v3++[(zp4 r v2 v5)])))):=by kernel_rfl
theorem z1lb(m:Nat)(w:Wld)(r:Rel)(_hw:WS .wld w)(hr:WS .rel r)(hm:8*r.ht+6<m+1)(h:z1vk w r):z134 m w r=some (zwq (zcf w r)):=by
 obtain⟨v,hv⟩:=h;have e:zcf w r=v:=by unfold zcf;rw[hv];rfl
 rw[e];have ht:=Rel.ht_terms r;unfold z1re grpO at hv;split at hv
 ·rename_i hna;obtain⟨l,hL,hv⟩:=y7.1 hv;obtain⟨bs,hB,hv⟩:=y7.1 hv;have hll:=zcg hL;obtain⟨⟨hE,hN,_⟩,hkey,hbl⟩:=z1c5 hB;have c1:z1g w r=l:=z5y hL;have cb:z19 w l r.terms=bs:=by unfold z19 nBun;rw[hB];rfl
  have hvl:=zow hv
  have L11:∀(i k:Nat)(row:List Val)(o:Rows)(b:Bunch)(a:Agg)(vs:List Val),bs.getD i zn=b→r.aggs.getD k zq=a→a∈r.aggs→w.env.length≤100000000→mapQ (fun x=>nHd a.t (zi w x)) b.rows=some vs→vs.length≤400000→
    z8o m (z4l w r (i:Int) (k:Int) row o (0:Int) [])=some (.exit 4,z4l w r (i:Int) (k:Int) row o (b.rows.length:Int) vs):=by
   intro i k row o b a vs hb ha ham hE hmp hvs;have hrl:=zow hmp;have hmem:=zwv hmp;have hat:htTs a.t<r.ht:=by have:=Rel.ht_agg ham;cases a;simp only[Agg.ht]at this;simp only[Agg.t_mk];omega
   obtain⟨lp,_⟩:=z1j (e:=.exit 4) (L:=z8o m) (st:=fun(z:List Val) q=>z4l w r (i:Int) (k:Int) row o q z) (l:=b.rows) (d:=[]) (g:=fun z x=>z++[if a.t.length=0 then z7 else z6x (zi w x) (a.t.getD 0 zb)]) (fun q z=>z.length=q) (by omega)
    (fun z q x hi hx hI=>by
     have hI':z.length=q:=hI;have hxm:x∈b.rows:=by rw[←hx];exact z8r (by omega)
     obtain⟨y,hy⟩:=hmem x hxm;refine⟨by show(z++[_]).length=q+1;rw[y9,yf];omega,?_⟩;rw[zz1,c1,cb];simp only[z8,Term.ids_eq,y5,hb,ha,hx,beq_iff_eq,yf];rw[if_pos (by simp;omega),z6 (by omega)];by_cases d:a.t.length=0
     ·rw[if_pos (by omega),if_pos d,z6 (by unfold ze;omega)]
     ·rw[z1c2,if_neg d]at hy;have hk:(a.t.getD 0 zb).ht≤htTs a.t:=zc1 (z8r (by omega))
      rw[if_neg (by omega),if_neg d,z6 hE,z6 (by omega),z6 (by omega),z6 ⟨y,hy⟩,z6 (by unfold ze;omega)])
    (fun z _=>by rw[zz1,c1,cb];simp only[z8,y5,hb];rw[if_neg (by simp)]) [] rfl
   rw[zgl,yw,zww (fun x=>if a.t.length=0 then z7 else z6x (zi w x) (a.t.getD 0 zb)) hmp (fun x hx y hy=>by
    rw[z1c2]at hy;by_cases d:a.t.length=0
    ·rw[if_pos d]at hy ⊢;exact yk hy
    ·rw[if_neg d]at hy ⊢;exact zbc hy)]at lp
   exact lp
  have L7:∀(i:Nat)(o:Rows)(b:Bunch)(vs:List Val),bs.getD i zn=b→b.key.length≤100000000→mapQ (fun a=>nA a w b.rows) r.aggs=some vs→
    zaa m (z6c w r (i:Int) o (0:Int) b.key)=some (.exit 2,z6c w r (i:Int) o (r.aggs.length:Int) (b.key++vs)):=by
   intro i o b vs hb hbk hmp;have hrl:=zow hmp;have hmem:=zwv hmp
   obtain⟨lp,_⟩:=z1j (e:=.exit 2) (L:=zaa m) (st:=fun(z:List Val) q=>z6c w r (i:Int) o q z) (l:=r.aggs) (d:=zq) (g:=fun z a=>z++[(nA a w b.rows).getD z7]) (fun q z=>z.length=b.key.length+q) (by omega)
    (fun z q a hi ha hI=>by
     have hI':z.length=b.key.length+q:=hI;have ham:a∈r.aggs:=by rw[←ha];exact z8r (by omega)
     obtain⟨y,hy⟩:=hmem a ham;refine⟨by show(z++[_]).length=_;rw[y9,yf];omega,?_⟩;have hy0:=hy;rw[z2mg,if_pos hE]at hy;obtain⟨us,hu,hy⟩:=y7.1 hy;by_cases hul:us.length≤400000
     ·rw[if_pos hul]at hy;obtain rfl:=yk hy;have c2:zp4 r (q:Int) us=zf8 a us:=by
       show zf8 (Agg.ids (r.aggs.getD (q:Int).toNat zq)) us=_;rw[y5,ha];cases a;rfl
      rw[z136,z8,if_pos (by simp;omega),z6 (by omega)];refine(zj (L11 i q z o b a us hb ha ham hE hu hul)).trans ?_;rw[z1cj,c2,z6 hul,z6 (by unfold ze;rw[yf];omega),hy0];rfl
     ·rw[if_neg hul]at hy;simp at hy)
    (fun z _=>by rw[z136,z8,if_neg (by simp)]) b.key rfl
   rw[zgl,zww (fun a=>(nA a w b.rows).getD z7) hmp (fun a ha y hy=>by rw[hy];rfl)]at lp;exact lp
  have hmem:=zwv hv
  obtain⟨lp,_⟩:=z1j (e:=.exit 0) (L:=zdj m) (st:=fun(o:Rows) q=>za9 w r q o) (l:=bs) (d:=zn) (g:=fun o b=>o++[(((nAs r.aggs w b.rows).bind fun vs=>some (b.key++vs))).getD []]) (fun q o=>o.length=q) (by omega)
   (fun o i b hi hb hI=>by
    have hI':o.length=i:=hI;have hbm:b∈bs:=by rw[←hb];exact z8r (by omega)
    obtain⟨y,hy⟩:=hmem b hbm;have hbk:=hkey b hbm;refine⟨by show(o++[_]).length=_;rw[y9,yf];omega,?_⟩;have hy0:=hy;obtain⟨vs,hvs,hy⟩:=y7.1 hy;obtain rfl:=yk hy;have hvs':nAs r.aggs w b.rows=some vs:=hvs;rw[z26m]at hvs';rw[z135,c1,cb];simp only[z8,y5,hb];rw[if_pos (by simp;omega),z6 (by omega),z6 (by omega)];refine(zj (L7 i o b vs hb (by omega) hvs')).trans ?_;rw[z1es,z6 (by unfold ze;rw[yf];omega),hy0]
    rfl)
   (fun o _=>by rw[z135,c1,cb,z8,if_neg (by simp)]) [] rfl
  rw[zgl,yw,zww (fun b=>(((nAs r.aggs w b.rows).bind fun vs=>some (b.key++vs))).getD []) hv (fun b hb y hy=>by rw[hy];rfl)]at lp;rw[z1vu,Rel.ids_eq,c1,z6 (by omega),z6 (zs7 hL),z6 (by omega),z6 ⟨bs,hB⟩];refine(zj lp).trans ?_;rw[z1er]
 ·simp at hv
theorem z1s2(m:Nat)(hG:z7i m):FnOK 89 (zp0 (m+1)):=fnK2 zt zt (M:=(z7a m)) rfl ⟨hG.2.2.2.2.1,hG.2.2.2.2.2.2.2.2.2.1,z262,zqs,hG.2.1,z2ep,trivial⟩ trivial trivial trivial trivial Tryz.func89 fun w r=>GiF.r fun w1 o=>z1lb m w r (wfA_ w1 0) (wfA_ w1 1) (obA_ o 0) (obA_ o 1)
def zqy(m:Nat):Mc Un:=mcF_ [(91,z8c m),(143,z1cb),(90,zws),(85,znm),(142,zsz)] [] [] [(144,zt3)] []
def z10m:Nat→NS:=nsF_ [(11,{ts:=bl 64 481036337544,bs:=bl 64 8,nm:=[(.sl 7,256),(.sl 36,257),(.sl 8,258)],cs:=true})] true
def zan(w:Wld)(r:Rel):=zht [zp w (Rel.mk r.op r.table r.cols r.kids r.terms r.aggs r.keys r.limit r.skip r.all r.rows) (0:Int),zp w (Rel.mk r.op r.table r.cols r.kids r.terms r.aggs r.keys r.limit r.skip r.all r.rows) (1:Int)]
def zgt(w:Wld)(r:Rel):=zp w (Rel.mk r.op r.table r.cols r.kids r.terms r.aggs r.keys r.limit r.skip r.all r.rows) (1:Int)
def zao(w:Wld)(r:Rel):=zp w (Rel.mk r.op r.table r.cols r.kids r.terms r.aggs r.keys r.limit r.skip r.all r.rows) (0:Int)
def z2v(r:Rel)(v0:Int)(v1:List (List Val))(v2:Int)(v3:List (List Val))(v4:List (List Val)):S Un:=(st 64 64 259 0 [(3,ax 3),(7,ao 256),(8,ao 258),(36,ao 257),(37,ai v0),(38,ai v2)] [(3,bg .rel r)] [(256,some ⟨(0:Nat),Ty.row,v3,some (0:Nat),true⟩),(257,some ⟨(0:Nat),Ty.row,v1,some (0:Nat),true⟩),(258,some ⟨(0:Nat),Ty.row,v4,some (0:Nat),true⟩)])
def z45(m:Nat):S Un→Option (EX Un):=lpF_ (zqy m) z10m Tryz.f92 [1,1,1,1,1,1,1,0,1,2,2] 11
def zbd(m:Nat):Exit→S Un→Option (RF Un):=cxF_ (zqy m) z10m Tryz.f92 [1,1,1,1,1,1,1,0,1,2] [.m]
def z1ck(m:Nat)(w:Wld)(r:Rel):Option (RF Un):=fnF_ (zqy m) z10m Tryz.f92 3 [.m] [.d (.agg (enc Ty.wld w)),.d (.agg (enc Ty.rel r))]
theorem z27b(m:Nat)(w:Wld)(r:Rel):z1ck m w r=obO ((8:Nat)*(Rel.ids r).ht+(4:Nat)<m) (obO (zfl w (Rel.ids r) (0:Int)) (obO ((8:Nat)*(Rel.ids r).ht+(4:Nat)<m) (obO (zfl w (Rel.ids r) (1:Int)) (cndO (r.op==9) (obO ([zp w (Rel.ids r) (0:Int),zp w (Rel.ids r) (1:Int)].flatten.length≤(1000000000:Nat)) (cndO (!r.all) (obO ((zan w r).length≤(100000000:Nat)) (cndO (r.op==9) (some (zwq (z1q (zan w r)))) (obO ((zgt w r).length≤(1000000000:Nat)) ((z45 m (z2v r (↑(z1q (zan w r)).length:Int) (z1q (zan w r)) (0:Int) (zp w (Rel.ids r) (1:Int)) ([]))).bind (zd (zbd m)))))) (cndO (r.op==9) (some (zwq (zan w r))) (obO ((zgt w r).length≤(1000000000:Nat)) ((z45 m (z2v r (↑(zan w r).length:Int) (zht [zp w (Rel.ids r) (0:Int),zp w (Rel.ids r) (1:Int)]) (0:Int) (zp w (Rel.ids r) (1:Int)) ([]))).bind (zd (zbd m))))))) (cndO (!r.all) (obO ((zao w r).length≤(100000000:Nat)) (cndO (r.op==9) (some (zwq (z1q (zao w r)))) (obO ((zgt w r).length≤(1000000000:Nat)) ((z45 m (z2v r (↑(z1q (zao w r)).length:Int) (z1q (zao w r)) (0:Int) (zp w (Rel.ids r) (1:Int)) ([]))).bind (zd (zbd m)))))) (cndO (r.op==9) (some (zwq (zao w r))) (obO ((zgt w r).length≤(1000000000:Nat)) ((z45 m (z2v r (↑(zao w r).length:Int) (zp w (Rel.ids r) (0:Int)) (0:Int) (zp w (Rel.ids r) (1:Int)) ([]))).bind (zd (zbd m)))))))))):=by kernel_rfl
theorem z17q(m:Nat)(r:Rel)(v0:Int)(v1:List (List Val))(v2:Int)(v3:List (List Val))(v4:List (List Val)):z45 m (z2v r v0 v1 v2 v3 v4)=cndO (decide (v2<v0)) (obO (0≤v2∧v2<(↑v1.length:Int)) (cndO (decide (zg v3 (v1.getD v2.toNat [])≥0)) (obO (0≤zg v3 (v1.getD v2.toNat [])∧zg v3 (v1.getD v2.toNat [])<IntKind.i64.wrap (zg v3 (v1.getD v2.toNat [])+1)∧IntKind.i64.wrap (zg v3 (v1.getD v2.toNat [])+1)≤(↑v3.length:Int)) (cndO (decide (zg v3 (v1.getD v2.toNat [])≥0)==(r.op==10)) (obO ((v4.length+[v1.getD v2.toNat []].length)*(24:Nat)≤ze) (z45 m (z2v r v0 v1 (IntKind.i64.wrap (v2+1)) (List.take (zg v3 (v1.getD v2.toNat [])).toNat v3++List.drop (IntKind.i64.wrap (zg v3 (v1.getD v2.toNat [])+1)).toNat v3) (v4++[v1.getD v2.toNat []])))) (z45 m (z2v r v0 v1 (IntKind.i64.wrap (v2+1)) (List.take (zg v3 (v1.getD v2.toNat [])).toNat v3++List.drop (IntKind.i64.wrap (zg v3 (v1.getD v2.toNat [])+1)).toNat v3) v4)))) (cndO (decide (zg v3 (v1.getD v2.toNat [])≥0)==(r.op==10)) (obO ((v4.length+[v1.getD v2.toNat []].length)*(24:Nat)≤ze) (z45 m (z2v r v0 v1 (IntKind.i64.wrap (v2+1)) v3 (v4++[v1.getD v2.toNat []])))) (z45 m (z2v r v0 v1 (IntKind.i64.wrap (v2+1)) v3 v4))))) (some (.exit 0,(z2v r v0 v1 v2 v3 v4))):=lpQ_ (by kernel_rfl)
theorem z1lc(m:Nat)(r:Rel)(v0:Int)(v1:List (List Val))(v2:Int)(v3:List (List Val))(v4:List (List Val)):zbd m (.exit 0) (z2v r v0 v1 v2 v3 v4)=some (zwq (v4)):=by kernel_rfl
theorem z1vv(m:Nat)(w:Wld)(r:Rel)(_hw:WS .wld w)(_hr:WS .rel r)(hm:8*r.ht+6<m+1)(h:z1rg w r):z1ck m w r=some (zwq (zbv w r)):=by
 obtain⟨v,hv⟩:=h;have e:zbv w r=v:=by unfold zbv;rw[hv];rfl
 rw[e];unfold nSet setO at hv;obtain⟨a,hA,hv⟩:=y7.1 hv;obtain⟨b,hB,hv⟩:=y7.1 hv;obtain⟨z,hz,hv⟩:=y7.1 hv;obtain rfl:=yk hv;have hal:=zcg hA;have hbl:=zcg hB;have e2:zgt w r=b:=zuk hB;have e3:zao w r=a:=z5y hA;have e1:zan w r=a++b:=by
  show zht [zp w (Rel.ids r) 0,zp w (Rel.ids r) 1]=_;rw[Rel.ids_eq,z5y hA,zuk hB];unfold zht;simp
 have hpl:∀(x:List Val)(l:Rows),0≤zg l x→(zg l x).toNat<l.length∧((zg l x).toNat:Int)=zg l x:=fun x l h0=>by
  unfold zg at h0 ⊢;cases hf:l.findIdx? (fun y=>plc1 y x)with
  |none=>rw[hf]at h0;exact absurd h0 (by decide)
  |some i=>exact⟨by simpa using(y2b.1 hf).1,by simp⟩
 have loop:∀(c:Rows),c.length≤100000000→∀(q:Rows)(i:Nat)(left out:Rows),c.drop i=q→i≤c.length→left.length≤100000000→out.length≤i→
   (z45 m (z2v r (c.length:Int) c (i:Int) left out)).bind (zd (zbd m))=some (zwq (out++setL (decide (r.op=10)) q left)):=by
  intro c hc q
  induction q with
  |nil=>
   intro i left out hr hi hlf ho;have hil:c.length≤i:=by rw[←y1q];exact hr
   have e:z45 m (z2v r (c.length:Int) c (i:Int) left out)=some (.exit 0,z2v r (c.length:Int) c (i:Int) left out):=by rw[z17q,z8,if_neg (by simp;omega)]
   rw[zj e,z1lc];simp only[setL,y13]
  |cons x q ih=>
   intro i left out hr hi hlf ho;obtain⟨a1,a2,a3,hmem⟩:=z3f hr;have hx:c.getD i []=x:=a2 [];have hb0:∀p:Bool,(p==(r.op==10))=true↔p=decide (r.op=10):=fun p=>by
    have:(r.op==10)=decide (r.op=10):=by cases h:decide (r.op=10)<;>simp_all
    rw[this,beq_iff_eq]
   have hge:decide (zg left x≥0)=decide (0≤zg left x):=rfl;have hsl:=z17q m r (c.length:Int) c (i:Int) left out;simp only[z8,y5,hx,z3g a1 (show c.length≤9223372036854775807 by omega),hb0,hge]at hsl;rw[if_pos (by simp;omega),z6 (by omega)]at hsl;simp only[setL];by_cases d:0≤zg left x
   ·obtain⟨p1,p2⟩:=hpl x left d;obtain⟨p,hp⟩:∃p,p=(zg left x).toNat:=⟨_,rfl⟩;rw[←hp]at p1 p2;have hw1:IntKind.i64.wrap (zg left x+1)=((p+1:Nat):Int):=by rw[←p2];exact z1f (by omega)
    have hlt:(left.take p++left.drop (p+1)).length≤100000000:=by rw[y9,yq,yr];omega
    have he:left.eraseIdx p=left.take p++left.drop (p+1):=y4m _ _;rw[if_pos (by simpa using d),hw1,←p2,y5,y5,z6 (by omega)]at hsl;rw[if_pos d,←hp,he];have dd:decide (0≤(p:Int))=true:=by simp
    rw[dd]at hsl;rw[decide_eq_true d];by_cases d2:true=decide (r.op=10)
    ·rw[if_pos d2,z6 (by unfold ze;rw[yf];omega)]at hsl;rw[if_pos d2,hsl,ih (i+1) _ (out++[x]) a3 (by omega) hlt (by rw[y9,yf];omega),y11]
    ·rw[if_neg d2]at hsl;rw[if_neg d2,hsl,ih (i+1) _ out a3 (by omega) hlt (by omega),yw]
   ·rw[if_neg (by simpa using d)]at hsl;rw[if_neg d];rw[decide_eq_false d]at hsl ⊢;by_cases d2:false=decide (r.op=10)
    ·rw[if_pos d2,z6 (by unfold ze;rw[yf];omega)]at hsl;rw[if_pos d2,hsl,ih (i+1) _ (out++[x]) a3 (by omega) hlf (by rw[y9,yf];omega),y11]
    ·rw[if_neg d2]at hsl;rw[if_neg d2,hsl,ih (i+1) _ out a3 (by omega) hlf (by omega),yw]
 have hon:∀l:Rows,(z1q l).length≤l.length:=fun l=>by
  have:∀(l o:Rows),(l.foldl (fun o x=>if zg o x<0 then o++[x]else o) o).length≤o.length+l.length:=by
   intro l
   induction l with
   |nil=>intro o;simp
   |cons x l ih=>
    intro o;rw[yx];refine y1c (ih _) ?_;split
    ·rw[y9,yf,yt];omega
    ·rw[yt];omega
  have h0:=this l [];rw[y1r,y16]at h0;exact h0
 have s9:∀c:Rows,r.op=9→setE r.op r.all c b=if r.all=true then c else z1q c:=fun c h=>by unfold setE;rw[if_pos h]
 have s10:∀c:Rows,r.op≠9→setE r.op r.all c b=setL (decide (r.op=10)) (if r.all=true then c else z1q c) b:=fun c h=>by unfold setE;rw[if_neg h]
 rw[z27b];simp only[z8,Rel.ids_eq,beq_iff_eq,e1,e2,e3,z5y hA,zuk hB];rw[z6 (by omega),z6 (zs7 hA),z6 (by omega),z6 (z2jb hB)];by_cases c9:r.op=9
 ·rw[if_pos c9]at hz;obtain⟨h1,h2⟩:=zyv hz;subst h1;rw[y9]at h2;rw[if_pos c9,z6 (by simp;omega),s9 _ c9];by_cases ca:r.all=true
  ·rw[if_neg (by simp[ca]),if_pos c9,if_pos ca]
  ·rw[if_pos (by simpa using ca),z6 (by rw[y9];omega),if_pos c9,if_neg ca]
 ·rw[if_neg c9]at hz;obtain rfl:=yk hz;rw[if_neg c9,s10 _ c9];by_cases ca:r.all=true
  ·rw[if_neg (by simp[ca]),if_neg c9,z6 (by omega),if_pos ca];have:=loop a (by omega) a 0 b [] rfl (yb _) hbl (yb _);exact this
  ·rw[if_pos (by simpa using ca),z6 (by omega),if_neg c9,z6 (by omega),if_neg ca];have h1:=hon a;have:=loop (z1q a) (by omega) (z1q a) 0 b [] rfl (yb _) hbl (yb _);exact this
theorem z21j(m:Nat)(hG:z7i m):FnOK 92 (zx0 (m+1)):=fnK2 zt zt (M:=(zqy m)) rfl ⟨hG.2.2.2.2.1,z21b,z17a,zsv,z12k,trivial⟩ trivial trivial ⟨z1rp,trivial⟩ trivial Tryz.func92 fun w r=>GiF.r fun w1 o=>z1vv m w r (wfA_ w1 0) (wfA_ w1 1) (obA_ o 0) (obA_ o 1)
theorem z1et(m:Nat)(hG:z7i m):FnOK 139 (zam (m+1)):=by
 intro args ob rs os h hob;unfold zam at h;split at h
 ·simp only[y7,y8,ym]at h;obtain⟨w,e0,rows,e1,terms,e2,rfl,rfl,rfl⟩:=h;obtain rfl:=zt e0;obtain rfl:=zr e1;obtain rfl:=zr e2;have hm:8*htTs terms+9<m+1:=hob _ (ye (i:=0) rfl);obtain⟨bs,hbs⟩:z2eu w rows terms:=hob _ (ye (i:=1) rfl);have e:z19 w rows terms=bs:=by unfold z19;rw[hbs];rfl
  rw[e];refine⟨z1l6 w rows terms bs hbs (fun x key hk=>?_),zk Tryz.func139 (by kernel_rfl) (by kernel_rfl)⟩;have hF:z6b m [.d (.agg (enc Ty.wld (zi w x))),.d (.v (.dat (U:=Un) Ty.term terms))]=some ([8*htTs terms+8<m,okTs (zi w x) terms],zt5 (z56 (zi w x) terms),[]):=by
   unfold z6b;simp only[z114,z1ml,yh];rfl
  have hC:=(hG.2.2.1 _ _ _ _ hF (fun p hp=>by
   simp only[yg,y2k,or_false]at hp;rcases hp with rfl|rfl
   ·omega
   ·exact⟨(z1c5 hbs).1.2.1,key,hk⟩)).1
  rw[zhu hk]at hC;exact Contract.data hC
 ·simp at h
theorem z3q:∀m,z7i m
  |0=>⟨fnZ2,fnZ2,by
        intro args ob rs os h hob;unfold z6b at h;split at h
        · simp only[y7,y8,ym]at h;obtain⟨_,_,_,_,rfl,_,_⟩:=h;exact absurd (hob _ (ye (i:=0) rfl)) (y18 _)
        · simp at h
      ,fnZ3,fnZ3,fnZ2,fnZ2,fnZ2,fnZ2,by
        intro args ob rs os h hob;unfold zam at h;split at h
        · simp only[y7,y8,ym]at h;obtain⟨_,_,_,_,_,_,rfl,_,_⟩:=h;exact absurd (hob _ (ye (i:=0) rfl)) (y18 _)
        · simp at h
      ,fnZ2,fnZ2⟩
  |m+1=>⟨z1vn m (z3q m),z1vo m (z3q m),z1ry m (z3q m),z278 m (z3q m),z21g m (z3q m),z21h m (z3q m),z1l8 m (z3q m),z1ep m (z3q m),z1vt m (z3q m),z1et m (z3q m),z1s2 m (z3q m),z21j m (z3q m)⟩
def z1hy:FnC Un:=fnF2 (dS .wld) (dS .rel) fun w r=>([okRl w r],zwq (z9o w r))
theorem z27c:FnOK 45 z1hy:=fnA2 fun m=>(z3q m).2.2.2.2.2.1
end
end B
namespace B
open Go Go.RowKit
set_option maxRecDepth 100000
noncomputable section
attribute [local irreducible] awp ctxK zw z1a retQ z1m awf ctxF z1l
def z10n(r:List (List Val)):RF Un:=([.c (.sl (U:=Un) Ty.row r false)],[])
def z1cl(s:List (List Val)):Option (RF Un):=fnF_ z1f6 z28d Tryz.f44 0 [.d] [.d (.v (.dat (U:=Un) Ty.row s))]
theorem z27d(s:List (List Val)):z1cl s=obO ((0:Int)≤(↑s.length:Int)∧(↑s.length:Int)=(↑s.length:Int)∧(↑s.length:Int)≤(↑s.length:Int)) (some (z10n (List.take (↑s.length:Int).toNat s))):=by kernel_rfl
def z1cm(s:List (List Val)):List (List Val):=s
theorem z1vw(s:List (List Val))(hs:WL .row s):z1cl s=some (z10n (z1cm s)):=by
 rw[z27d,z6 (by omega),y5,y2s];rfl
def z1i0:FnC Un:=fnF1 (dL .row) fun s=>([],z10n (z1cm s))
theorem z27e:FnOK 44 z1i0:=fnK1 zr (M:=z1f6) rfl trivial trivial trivial trivial trivial Tryz.func44 fun s=>GiF.r fun w _=>z1vw s (wfA_ w 0)
def z1i1:Mc Un:=mcF_ [(45,z1hy),(44,z1i0)] [] [] [] []
def z1cn(r:Rel)(env:List (List Val))(db:List Data):Option (RF Un):=fnF_ z1i1 z28d Tryz.f16 0 [.d] [.d (.agg (enc Ty.rel r)),.d (.v (.dat (U:=Un) Ty.row env)),.d (.v (.dat (U:=Un) Ty.data db))]
theorem z27f(r:Rel)(env:List (List Val))(db:List Data):z1cn r env db=obO (okRl {env:=env,db:=db} (Rel.ids r)) (some (z10n (z1cm (z9o {env:=env,db:=db} (Rel.ids r))))):=by kernel_rfl
def z1co(r:Rel)(env:List (List Val))(db:List Data):List (List Val):=z9o ⟨env,db⟩ r
theorem z1vx(r:Rel)(env:List (List Val))(db:List Data)(_hr:WS .rel r)(_he:WL .row env)(_hd:WL .data db)(h:okRl ⟨env,db⟩ r):z1cn r env db=some (z10n (z1co r env db)):=by
 rw[z27f];simp only[Rel.ids_eq];rw[z6 h];rfl
def z1i2:FnC Un:=fnF3 (dS .rel) (dL .row) (dL .data) fun r env db=>([okRl ⟨env,db⟩ r],z10n (z1co r env db))
theorem z27g:FnOK 16 z1i2:=fnK3 zt zr zr (M:=z1i1) rfl ⟨z27c,z27e,trivial⟩ trivial trivial trivial trivial Tryz.func16 fun r env db=>GiF.r fun w o=>z1vx r env db (wfA_ w 0) (wfA_ w 1) (wfA_ w 2) (obA_ o 0)
def z1i3:Mc Un:=mcF_ [(16,z1i2)] [] [] [] []
def z1cp(r:Rel)(db:List Data):Option (RF Un):=fnF_ z1i3 z28d Tryz.f14 0 [.d] [.d (.agg (enc Ty.rel r)),.d (.v (.dat (U:=Un) Ty.data db))]
theorem z27h(r:Rel)(db:List Data):z1cp r db=obO (okRl {env:=[],db:=db} (Rel.ids r)) (some (z10n (z1co (Rel.ids r) [] db))):=by kernel_rfl
def z1r(r:Rel)(db:List Data):List (List Val):=z9o ⟨[],db⟩ r
theorem z1vy(r:Rel)(db:List Data)(_hr:WS .rel r)(_hd:WL .data db)(h:okRl ⟨[],db⟩ r):z1cp r db=some (z10n (z1r r db)):=by
 rw[z27h];simp only[Rel.ids_eq];rw[z6 h];rfl
def zqz:FnC Un:=fnF2 (dS .rel) (dL .data) fun r db=>([okRl ⟨[],db⟩ r],z10n (z1r r db))
theorem z1cq:FnOK 14 zqz:=fnK2 zt zr (M:=z1i3) rfl ⟨z27g,trivial⟩ trivial trivial trivial trivial Tryz.func14 fun r db=>GiF.r fun w o=>z1vy r db (wfA_ w 0) (wfA_ w 1) (obA_ o 0)
end
end B
namespace B
open Go Go.RowKit
set_option maxRecDepth 100000
noncomputable section
attribute [local irreducible] awp ctxK zw z1a retQ z1m awf ctxF z1l
def zum:Mc Un:=mcF_ [(43,zvj)] [] [] [] []
def z15c:Nat→NS:=nsF_ [(2,{ts:=bl 33 51,bs:=bl 33 0,nm:=[],cs:=true})] true
def z7w(a:List (List Val))(b:List (List Val))(v0:Int):S Un:=(st 33 33 132 0 [(0,al .row a),(1,al .row b),(4,ab false),(5,ai v0)] [] [])
def zr0:S Un→Option (EX Un):=lpF_ zum z15c Tryz.f13 [1,0,1,2,2] 2
def z10q:Exit→S Un→Option (RF Un):=cxF_ zum z15c Tryz.f13 [1,0,1,2] [.d]
def z1i4(a:List (List Val))(b:List (List Val)):Option (RF Un):=fnF_ zum z15c Tryz.f13 0 [.d] [.d (.v (.dat (U:=Un) Ty.row a)),.d (.v (.dat (U:=Un) Ty.row b))]
theorem z2an(a:List (List Val))(b:List (List Val)):z1i4 a b=(zr0 (z7w a b (0:Int))).bind (zd z10q):=by kernel_rfl
theorem z1i5(a:List (List Val))(b:List (List Val))(v0:Int):zr0 (z7w a b v0)=cndO (decide (v0<(↑a.length:Int))) (cndO (decide (v0<(↑b.length:Int))) (obO (0≤v0∧v0<(↑a.length:Int)) (obO (0≤v0∧v0<(↑b.length:Int)) (cndO (zbh (a.getD v0.toNat []) (b.getD v0.toNat []) !=0) (some (.ret,(z7w a b v0))) (zr0 (z7w a b (IntKind.i64.wrap (v0+1))))))) (some (.exit 0,(z7w a b v0)))) (some (.exit 0,(z7w a b v0))):=lpQ_ (by kernel_rfl)
theorem z1s3(a:List (List Val))(b:List (List Val))(v0:Int):z10q .ret (z7w a b v0)=some (z9b (false)):=by kernel_rfl
theorem z1vz(a:List (List Val))(b:List (List Val))(v0:Int):z10q (.exit 0) (z7w a b v0)=some (z9b ((↑a.length:Int)==(↑b.length:Int))):=by kernel_rfl
noncomputable def z15d(a b:List (List Val)):Bool:=deq a b
theorem z21k(a b:List (List Val))(ha:WL .row a)(_hb:WL .row b):z1i4 a b=some (z9b (z15d a b)):=by
 rw[z2an]
 exact z2kq (L:=zr0) (st:=fun i=>z7w a b i) (fun r=>some (z9b r)) (d:=[]) ha.len
  (fun i hi hj=>by
   rw[z1i5,z2na];simp only[z8,y5];rw[if_pos (by simp;omega),if_pos (by simp;omega),z6 (by omega),z6 (by omega)]
   cases deq (a.getD i []) (b.getD i [])<;>simp)
  (fun i h=>by
   rw[z1i5];simp only[z8,decide_eq_true_eq];by_cases h1:(i:Int)<(a.length:Int)
   ·rw[if_pos h1,if_neg (by omega)]
   ·rw[if_neg h1])
  (fun i=>z1s3 _ _ _) (fun i=>z1vz _ _ _)
def z15e:FnC Un:=fnF2 (dL .row) (dL .row) fun a b=>([],z9b (z15d a b))
theorem z2ao:FnOK 13 z15e:=fnK2 zr zr (M:=zum) rfl ⟨z15r,trivial⟩ trivial trivial trivial trivial Tryz.func13 fun a b=>GiF.r fun w _=>z21k a b (wfA_ w 0) (wfA_ w 1)
end
end B
end Go.Proofs.YtjfpbchdcbhfgaaGreat
