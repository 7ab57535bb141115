/- Part 18 of the proof: Snaive5 Snaive6. -/
import Derived.Test.YtjfpbchdcbhfgaaGreatNgr17
set_option linter.unusedVariables false
set_option linter.unusedSimpArgs false
namespace Go.Proofs.YtjfpbchdcbhfgaaGreat
namespace B
open Go Go.RowKit
set_option maxRecDepth 100000
noncomputable section
attribute [local irreducible] awp ctxK zx z1f retQ z1l awf ctxF z1k
def zr4(m:Nat):FnC Un:=fnF2 (dS .wld) (dS .term) fun w t=>z2m (8*t.ht+6) m ([z1nk w t],zug (z5q w t))
def z8k(m:Nat):FnC Un:=fnF2 (dS .wld) (dS .term) fun w t=>z2m (8*t.ht+7) m ([okT w t],zx1 (z6q w t))
def zr5(r:List Val):List (A Un):=[.c (.sl (U:=Un) Ty.val r false)]
def z14p(_r:List Val):List (Ob Un):=[]
def zr6(r:List Val):RF Un:=(zr5 r,z14p r)
def z65(m:Nat):FnC Un:=fun args=>match args with
 |[x0,x1]=>(dS .wld x0).bind fun w=>(dL .term x1).bind fun l=>some ([8*htTs l+8<m,okTs w l],zr5 (z50 w l),z14p (z50 w l))
 |_=>none
def zp2(m:Nat):FnC Un:=fnF3 (dS .wld) (dL .term) (dL .val) fun w l x=>z2m (8*htTs l+8) m ([okSo w l x],z8z (zdj w l x))
def z81(m:Nat):FnC Un:=fnF3 (dS .wld) (dS .rel) (dI .i64) fun w r n=>z2m (8*r.ht+4) m ([zeo w r n],zug (zn w r n))
def zme(m:Nat):FnC Un:=fnF2 (dS .wld) (dS .rel) fun w r=>z2m (8*r.ht+7) m ([okRl w r],zug (z9c w r))
def zmf(m:Nat):FnC Un:=fnF2 (dS .wld) (dS .rel) fun w r=>z2m (8*r.ht+6) m ([z1hh w r],zug (za6 w r))
def zjh(m:Nat):FnC Un:=fnF2 (dS .wld) (dS .rel) fun w r=>z2m (8*r.ht+6) m ([z194 w r],zug (z8j w r))
def zr7(m:Nat):FnC Un:=fnF2 (dS .wld) (dS .rel) fun w r=>z2m (8*r.ht+6) m ([z1nm w r],zug (zbc w r))
def z1o1(r:List Bunch):List (A Un):=[.c (.sl (U:=Un) Ty.bunch r false)]
def z1o2(_r:List Bunch):List (Ob Un):=[]
def za7(m:Nat):FnC Un:=fun args=>match args with
 |[x0,x1,x2]=>(dS .wld x0).bind fun w=>(dL .row x1).bind fun rows=>(dL .term x2).bind fun terms=>some ([8*htTs terms+9<m,z29u w rows terms],z1o1 (z19 w rows terms),z1o2 (z19 w rows terms))
 |_=>none
def zne(m:Nat):FnC Un:=fnF2 (dS .wld) (dS .rel) fun w r=>z2m (8*r.ht+6) m ([z1rf w r],zug (zbv w r))
def zuq(m:Nat):FnC Un:=fnF2 (dS .wld) (dS .rel) fun w r=>z2m (8*r.ht+6) m ([z1nn w r],zug (zbd w r))
def z19c(m:Nat):Mc Un:=mcF_ [(45,zme m)] [] [] [] []
def z14q(m:Nat)(w:Wld)(t:Term):Option (RF Un):=fnF_ (z19c m) z23g Tryz.f118 0 [.m] [.d (.agg (enc Ty.wld w)),.d (.agg (enc Ty.term t))]
theorem z1wv(m:Nat)(w:Wld)(t:Term):z14q m w t=cndO ((↑t.sub.length:Int)==(0:Int)) (some (zug ([]))) (obO ((0:Int)≤(0:Int)∧(0:Int)<(↑t.sub.length:Int)) (obO ((8:Nat)*(Rel.ids (t.sub.getD 0 za)).ht+(7:Nat)<m) (obO (okRl w (Rel.ids (t.sub.getD 0 za))) (some (zug (z9c w (Rel.ids (t.sub.getD 0 za)))))))):=by kernel_rfl
theorem Term.ht_kids(t:Term):htTs t.kids<t.ht:=by cases t;grind[Term.kids_mk,Term.ht]
theorem Rel.ht_terms(r:Rel):htTs r.terms<r.ht:=by cases r;grind[Rel.terms_mk,Rel.ht]
theorem ziy{w:Wld}{t:Term}{l:Rows}(h:nSub t.sub w=some l):z5q w t=l:=by simp_all[z5q]
theorem z82{w:Wld}{r:Rel}{l:Rows}(h:nR r w=some l):z9c w r=l:=by simp_all[z9c]
theorem zay{w:Wld}{t:Term}{v:Val}(h:nT t w=some v):z6q w t=v:=by simp_all[z6q]
theorem zgx{w:Wld}{t:List Term}{v:List Val}(h:nTs t w=some v):z50 w t=v:=by simp_all[z50]
theorem zy7{w:Wld}{t:List Term}{x:List Val}{b:Bool}(h:nSo t (zf w x)=some b):zdj w t x=b:=by simp_all[zdj]
theorem zur{w:Wld}{r:Rel}{n:Nat}{l:Rows}(h:nKid r.kids n w=some l):zn w r (n:Int)=l:=by simp_all[zn,y5]
theorem z5r{w:Wld}{r:Rel}{l:Rows}(h:nKid r.kids 0 w=some l):zn w r (0:Int)=l:=zur (n:=0) h
theorem zsg{w:Wld}{r:Rel}{l:Rows}(h:nKid r.kids 1 w=some l):zn w r (1:Int)=l:=zur (n:=1) h
theorem zq8{w:Wld}{r:Rel}{l:Rows}(h:nKid r.kids 0 w=some l):zeo w r (0:Int):=⟨y29 _,l,h⟩
theorem z2e6{w:Wld}{r:Rel}{l:Rows}(h:nKid r.kids 1 w=some l):zeo w r (1:Int):=⟨by omega,l,h⟩
theorem z1o3(m:Nat)(w:Wld)(t:Term)(_hw:WS .wld w)(_ht:WS .term t)(hm:8*t.ht+6<m+1)(h:z1nk w t):z14q m w t=some (zug (z5q w t)):=by
 obtain⟨l,hl⟩:=h;rw[ziy hl];rw[z26o]at hl;rw[z1wv];simp only[z8,Rel.ids_eq,beq_iff_eq];by_cases h0:t.sub.length=0
 ·grind
 ·rw[if_neg h0]at hl;have hs:(t.sub.getD 0 za).ht<t.ht:=Term.ht_sub (z8f (by omega));rw[if_neg (by omega),z6 (by omega),z6 (by omega),z6 ⟨l,hl⟩,z82 hl]
abbrev z79(m:Nat):Prop:=FnOK 118 (zr4 m)∧FnOK 67 (z8k m)∧FnOK 121 (z65 m)∧FnOK 136 (zp2 m)∧FnOK 91 (z81 m)∧FnOK 45 (zme m)∧FnOK 86 (zmf m)∧FnOK 87 (zjh m)∧FnOK 88 (zr7 m)∧FnOK 139 (za7 m)∧FnOK 89 (zne m)∧FnOK 92 (zuq m)
theorem z1ri(m:Nat)(hG:z79 m):FnOK 118 (zr4 (m+1)):=fnK2 zr zr (M:=(z19c m)) rfl ⟨hG.2.2.2.2.2.1,trivial⟩ trivial trivial trivial trivial Tryz.func118 fun w t=>GiF.r fun w1 o=>z1o3 m w t (wfA_ w1 0) (wfA_ w1 1) (obA_ o 0) (obA_ o 1)
def z19d(m:Nat):Mc Un:=mcF_ [(117,z141),(118,zr4 m),(39,zcp),(67,z8k m),(119,z14f),(121,z65 m),(120,zn8)] [] [] [] []
def z14r(m:Nat)(w:Wld)(t:Term):Option (RF Un):=fnF_ (z19d m) z23g Tryz.f67 0 [.d] [.d (.agg (enc Ty.wld w)),.d (.agg (enc Ty.term t))]
theorem z1ww(m:Nat)(w:Wld)(t:Term):z14r m w t=cndO (t.op==1) (obO ((Term.ids t).sz≤(2000000:Nat)) (obO (strT (Term.ids t)) (obO (z5p w.env) (some (zx1 (z4a (Term.ids t) w.env)))))) (cndO (t.op==2) (obO ((Term.ids t).sz≤(2000000:Nat)) (obO (strT (Term.ids t)) (obO (z5p w.env) (some (zx1 (z4a (Term.ids t) w.env)))))) (cndO (t.op==26) (obO ((8:Nat)*(Term.ids t).ht+(6:Nat)<m) (obO (z1nk w (Term.ids t)) (cndO ((↑(z5q w (Term.ids t)).length:Int)==(1:Int)) (obO ((0:Int)≤(0:Int)∧(0:Int)<(↑(z5q w (Term.ids t)).length:Int)) (cndO (decide ((↑(List.length ((z5q w (Term.ids t)).getD 0 [])):Int)>(0:Int))) (obO ((0:Int)≤(0:Int)∧(0:Int)<(↑(z5q w (Term.ids t)).length:Int)) (obO ((0:Int)≤(0:Int)∧(0:Int)<(↑(List.length ((z5q w (Term.ids t)).getD 0 [])):Int)) (some (zx1 (List.getD ((z5q w (Term.ids t)).getD 0 []) 0 z7))))) (some (zx1 (z7))))) (some (zx1 (z7)))))) (cndO (t.op==27) (obO ((8:Nat)*(Term.ids t).ht+(6:Nat)<m) (obO (z1nk w (Term.ids t)) (some (zx1 (z2y (decide ((↑(z5q w (Term.ids t)).length:Int)>(0:Int)))))))) (cndO (t.op==28) (cndO ((↑t.kids.length:Int)==(0:Int)) (some (zx1 (z7))) (obO ((0:Int)≤(0:Int)∧(0:Int)<(↑t.kids.length:Int)) (obO ((8:Nat)*(Term.ids (t.kids.getD 0 zb)).ht+(7:Nat)<m) (obO (okT w (Term.ids (t.kids.getD 0 zb))) (obO ((8:Nat)*(Term.ids t).ht+(6:Nat)<m) (obO (z1nk w (Term.ids t)) (some (zx1 (zhy (z6q w (Term.ids (t.kids.getD 0 zb))) (z5q w (Term.ids t))))))))))) (obO ((8:Nat)*htTs t.kids+(8:Nat)<m) (obO (okTs w t.kids) (obO (txts (z50 w t.kids)) (some (zx1 (z1y t.op t.name (z50 w t.kids))))))))))):=by kernel_rfl
theorem z1o4(m:Nat)(w:Wld)(t:Term)(_hw:WS .wld w)(_ht:WS .term t)(hm:8*t.ht+7<m+1)(h:okT w t):z14r m w t=some (zx1 (z6q w t)):=by
 obtain⟨v,hv⟩:=h;rw[zay hv];rw[z1al]at hv;rw[z1ww];simp only[z8,Term.ids_eq,beq_iff_eq,decide_eq_true_eq];have hkd:=Term.ht_kids t;by_cases c12:t.op=1∨t.op=2
 ·rw[if_pos c12]at hv;obtain⟨⟨h1,h2,h3⟩,h4⟩:=chkQ_some.1 hv;rcases c12 with c|c
  all_goals simp_all[if_pos,z6,if_neg]
 rw[if_neg c12]at hv;rw[if_neg (fun e=>c12 (.inl e)),if_neg (fun e=>c12 (.inr e))];by_cases c3:t.op=26
 ·rw[if_pos c3]at hv ⊢;obtain⟨l,hl,h4⟩:=y7.1 hv;rw[z6 (by omega),z6 ⟨l,hl⟩,ziy hl];by_cases d1:l.length=1
  ·by_cases d2:0<(l.getD 0 []).length
   all_goals simp_all[if_pos,z6,if_neg]
  grind
 rw[if_neg c3]at hv ⊢;by_cases c4:t.op=27
 ·rw[if_pos c4]at hv ⊢;obtain⟨l,hl,h4⟩:=y7.1 hv;obtain rfl:=yk h4;rw[z6 (by omega),z6 ⟨l,hl⟩,ziy hl];simp
 rw[if_neg c4]at hv ⊢;by_cases c5:t.op=28
 ·rw[if_pos c5]at hv ⊢;by_cases d:t.kids.length=0
  ·grind
  ·rw[if_neg d]at hv;obtain⟨x,hx,h4⟩:=y7.1 hv;obtain⟨l,hl,h5⟩:=y7.1 h4;obtain rfl:=yk h5;rw[z10c,if_neg d]at hx;have hk:(t.kids.getD 0 zb).ht<t.ht:=Term.ht_kidD (by omega);rw[if_neg (by omega),z6 (by omega),z6 (by omega),z6 ⟨x,hx⟩,z6 (by omega),z6 ⟨l,hl⟩,zay hx,ziy hl]
 rw[if_neg c5]at hv ⊢;split at hv
 ·obtain⟨l,hl,h4⟩:=y7.1 hv;obtain⟨h5,h6⟩:=chkQ_some.1 h4;obtain rfl:=yk h6;rw[z6 (by omega),z6 ⟨by omega,l,hl⟩,zgx hl,z6 h5]
 grind
theorem z1rj(m:Nat)(hG:z79 m):FnOK 67 (z8k (m+1)):=fnK2 zr zr (M:=(z19d m)) rfl ⟨z1qn,hG.1,zqq,hG.2.1,z1r6,hG.2.2.1,zw7,trivial⟩ trivial trivial trivial trivial Tryz.func67 fun w t=>GiF.r fun w1 o=>z1o4 m w t (wfA_ w1 0) (wfA_ w1 1) (obA_ o 0) (obA_ o 1)
def ziz(m:Nat):Mc Un:=mcF_ [(67,z8k m)] [] [] [] []
def zj0:Nat→NS:=nsF_ [(3,{ts:=bl 26 14372,bs:=bl 26 4,nm:=[(.sl 5,104)],cs:=true})] true
def z4b(w:Wld)(l:List Term)(v0:Int)(v1:List Val):S Un:=(st 26 26 105 0 [(2,ax 2),(5,ao 104),(11,al .term l),(12,ai (↑l.length:Int)),(13,ai v0)] [(2,bg .wld w)] [(104,some ⟨(0:Nat),Ty.val,v1,some (0:Nat),true⟩)])
def z7a(m:Nat):S Un→Option (EX Un):=lpF_ (ziz m) zj0 Tryz.f121 [1,1,0,1,2,2] 3
def znf(m:Nat):Exit→S Un→Option (RF Un):=cxF_ (ziz m) zj0 Tryz.f121 [1,1,0,1,2] [.d]
def z10h(m:Nat)(w:Wld)(l:List Term):Option (RF Un):=fnF_ (ziz m) zj0 Tryz.f121 1 [.d] [.d (.agg (enc Ty.wld w)),.d (.v (.dat (U:=Un) Ty.term l))]
theorem z1rk(m:Nat)(w:Wld)(l:List Term):z10h m w l=obO ((0:Int)≤(↑l.length:Int)∧(↑l.length:Int)≤(↑l.length:Int)∧(↑l.length:Int).toNat*(32:Nat)≤zi) ((z7a m (z4b w l (0:Int) (List.replicate (↑l.length:Int).toNat z7))).bind (ze (znf m))):=by kernel_rfl
theorem z10i(m:Nat)(w:Wld)(l:List Term)(v0:Int)(v1:List Val):z7a m (z4b w l v0 v1)=cndO (decide (v0<(↑l.length:Int))) (obO (0≤v0∧v0<(↑l.length:Int)) (obO ((8:Nat)*(Term.ids (l.getD v0.toNat zb)).ht+(7:Nat)<m) (obO (okT w (Term.ids (l.getD v0.toNat zb))) (obO (0≤v0∧v0<(↑v1.length:Int)) (obO ((0:Nat)≤v0.toNat) (z7a m (z4b w l (IntKind.i64.wrap (v0+1)) (v1.set v0.toNat (z6q w (Term.ids (l.getD v0.toNat zb))))))))))) (some (.exit 0,(z4b w l v0 v1))):=lpQ_ (by kernel_rfl)
theorem z1bj(m:Nat)(w:Wld)(l:List Term)(v0:Int)(v1:List Val):znf m (.exit 0) (z4b w l v0 v1)=some (zr6 (v1)):=by kernel_rfl
theorem z1us{α β:Type}{f:α→Option β}:∀{l:List α}{s:List β}(i:Nat),mapQ f l=some s→mapQ f (l.drop i)=some (s.drop i)
 |_,_,0,h=>h
 |[],s,i+1,h=>by simp_all[mapQ,y8]
 |x::l,s,i+1,h=>by
  obtain⟨y,r,h1,h2,rfl⟩:=zq4 h;exact z1us i h2
theorem z1hq(m:Nat)(w:Wld)(l:List Term)(_hw:WS .wld w)(hl:WL .term l)(hm:8*htTs l+8<m+1)(h:okTs w l):z10h m w l=some (zr6 (z50 w l)):=by
 obtain⟨hlen,s,hs⟩:=h;rw[zgx hs];rw[z193]at hs;have hsl:=znb hs;have key:∀(r:List Term)(i:Nat)(q:List Val),l.drop i=r→i≤l.length→q.length=l.length→q.take i=s.take i→(z7a m (z4b w l (i:Int) q)).bind (ze (znf m))=some (zr6 s):=by
  intro r
  induction r with
  |nil=>
   intro i q hr hi hq ht;have hil:l.length≤i:=by rw[←y1n];exact hr
   have e:z7a m (z4b w l (i:Int) q)=some (.exit 0,z4b w l (i:Int) q):=by rw[z10i,z8,if_neg (by simp;omega)]
   rw[zg e,z1bj];rw[y32 (by omega),y32 (by omega)]at ht;rw[ht]
  |cons x r ih=>
   intro i q hr hi hq ht;obtain⟨a1,a2,a3,hmem⟩:=z55 hr;have hx:l.getD i zb=x:=a2 zb;have hd:=z1us i hs;rw[hr]at hd;obtain⟨y,s',h1,h2,h3⟩:=zq4 hd;have hht:=zbi hmem;have e:z7a m (z4b w l (i:Int) q)=z7a m (z4b w l ((i+1:Nat):Int) (q.set i y)):=by
    rw[z10i];simp only[z8,Term.ids_eq,y5,hx];rw[if_pos (by simp;omega),z6 (by omega),z6 (by omega),z6 ⟨y,h1⟩,z6 (by omega),z6 (by omega),z3s a1 hl.len,zay h1]
   rw[e];refine ih (i+1) (q.set i y) a3 (by omega) (by rw[y1p];exact hq) ?_;have hsi:s[i]?=some y:=by
    have:=congrArg (fun z=>z[0]?) h3;simpa using this
   rw[y3c,y3c,List.take_set_of_le (y6 _),ht,hsi,y1a (by omega)]
 rw[z1rk,z6 (by rw[y5];refine⟨by omega,by omega,?_⟩;unfold zi;omega)];have:=key l 0 (List.replicate (l.length:Int).toNat z7) rfl (ya _) (by simp) rfl;exact this
theorem z1o5(m:Nat)(hG:z79 m):FnOK 121 (z65 (m+1)):=by
 intro args ob rs os h hob;unfold z65 at h;split at h
 ·simp only[y7,y8,ym]at h;obtain⟨w,e0,l,e1,rfl,rfl,rfl⟩:=h;obtain rfl:=zr e0;obtain rfl:=z11 e1;exact⟨z2f (M:=(ziz m)) rfl (z4o (l1:=[(67,z8k m)]) (l2:=[]) (l3:=[]) (l4:=[]) (l5:=[]) ⟨hG.2.1,trivial⟩ trivial trivial trivial trivial) Tryz.func121 (by kernel_rfl) zj0 1 [.d] (fun hwf=>(z1hq m w l (z42 hwf (a:=.d (.agg (enc Ty.wld w))) (ye (i:=0) rfl)) (z42 hwf (a:=.d (.v (.dat (U:=Un) Ty.term l))) (ye (i:=1) rfl)) (hob _ (ye (i:=0) rfl)) (hob _ (ye (i:=1) rfl)))),zj Tryz.func121 (by kernel_rfl) (by kernel_rfl)⟩
 ·simp at h
def zsh(m:Nat):Mc Un:=mcF_ [(137,zdh),(67,z8k m),(161,zde)] [] [] [] []
def z12n:Nat→NS:=nsF_ [(3,{ts:=bl 25 57536,bs:=bl 25 128,nm:=[],cs:=true})] true
def z3r(w:Wld)(l:List Term)(x:List Val)(v0:Int):S Un:=(st 25 25 100 0 [(6,ab false),(7,ax 7),(13,al .term l),(14,ai (↑l.length:Int)),(15,ai v0)] [(7,some (false,encC Ty.wld (zf w x)))] [])
def z9g(m:Nat):S Un→Option (EX Un):=lpF_ (zsh m) z12n Tryz.f136 [1,1,0,1,2,2] 3
def zp4(m:Nat):Exit→S Un→Option (RF Un):=cxF_ (zsh m) z12n Tryz.f136 [1,1,0,1,2] [.d]
def z1ek(m:Nat)(w:Wld)(l:List Term)(x:List Val):Option (RF Un):=fnF_ (zsh m) z12n Tryz.f136 0 [.d] [.d (.agg (enc Ty.wld w)),.d (.v (.dat (U:=Un) Ty.term l)),.d (.v (.dat (U:=Un) Ty.val x))]
theorem z25j(m:Nat)(w:Wld)(l:List Term)(x:List Val):z1ek m w l x=obO (w.env.length≤(100000000:Nat)) ((z9g m (z3r w l x (0:Int))).bind (ze (zp4 m))):=by kernel_rfl
theorem zy8(m:Nat)(w:Wld)(l:List Term)(x:List Val)(v0:Int):z9g m (z3r w l x v0)=cndO (decide (v0<(↑l.length:Int))) (obO (0≤v0∧v0<(↑l.length:Int)) (obO ((8:Nat)*(Term.ids (l.getD v0.toNat zb)).ht+(7:Nat)<m) (obO (okT (zf w x) (Term.ids (l.getD v0.toNat zb))) (cndO (z3v (z6q (zf w x) (Term.ids (l.getD v0.toNat zb))) !=2) (some (.ret,(z3r w l x v0))) (z9g m (z3r w l x (IntKind.i64.wrap (v0+1)))))))) (some (.exit 0,(z3r w l x v0))):=lpQ_ (by kernel_rfl)
theorem z1o6(m:Nat)(w:Wld)(l:List Term)(x:List Val)(v0:Int):zp4 m .ret (z3r w l x v0)=some (z8z (false)):=by kernel_rfl
theorem z1rl(m:Nat)(w:Wld)(l:List Term)(x:List Val)(v0:Int):zp4 m (.exit 0) (z3r w l x v0)=some (z8z (true)):=by kernel_rfl
theorem z1wx(m:Nat)(w:Wld)(l:List Term)(x:List Val)(_hw:WS .wld w)(hl:WL .term l)(_hx:WL .val x)(hm:8*htTs l+8<m+1)(h:okSo w l x):z1ek m w l x=some (z8z (zdj w l x)):=by
 obtain⟨hE,b,hb⟩:=h;rw[zy7 hb];have key:∀(r:List Term)(i:Nat)(b:Bool),l.drop i=r→i≤l.length→nSo r (zf w x)=some b→(z9g m (z3r w l x (i:Int))).bind (ze (zp4 m))=some (z8z b):=by
  intro r
  induction r with
  |nil=>
   intro i b hr hi hs;have hil:l.length≤i:=by rw[←y1n];exact hr
   have e:z9g m (z3r w l x (i:Int))=some (.exit 0,z3r w l x (i:Int)):=by rw[zy8,z8,if_neg (by simp;omega)]
   rw[zg e,z1rl];simp only[nSo,y8]at hs;rw[hs]
  |cons t r ih=>
   intro i b hr hi hs;obtain⟨a1,a2,a3,hmem⟩:=z55 hr;have ht:l.getD i zb=t:=a2 zb;have hht:=zbi hmem;simp only[nSo,y7]at hs;obtain⟨v,hv,hs⟩:=hs;by_cases c:z3v v=2
   ·rw[if_pos c]at hs;have e:z9g m (z3r w l x (i:Int))=z9g m (z3r w l x ((i+1:Nat):Int)):=by
     rw[zy8];simp only[z8,Term.ids_eq,y5,ht];rw[if_pos (by simp;omega),z6 (by omega),z6 (by omega),z6 ⟨v,hv⟩,zay hv,if_neg (by rw[c];decide),z3s a1 hl.len]
    rw[e];exact ih (i+1) b a3 (by omega) hs
   ·rw[if_neg c]at hs;obtain rfl:=yk hs;have e:z9g m (z3r w l x (i:Int))=some (.ret,z3r w l x (i:Int)):=by
     rw[zy8];simp only[z8,Term.ids_eq,y5,ht];rw[if_pos (by simp;omega),z6 (by omega),z6 (by omega),z6 ⟨v,hv⟩,zay hv,if_pos (by simpa using c)]
    rw[zg e,z1o6]
 rw[z25j,z6 hE];exact key l 0 b rfl (ya _) hb
theorem z22e(m:Nat)(hG:z79 m):FnOK 136 (zp2 (m+1)):=fnK3 zr z11 z11 (M:=(zsh m)) rfl ⟨zoz,hG.2.1,zhu,trivial⟩ trivial trivial trivial trivial Tryz.func136 fun w l x=>GiF.r fun w1 o=>z1wx m w l x (wfA_ w1 0) (wfA_ w1 1) (wfA_ w1 2) (obA_ o 0) (obA_ o 1)
def z19e(m:Nat)(w:Wld)(r:Rel)(n:Int):Option (RF Un):=fnF_ (z19c m) z23g Tryz.f91 0 [.m] [.d (.agg (enc Ty.wld w)),.d (.agg (enc Ty.rel r)),.d (.v (.s (.int .i64 n)))]
theorem z22f(m:Nat)(w:Wld)(r:Rel)(n:Int):z19e m w r n=cndO (decide (n≥(↑r.kids.length:Int))) (some (zug ([]))) (obO (0≤n∧n<(↑r.kids.length:Int)) (obO ((8:Nat)*(Rel.ids (r.kids.getD n.toNat za)).ht+(7:Nat)<m) (obO (okRl w (Rel.ids (r.kids.getD n.toNat za))) (some (zug (z9c w (Rel.ids (r.kids.getD n.toNat za)))))))):=by kernel_rfl
theorem z1rm(m:Nat)(w:Wld)(r:Rel)(n:Int)(_hw:WS .wld w)(_hr:WS .rel r)(_hn:WI n)(hm:8*r.ht+4<m+1)(h:zeo w r n):z19e m w r n=some (zug (zn w r n)):=by
 obtain⟨h0,l,hl⟩:=h;obtain⟨k,rfl⟩:∃k:Nat,n=k:=⟨n.toNat,(y3t h0).symm⟩;rw[y5]at hl;rw[zur hl];rw[z1am]at hl;rw[z22f];simp only[z8,Rel.ids_eq,decide_eq_true_eq,y5];by_cases c:k<r.kids.length
 ·rw[if_pos c]at hl;have hk:(r.kids.getD k za).ht<r.ht:=Rel.ht_kid (z8f c);rw[if_neg (by omega),z6 (by omega),z6 (by omega),z6 ⟨l,hl⟩,z82 hl]
 ·rw[if_neg c]at hl;obtain rfl:=yk hl;rw[if_pos (by omega)]
theorem z1wy(m:Nat)(hG:z79 m):FnOK 91 (z81 (m+1)):=fnK3 zr zr z1a (M:=(z19c m)) rfl ⟨hG.2.2.2.2.2.1,trivial⟩ trivial trivial trivial trivial Tryz.func91 fun w r n=>GiF.r fun w1 o=>z1rm m w r n (wfA_ w1 0) (wfA_ w1 1) (wfA_ w1 2) (obA_ o 0) (obA_ o 1)
def z1em(m:Nat):Mc Un:=mcF_ [(84,z14g),(85,zm3),(86,zmf m),(87,zjh m),(88,zr7 m),(89,zne m),(91,z81 m),(90,zui),(92,zuq m)] [] [] [(93,zm9),(94,zma)] []
def z19f(m:Nat)(w:Wld)(r:Rel):Option (RF Un):=fnF_ (z1em m) z23g Tryz.f45 0 [.m] [.d (.agg (enc Ty.wld w)),.d (.agg (enc Ty.rel r))]
theorem z22g(m:Nat)(w:Wld)(r:Rel):z19f m w r=cndO (r.op==1) (obO (dbOK w.db) (some (zug (z6d w r.table)))) (cndO (r.op==2) (obO (r.rows.length≤(1000000000:Nat)) (some (zug (r.rows)))) (cndO (r.op==3) (obO ((8:Nat)*(Rel.ids r).ht+(6:Nat)<m) (obO (z1hh w (Rel.ids r)) (some (zug (za6 w (Rel.ids r)))))) (cndO (r.op==4) (obO ((8:Nat)*(Rel.ids r).ht+(6:Nat)<m) (obO (z194 w (Rel.ids r)) (some (zug (z8j w (Rel.ids r)))))) (cndO (r.op==5) (obO ((8:Nat)*(Rel.ids r).ht+(6:Nat)<m) (obO (z1nm w (Rel.ids r)) (some (zug (zbc w (Rel.ids r)))))) (cndO (r.op==6) (obO ((8:Nat)*(Rel.ids r).ht+(6:Nat)<m) (obO (z1nm w (Rel.ids r)) (some (zug (zbc w (Rel.ids r)))))) (cndO (r.op==7) (obO ((8:Nat)*(Rel.ids r).ht+(6:Nat)<m) (obO (z1rf w (Rel.ids r)) (some (zug (zbv w (Rel.ids r)))))) (cndO (r.op==8) (obO ((8:Nat)*(Rel.ids r).ht+(4:Nat)<m) (obO (zeo w (Rel.ids r) (0:Int)) (obO ((zn w (Rel.ids r) (0:Int)).length≤(100000000:Nat)) (some (zug (z1d (zn w (Rel.ids r) (0:Int)))))))) (cndO (r.op==9) (obO ((8:Nat)*(Rel.ids r).ht+(6:Nat)<m) (obO (z1nn w (Rel.ids r)) (some (zug (zbd w (Rel.ids r)))))) (cndO (r.op==10) (obO ((8:Nat)*(Rel.ids r).ht+(6:Nat)<m) (obO (z1nn w (Rel.ids r)) (some (zug (zbd w (Rel.ids r)))))) (cndO (r.op==11) (obO ((8:Nat)*(Rel.ids r).ht+(6:Nat)<m) (obO (z1nn w (Rel.ids r)) (some (zug (zbd w (Rel.ids r)))))) (cndO (r.op==12) (obO ((8:Nat)*(Rel.ids r).ht+(4:Nat)<m) (obO (zeo w (Rel.ids r) (0:Int)) (obO ((zn w (Rel.ids r) (0:Int)).length≤(100000000:Nat)) (some (zug (z4z (zn w (Rel.ids r) (0:Int)) r.keys)))))) (cndO (r.op==13) (obO ((8:Nat)*(Rel.ids r).ht+(4:Nat)<m) (obO (zeo w (Rel.ids r) (0:Int)) (obO ((zn w (Rel.ids r) (0:Int)).length≤(100000000:Nat)) (some (zug (z3h (zn w (Rel.ids r) (0:Int)) r.limit r.skip)))))) (some (zug ([]))))))))))))))):=by kernel_rfl
theorem z1rn(m:Nat)(w:Wld)(r:Rel)(_hw:WS .wld w)(_hr:WS .rel r)(hm:8*r.ht+7<m+1)(h:okRl w r):z19f m w r=some (zug (z9c w r)):=by
 obtain⟨v,hv⟩:=h;rw[z82 hv];rw[z12i,y7]at hv;obtain⟨s,hs,hc⟩:=hv;obtain⟨rfl,hlen⟩:=zwn hc;clear hc;rw[z22g];simp only[z8,Rel.ids_eq,beq_iff_eq];by_cases c1:r.op=1
 ·rw[if_pos c1]at hs ⊢;obtain⟨h1,h2⟩:=chkQ_some.1 hs;rw[z6 h1,yk h2]
 rw[if_neg c1]at hs ⊢;by_cases c2:r.op=2
 ·rw[if_pos c2]at hs ⊢;obtain rfl:=yk hs;rw[z6 (by omega)]
 rw[if_neg c2]at hs ⊢;by_cases c3:r.op=3
 ·rw[if_pos c3]at hs ⊢;have e:za6 w r=s:=by unfold za6 z1an;rw[hs];rfl
  rw[z6 (by omega),z6 ⟨s,hs⟩,e]
 rw[if_neg c3]at hs ⊢;by_cases c4:r.op=4
 ·rw[if_pos c4]at hs ⊢;have e:z8j w r=s:=by unfold z8j z12j;rw[hs];rfl
  rw[z6 (by omega),z6 ⟨s,hs⟩,e]
 rw[if_neg c4]at hs ⊢;by_cases c5:r.op=5∨r.op=6
 ·rw[if_pos c5]at hs;have e:zbc w r=s:=by unfold zbc z1xe;rw[hs];rfl
  rcases c5 with c|c
  ·rw[if_pos c,z6 (by omega),z6 ⟨s,hs⟩,e]
  ·rw[if_neg (by omega),if_pos c,z6 (by omega),z6 ⟨s,hs⟩,e]
 rw[if_neg c5]at hs;rw[if_neg (fun e=>c5 (.inl e)),if_neg (fun e=>c5 (.inr e))];by_cases c7:r.op=7
 ·rw[if_pos c7]at hs ⊢;have e:zbv w r=s:=by unfold zbv z1nl;rw[hs];rfl
  rw[z6 (by omega),z6 ⟨s,hs⟩,e]
 rw[if_neg c7]at hs ⊢;by_cases c8:r.op=8
 ·rw[if_pos c8]at hs ⊢;obtain⟨l,hl,h4⟩:=y7.1 hs;have hk:=zbw hl;rw[z6 (by omega),z6 (zq8 hl),z5r hl,z6 hk,yk h4]
 rw[if_neg c8]at hs ⊢;by_cases c9:r.op=9∨r.op=10∨r.op=11
 ·rw[if_pos c9]at hs;have e:zbd w r=s:=by unfold zbd nSet;rw[hs];rfl
  rcases c9 with c|c|c
  ·rw[if_pos c,z6 (by omega),z6 ⟨s,hs⟩,e]
  ·rw[if_neg (by omega),if_pos c,z6 (by omega),z6 ⟨s,hs⟩,e]
  ·rw[if_neg (by omega),if_neg (by omega),if_pos c,z6 (by omega),z6 ⟨s,hs⟩,e]
 rw[if_neg c9]at hs;rw[if_neg (fun e=>c9 (.inl e)),if_neg (fun e=>c9 (.inr (.inl e))),if_neg (fun e=>c9 (.inr (.inr e)))];by_cases c12:r.op=12
 ·rw[if_pos c12]at hs ⊢;obtain⟨l,hl,h4⟩:=y7.1 hs;have hk:=zbw hl;rw[z6 (by omega),z6 (zq8 hl),z5r hl,z6 hk,yk h4]
 rw[if_neg c12]at hs ⊢;by_cases c13:r.op=13
 ·rw[if_pos c13]at hs ⊢;obtain⟨l,hl,h4⟩:=y7.1 hs;have hk:=zbw hl;rw[z6 (by omega),z6 (zq8 hl),z5r hl,z6 hk,yk h4]
 rw[if_neg c13]at hs ⊢;rw[yk hs]
theorem z1wz(m:Nat)(hG:z79 m):FnOK 45 (zme (m+1)):=fnK2 zr zr (M:=(z1em m)) rfl ⟨z1r8,zqv,hG.2.2.2.2.2.2.1,hG.2.2.2.2.2.2.2.1,hG.2.2.2.2.2.2.2.2.1,hG.2.2.2.2.2.2.2.2.2.2.1,hG.2.2.2.2.1,z14e,hG.2.2.2.2.2.2.2.2.2.2.2,trivial⟩ trivial trivial ⟨z1bf,z1bi,trivial⟩ trivial Tryz.func45 fun w r=>GiF.r fun w1 o=>z1rn m w r (wfA_ w1 0) (wfA_ w1 1) (obA_ o 0) (obA_ o 1)
def zgy(m:Nat):Mc Un:=mcF_ [(91,z81 m),(136,zp2 m)] [] [] [] []
def zng:Nat→NS:=nsF_ [(3,{ts:=bl 27 7212,bs:=bl 27 12,nm:=[(.sl 10,108),(.sl 5,109)],cs:=true})] true
def z6r(w:Wld)(r:Rel)(v0:Int)(v1:List (List Val)):S Un:=(st 27 27 110 0 [(2,ax 2),(3,ax 3),(5,ao 109),(10,ao 108),(11,ai (↑(zn w (Rel.ids r) (0:Int)).length:Int)),(12,ai v0)] [(2,bg .wld w),(3,bg .rel r)] [(108,some ⟨(0:Nat),Ty.row,zn w (Rel.ids r) (0:Int),some (0:Nat),true⟩),(109,some ⟨(0:Nat),Ty.row,v1,some (0:Nat),true⟩)])
def zbe(m:Nat):S Un→Option (EX Un):=lpF_ (zgy m) zng Tryz.f86 [1,1,0,1,2,2] 3
def zwo(m:Nat):Exit→S Un→Option (RF Un):=cxF_ (zgy m) zng Tryz.f86 [1,1,0,1,2] [.m]
def zwp(m:Nat)(w:Wld)(r:Rel):Option (RF Un):=fnF_ (zgy m) zng Tryz.f86 2 [.m] [.d (.agg (enc Ty.wld w)),.d (.agg (enc Ty.rel r))]
theorem z1o7(m:Nat)(w:Wld)(r:Rel):zwp m w r=obO ((8:Nat)*(Rel.ids r).ht+(4:Nat)<m) (obO (zeo w (Rel.ids r) (0:Int)) ((zbe m (z6r w r (0:Int) ([]))).bind (ze (zwo m)))):=by kernel_rfl
theorem zwq(m:Nat)(w:Wld)(r:Rel)(v0:Int)(v1:List (List Val)):zbe m (z6r w r v0 v1)=cndO (decide (v0<(↑(zn w (Rel.ids r) (0:Int)).length:Int))) (obO (0≤v0∧v0<(↑(zn w (Rel.ids r) (0:Int)).length:Int)) (obO ((8:Nat)*htTs r.terms+(8:Nat)<m) (obO (okSo w r.terms ((zn w (Rel.ids r) (0:Int)).getD v0.toNat [])) (cndO (zdj w r.terms ((zn w (Rel.ids r) (0:Int)).getD v0.toNat [])) (obO ((v1.length+[(zn w (Rel.ids r) (0:Int)).getD v0.toNat []].length)*(24:Nat)≤zi) (zbe m (z6r w r (IntKind.i64.wrap (v0+1)) (v1++[(zn w (Rel.ids r) (0:Int)).getD v0.toNat []])))) (zbe m (z6r w r (IntKind.i64.wrap (v0+1)) v1)))))) (some (.exit 0,(z6r w r v0 v1))):=lpQ_ (by kernel_rfl)
theorem z19g(m:Nat)(w:Wld)(r:Rel)(v0:Int)(v1:List (List Val)):zwo m (.exit 0) (z6r w r v0 v1)=some (zug (v1)):=by kernel_rfl
theorem z1bk(m:Nat)(w:Wld)(r:Rel)(_hw:WS .wld w)(_hr:WS .rel r)(hm:8*r.ht+6<m+1)(h:z1hh w r):zwp m w r=some (zug (za6 w r)):=by
 obtain⟨v,hv⟩:=h;have e:za6 w r=v:=by unfold za6;rw[hv];rfl
 rw[e];unfold z1an filO at hv;split at hv
 ·rename_i hE;obtain⟨l,hl,hf⟩:=y7.1 hv;have hll:=zbw hl;have ht:=Rel.ht_terms r;have hmem:=z1un hf
  obtain⟨lp,_⟩:=z1p (e:=.exit 0) (L:=zbe m) (st:=fun(o:Rows) i=>z6r w r i o) (l:=l) (d:=[]) (g:=fun o x=>if zdj w r.terms x=true then o++[x]else o) (fun i o=>o.length≤i) (by omega)
   (fun o i x hi hx hI=>by
    have hI':o.length≤i:=hI;have hxm:x∈l:=by rw[←hx];exact z8f (by omega)
    obtain⟨b,hb⟩:=hmem x hxm;rw[zwq];simp only[z8,Rel.ids_eq,z5r hl,hi,decide_true,if_true,and_true,y5,hx];rw[z6 (by omega),z6 (by omega),z6 ⟨hE,b,hb⟩];by_cases hp:zdj w r.terms x=true
    ·rw[if_pos hp,if_pos hp,z6 (by unfold zi;rw[yg];omega)];exact⟨by show(o++[x]).length≤i+1;rw[yb,yg];omega,rfl⟩
    ·rw[if_neg hp,if_neg hp]
     exact⟨by show o.length≤i+1;omega,rfl⟩)
   (fun o _=>by rw[zwq];simp only[z8,Rel.ids_eq,z5r hl];rw[if_neg (by simp)]) [] (y6 _)
  have hfo:=z1no (zdj w r.terms) [] hf (fun x hx b hb=>zy7 hb);rw[yz]at hfo;rw[z1o7,Rel.ids_eq,z6 (by omega),z6 (zq8 hl)];refine(zg lp).trans ?_;rw[z19g,hfo]
 ·simp at hv
theorem z1hr(m:Nat)(hG:z79 m):FnOK 86 (zmf (m+1)):=fnK2 zr zr (M:=(zgy m)) rfl ⟨hG.2.2.2.2.1,hG.2.2.2.1,trivial⟩ trivial trivial trivial trivial Tryz.func86 fun w r=>GiF.r fun w1 o=>z1bk m w r (wfA_ w1 0) (wfA_ w1 1) (obA_ o 0) (obA_ o 1)
def zep(m:Nat):Mc Un:=mcF_ [(91,z81 m),(137,zdh),(121,z65 m)] [] [] [] []
def zdl(m:Nat):S Un→Option (EX Un):=lpF_ (zep m) zng Tryz.f87 [1,1,0,1,2,2] 3
def zus(m:Nat):Exit→S Un→Option (RF Un):=cxF_ (zep m) zng Tryz.f87 [1,1,0,1,2] [.m]
def zut(m:Nat)(w:Wld)(r:Rel):Option (RF Un):=fnF_ (zep m) zng Tryz.f87 2 [.m] [.d (.agg (enc Ty.wld w)),.d (.agg (enc Ty.rel r))]
theorem z1hs(m:Nat)(w:Wld)(r:Rel):zut m w r=obO ((8:Nat)*(Rel.ids r).ht+(4:Nat)<m) (obO (zeo w (Rel.ids r) (0:Int)) ((zdl m (z6r w r (0:Int) ([]))).bind (ze (zus m)))):=by kernel_rfl
theorem zuu(m:Nat)(w:Wld)(r:Rel)(v0:Int)(v1:List (List Val)):zdl m (z6r w r v0 v1)=cndO (decide (v0<(↑(zn w (Rel.ids r) (0:Int)).length:Int))) (obO (0≤v0∧v0<(↑(zn w (Rel.ids r) (0:Int)).length:Int)) (obO (w.env.length≤(100000000:Nat)) (obO ((8:Nat)*htTs r.terms+(8:Nat)<m) (obO (okTs (zf w ((zn w (Rel.ids r) (0:Int)).getD v0.toNat [])) r.terms) (obO ((v1.length+[z50 (zf w ((zn w (Rel.ids r) (0:Int)).getD v0.toNat [])) r.terms].length)*(24:Nat)≤zi) (zdl m (z6r w r (IntKind.i64.wrap (v0+1)) (v1++[z50 (zf w ((zn w (Rel.ids r) (0:Int)).getD v0.toNat [])) r.terms])))))))) (some (.exit 0,(z6r w r v0 v1))):=lpQ_ (by kernel_rfl)
theorem z14x(m:Nat)(w:Wld)(r:Rel)(v0:Int)(v1:List (List Val)):zus m (.exit 0) (z6r w r v0 v1)=some (zug (v1)):=by kernel_rfl
theorem z19h(m:Nat)(w:Wld)(r:Rel)(_hw:WS .wld w)(_hr:WS .rel r)(hm:8*r.ht+6<m+1)(h:z194 w r):zut m w r=some (zug (z8j w r)):=by
 obtain⟨v,hv⟩:=h;have e:z8j w r=v:=by unfold z8j;rw[hv];rfl
 rw[e];unfold z12j zwm at hv;split at hv
 ·rename_i hE;obtain⟨l,hl,hf⟩:=y7.1 hv;have hll:=zbw hl;have ht:=Rel.ht_terms r;have hmem:=zul hf
  obtain⟨lp,_⟩:=z1p (e:=.exit 0) (L:=zdl m) (st:=fun(o:Rows) i=>z6r w r i o) (l:=l) (d:=[]) (g:=fun o x=>o++[z50 (zf w x) r.terms]) (fun i o=>o.length=i) (by omega)
   (fun o i x hi hx hI=>by
    have hI':o.length=i:=hI;have hxm:x∈l:=by rw[←hx];exact z8f (by omega)
    obtain⟨b,hb⟩:=hmem x hxm;refine⟨by show(o++[_]).length=i+1;rw[yb,yg];omega,?_⟩;rw[zuu];simp only[z8,Rel.ids_eq,z5r hl,hi,decide_true,if_true,and_true,y5,hx]
    rw[z6 (by omega),z6 hE.1,z6 (by omega),z6 ⟨hE.2,b,hb⟩,z6 (by unfold zi;rw[yg];omega)])
   (fun o _=>by rw[zuu];simp only[z8,Rel.ids_eq,z5r hl];rw[if_neg (by simp)]) [] rfl
  rw[zfo,yz,zum (fun x=>z50 (zf w x) r.terms) hf (fun x hx y hy=>zgx hy)]at lp;rw[z1hs,Rel.ids_eq,z6 (by omega),z6 (zq8 hl)];refine(zg lp).trans ?_;rw[z14x]
 ·simp at hv
theorem z1bl(m:Nat)(hG:z79 m):FnOK 87 (zjh (m+1)):=fnK2 zr zr (M:=(zep m)) rfl ⟨hG.2.2.2.2.1,zoz,hG.2.2.1,trivial⟩ trivial trivial trivial trivial Tryz.func87 fun w r=>GiF.r fun w1 o=>z19h m w r (wfA_ w1 0) (wfA_ w1 1) (obA_ o 0) (obA_ o 1)
def zcw(m:Nat):Mc Un:=mcF_ [(91,z81 m),(138,z199),(136,zp2 m)] [] [] [] []
def z83:Nat→NS:=nsF_ [(7,{ts:=bl 72 7516193004,bs:=bl 72 12,nm:=[(.sl 5,288),(.sl 6,289),(.sl 30,290),(.sl 7,291)],cs:=true}),(11,{ts:=bl 72 488552531692,bs:=bl 72 12,nm:=[(.sl 5,292),(.sl 6,293),(.sl 30,294),(.sl 7,295)],cs:=true})] true
def z33(w:Wld)(r:Rel):=zn w (Rel.mk r.op r.table r.cols r.kids r.terms r.aggs r.keys r.limit r.skip r.all r.rows) (0:Int)
def z70(w:Wld)(r:Rel):=zn w (Rel.mk r.op r.table r.cols r.kids r.terms r.aggs r.keys r.limit r.skip r.all r.rows) (1:Int)
def zj1(w:Wld)(r:Rel)(v0:Int)(v4:Int):=z8v [(z33 w r).getD v0.toNat [],(z70 w r).getD v4.toNat []]
def z40(w:Wld)(r:Rel)(v0:Int)(v1:Option Nat)(v2:List (List Val)):S Un:=(st 72 72 296 0 [(2,ax 2),(3,ax 3),(5,ao 288),(6,ao 289),(7,ao 291),(30,ao 290),(31,ai (↑(z33 w r).length:Int)),(32,ai v0)] [(2,bg .wld w),(3,bg .rel r)] [(288,some ⟨(0:Nat),Ty.row,zn w (Rel.ids r) (1:Int),some (0:Nat),true⟩),(289,some ⟨(0:Nat),Ty.val,List.replicate (↑(Rel.cols (r.kids.getD 1 za)).length:Int).toNat z7,v1,true⟩),(290,some ⟨(0:Nat),Ty.row,zn w (Rel.ids r) (0:Int),some (0:Nat),true⟩),(291,some ⟨(0:Nat),Ty.row,v2,some (0:Nat),true⟩)])
def z53(w:Wld)(r:Rel)(v0:Int)(v1:Option Nat)(v2:List (List Val))(v3:Bool)(v4:Int):S Un:=(st 72 72 296 0 [(2,ax 2),(3,ax 3),(5,ao 292),(6,ao 293),(7,ao 295),(9,al .val ((z33 w r).getD v0.toNat [])),(10,ab v3),(30,ao 294),(31,ai (↑(z33 w r).length:Int)),(32,ai v0),(36,ao 292),(37,ai (↑(z70 w r).length:Int)),(38,ai v4)] [(2,bg .wld w),(3,bg .rel r)] [(292,some ⟨(0:Nat),Ty.row,zn w (Rel.ids r) (1:Int),some (0:Nat),true⟩),(293,some ⟨(0:Nat),Ty.val,List.replicate (↑(Rel.cols (r.kids.getD 1 za)).length:Int).toNat z7,v1,true⟩),(294,some ⟨(0:Nat),Ty.row,zn w (Rel.ids r) (0:Int),some (0:Nat),true⟩),(295,some ⟨(0:Nat),Ty.row,v2,some (0:Nat),true⟩)])
def z5s(m:Nat):S Un→Option (EX Un):=lpF_ (zcw m) z83 Tryz.f88 [1,1,1,1,1,0,1,2,2] 7
noncomputable def z10j:Code:=sub (sub (zk Tryz.f88) [1,1,1,1,1,0,1,2,2]) [1,1,0,2,1,1,0,1,2,2]
def zcx(m:Nat):S Un→Option (EX Un):=z1k (z83 11) (fun s Q=>awf (zcw m) z83 z10j s Q)
def zr9(m:Nat):Exit→S Un→Option (RF Un):=cxF_ (zcw m) z83 Tryz.f88 [1,1,1,1,1,0,1,2] [.m]
def znh(m:Nat):Exit→S Un→Option (EX Un):=ctxF (zcw m) z83 (sub (zk Tryz.f88) [1,1,1,1,1,0,1,2,2]) [1,1,0,2,1,1,0,1,2] (zc3 (z83 7) (z5s m))
def z14s(m:Nat)(w:Wld)(r:Rel):Option (RF Un):=fnF_ (zcw m) z83 Tryz.f88 8 [.m] [.d (.agg (enc Ty.wld w)),.d (.agg (enc Ty.rel r))]
theorem z1x0(m:Nat)(w:Wld)(r:Rel):z14s m w r=cndO (decide ((↑r.kids.length:Int)<(2:Int))) (some (zug ([]))) (obO ((8:Nat)*(Rel.ids r).ht+(4:Nat)<m) (obO (zeo w (Rel.ids r) (1:Int)) (obO ((0:Int)≤(1:Int)∧(1:Int)<(↑r.kids.length:Int)) (obO ((0:Int)≤(↑(Rel.cols (r.kids.getD 1 za)).length:Int)∧(↑(Rel.cols (r.kids.getD 1 za)).length:Int)≤(↑(Rel.cols (r.kids.getD 1 za)).length:Int)∧(↑(Rel.cols (r.kids.getD 1 za)).length:Int).toNat*(32:Nat)≤zi) (obO ((8:Nat)*(Rel.ids r).ht+(4:Nat)<m) (obO (zeo w (Rel.ids r) (0:Int)) ((z5s m (z40 w r (0:Int) (some (0:Nat)) ([]))).bind (ze (zr9 m))))))))):=by kernel_rfl
theorem z14t(m:Nat)(w:Wld)(r:Rel)(v0:Int)(v1:Option Nat)(v2:List (List Val)):z5s m (z40 w r v0 v1 v2)=cndO (decide (v0<(↑(z33 w r).length:Int))) (obO (0≤v0∧v0<(↑(z33 w r).length:Int)) ((zcx m (z53 w r v0 v1 v2 false (0:Int))).bind (ze (znh m)))) (some (.exit 0,(z40 w r v0 v1 v2))):=lpQ_ (by kernel_rfl)
theorem z1ht(m:Nat)(w:Wld)(r:Rel)(v0:Int)(v1:Option Nat)(v2:List (List Val)):zr9 m (.exit 0) (z40 w r v0 v1 v2)=some (zug (v2)):=by kernel_rfl
theorem z10k(m:Nat)(w:Wld)(r:Rel)(v0:Int)(v1:Option Nat)(v2:List (List Val))(v3:Bool)(v4:Int):zcx m (z53 w r v0 v1 v2 v3 v4)=cndO (decide (v4<(↑(z70 w r).length:Int))) (obO (0≤v4∧v4<(↑(z70 w r).length:Int)) (obO ([(z33 w r).getD v0.toNat [],(z70 w r).getD v4.toNat []].flatten.length≤(1000000000:Nat)) (obO ((8:Nat)*htTs r.terms+(8:Nat)<m) (obO (okSo w r.terms (zj1 w r v0 v4)) (cndO (zdj w r.terms (zj1 w r v0 v4)) (obO ((v2.length+[z8v [(z33 w r).getD v0.toNat [],(z70 w r).getD v4.toNat []]].length)*(24:Nat)≤zi) (zcx m (z53 w r v0 v1 (v2++[z8v [(z33 w r).getD v0.toNat [],(z70 w r).getD v4.toNat []]]) true (IntKind.i64.wrap (v4+1))))) (zcx m (z53 w r v0 v1 v2 v3 (IntKind.i64.wrap (v4+1))))))))) (some (.exit 2,(z53 w r v0 v1 v2 v3 v4))):=(zbh (z83 11) z10j _).trans (by kernel_rfl)
theorem z1bm(m:Nat)(w:Wld)(r:Rel)(v0:Int)(v1:Option Nat)(v2:List (List Val))(v3:Bool)(v4:Int):znh m (.exit 2) (z53 w r v0 v1 v2 v3 v4)=cndO (!v3) (cndO (r.op==6) (obO ([(z33 w r).getD v0.toNat [],List.replicate (↑(Rel.cols (r.kids.getD 1 za)).length:Int).toNat z7].flatten.length≤(1000000000:Nat)) (obO ((v2.length+[z8v [(z33 w r).getD v0.toNat [],List.replicate (↑(Rel.cols (r.kids.getD 1 za)).length:Int).toNat z7]].length)*(24:Nat)≤zi) (z5s m (z40 w r (IntKind.i64.wrap (v0+1)) none (v2++[z8v [(z33 w r).getD v0.toNat [],List.replicate (↑(Rel.cols (r.kids.getD 1 za)).length:Int).toNat z7]]))))) (z5s m (z40 w r (IntKind.i64.wrap (v0+1)) v1 v2))) (z5s m (z40 w r (IntKind.i64.wrap (v0+1)) v1 v2)):=by kernel_rfl
theorem z1o8(m:Nat)(w:Wld)(r:Rel)(_hw:WS .wld w)(_hr:WS .rel r)(hm:8*r.ht+6<m+1)(h:z1nm w r):z14s m w r=some (zug (zbc w r)):=by
 obtain⟨v,hv⟩:=h;have e:zbc w r=v:=by unfold zbc;rw[hv];rfl
 rw[e];have ht:=Rel.ht_terms r;unfold z1xe z1ak at hv;rw[z1x0];simp only[z8,Rel.ids_eq,decide_eq_true_eq];by_cases c:r.kids.length<2
 ·rw[if_pos c]at hv;obtain rfl:=yk hv;rw[if_pos (by omega)]
 rw[if_neg c]at hv;rw[if_neg (by omega)];split at hv
 ·rename_i hc;obtain⟨hE,hC⟩:=hc;obtain⟨right,hR,hv⟩:=y7.1 hv;obtain⟨l,hL,hv⟩:=y7.1 hv;obtain⟨s,hS,hv⟩:=y7.1 hv;obtain⟨rfl,hlen⟩:=zwn hv;have hrl:=zbw hR;have hll:=zbw hL;have e1:z33 w r=l:=z5r hL;have e2:z70 w r=right:=zsg hR;have ecc:∀a b:List Val,z8v [a,b]=a++b:=fun a b=>by unfold z8v;simp
  have efl:∀a b:List Val,[a,b].flatten.length=a.length+b.length:=fun a b=>by simp
  have inner:∀(i:Nat)(fr:Option Nat)(a:List Val),l.getD i []=a→∀(q:Rows)(j:Nat)(out:Rows)(met:Bool)(u:Rows),right.drop j=q→j≤right.length→
    zdi (fun x=>if x.length≤100000000 then nSo r.terms (zf w x)else none) (q.map (a++·))=some u→out.length+u.length≤100000000→
    zcx m (z53 w r (i:Int) fr out met (j:Int))=some (.exit 2,z53 w r (i:Int) fr (out++u) (met||decide (0<u.length)) (right.length:Int)):=by
   intro i fr a ha q
   induction q with
   |nil=>
    intro j out met u hr hj hu ho;have hjl:right.length≤j:=by rw[←y1n];exact hr
    obtain rfl:j=right.length:=by omega
    simp only[y1m,zdi,y8]at hu;subst hu;rw[z10k,e2,z8,if_neg (by simp)];simp
   |cons b q ih=>
    intro j out met u hr hj hu ho;obtain⟨a1,a2,a3,hmem⟩:=z55 hr;have hb:right.getD j []=b:=a2 [];rw[yr]at hu;obtain⟨y,u',h1,h2,h3⟩:=z12k hu;split at h1
    ·rename_i hab;rw[yb]at hab;have e3:zj1 w r (i:Int) (j:Int)=a++b:=by unfold zj1;rw[e1,e2,y5,y5,ha,hb,ecc]
     rw[z10k,e1,e2,e3];simp only[z8,y5,ha,hb,ecc,efl];rw[if_pos (by simp;omega),z6 (by omega),z6 (by omega),z6 (by omega),z6 ⟨hE,y,h1⟩,zy7 h1,z3s a1 (by omega)];cases y with
     |true=>
      rw[if_pos rfl]at h3 ⊢;subst h3;rw[yt]at ho;rw[z6 (by unfold zi;rw[yg];omega),ih (j+1) (out++[a++b]) true u' a3 (by omega) h2 (by rw[yb,yg];omega)];simp
     |false=>
      rw[if_neg (by simp)]at h3 ⊢;subst h3;exact ih (j+1) out met _ a3 (by omega) h2 ho
    ·simp at h1
  have outer:∀(q:Rows)(i:Nat)(fr:Option Nat)(out:Rows)(s:Rows),l.drop i=q→i≤l.length→
    zwl (decide (r.op=6)) (List.replicate (r.kids.getD 1 za).cols.length z7) (fun x=>if x.length≤100000000 then nSo r.terms (zf w x)else none) right q=some s→out.length+s.length≤100000000→
    (z5s m (z40 w r (i:Int) fr out)).bind (ze (zr9 m))=some (zug (out++s)):=by
   intro q
   induction q with
   |nil=>
    intro i fr out s hr hi hs ho;have hil:l.length≤i:=by rw[←y1n];exact hr
    simp only[zwl,y8]at hs;subst hs;have e:z5s m (z40 w r (i:Int) fr out)=some (.exit 0,z40 w r (i:Int) fr out):=by rw[z14t,e1,z8,if_neg (by simp;omega)]
    rw[zg e,z1ht,y14]
   |cons a q ih=>
    intro i fr out s hr hi hs ho;obtain⟨a1,a2,a3,hmem⟩:=z55 hr;have ha:l.getD i []=a:=a2 [];simp only[zwl,y7]at hs;obtain⟨u,hu,z,hz,s',hs',h3⟩:=hs;obtain rfl:=yk h3;rw[yb]at ho;have hzu:u.length≤z.length:=by
     split at hz
     ·rename_i hc;omega
     ·rw[yk hz];exact y6 _
    have e:z5s m (z40 w r (i:Int) fr out)=znh m (.exit 2) (z53 w r (i:Int) fr (out++u) (false||decide (0<u.length)) (right.length:Int)):=by
     rw[z14t,e1,z8,if_pos (by simp;omega),z6 (by omega)];exact zg (inner i fr a ha right 0 out false u rfl (ya _) hu (by omega))
    rw[e,z1bm,e1];simp only[z8,y5,ha,ecc,efl,y3n,z3s a1 (show l.length≤9223372036854775807 by omega),beq_iff_eq];by_cases d:u.length=0
    ·rw[if_pos (by simp[d])];obtain rfl:=y10 d;by_cases d6:r.op=6
     ·rw[if_pos d6];rw[if_pos ⟨d,by simp[d6]⟩]at hz;split at hz
      ·rename_i hab;obtain rfl:=yk hz;rw[yb,y37]at hab;rw[yg]at ho;rw[z6 (by rw[y37];omega),z6 (by unfold zi;rw[yg,y14];omega),y14];rw[ih (i+1) none _ s' a3 (by omega) hs' (by rw[yb,yg];omega)];simp
      ·simp at hz
     ·rw[if_neg d6];rw[if_neg (fun e=>d6 (by simpa using e.2))]at hz;obtain rfl:=yk hz;rw[y14,ih (i+1) fr out s' a3 (by omega) hs' (by simpa using ho)];simp
    ·rw[if_neg (by rw[decide_eq_true (Nat.pos_of_ne_zero d)];decide)];rw[if_neg (fun e=>d e.1)]at hz;obtain rfl:=yk hz;rw[ih (i+1) fr (out++u) s' a3 (by omega) hs' (by rw[yb];omega),y12]
  rw[z6 (by omega),z6 (z2e6 hR),z6 (by omega),z6 (by rw[y5];refine⟨by omega,by omega,?_⟩;unfold zi;omega),z6 (by omega),z6 (zq8 hL)];have:=outer l 0 (some 0) [] s rfl (ya _) hS (by simpa using hlen);exact this
 ·simp at hv
theorem z1ro(m:Nat)(hG:z79 m):FnOK 88 (zr7 (m+1)):=fnK2 zr zr (M:=(zcw m)) rfl ⟨hG.2.2.2.2.1,z1wr,hG.2.2.2.1,trivial⟩ trivial trivial trivial trivial Tryz.func88 fun w r=>GiF.r fun w1 o=>z1o8 m w r (wfA_ w1 0) (wfA_ w1 1) (obA_ o 0) (obA_ o 1)
def z71(m:Nat):Mc Un:=mcF_ [(91,z81 m),(139,za7 m),(140,z1e8),(137,zdh),(67,z8k m),(141,z1ue)] [] [] [] []
def z34:Nat→NS:=nsF_ [(3,{ts:=bl 76 7340076,bs:=bl 76 12,nm:=[(.sl 5,304)],cs:=true}),(7,{ts:=bl 76 7523533228,bs:=bl 76 140,nm:=[(.sl 8,305),(.sl 5,306)],cs:=true}),(11,{ts:=bl 76 969596210604,bs:=bl 76 1164,nm:=[(.sl 11,307),(.sl 8,308),(.sl 5,309)],cs:=true})] true
def z1e(w:Wld)(r:Rel):=zn w (Rel.mk r.op r.table r.cols r.kids r.terms r.aggs r.keys r.limit r.skip r.all r.rows) (0:Int)
def zni(r:Rel)(v2:Int)(v5:List Val):=zct (Agg.mk (Agg.name (r.aggs.getD v2.toNat zo)) (Agg.distinct (r.aggs.getD v2.toNat zo)) (Agg.t (r.aggs.getD v2.toNat zo))) v5
def z9u(w:Wld)(r:Rel)(v0:Int)(v1:List (List Val)):S Un:=(st 76 76 310 0 [(2,ax 2),(3,ax 3),(5,ao 304),(20,al .bunch (z19 w (z1e w r) r.terms)),(21,ai (↑(z19 w (z1e w r) r.terms).length:Int)),(22,ai v0)] [(2,bg .wld w),(3,bg .rel r)] [(304,some ⟨(0:Nat),Ty.row,v1,some (0:Nat),true⟩)])
def z66(w:Wld)(r:Rel)(v0:Int)(v1:List (List Val))(v2:Int)(v3:List Val):S Un:=(st 76 76 310 0 [(2,ax 2),(3,ax 3),(5,ao 306),(7,ax 7),(8,ao 305),(20,al .bunch (z19 w (z1e w r) r.terms)),(21,ai (↑(z19 w (z1e w r) r.terms).length:Int)),(22,ai v0),(30,al .agg r.aggs),(31,ai (↑r.aggs.length:Int)),(32,ai v2)] [(2,bg .wld w),(3,bg .rel r),(7,some (false,encC Ty.bunch ((z19 w (z1e w r) r.terms).getD v0.toNat zh)))] [(305,some ⟨(0:Nat),Ty.val,v3,some (0:Nat),true⟩),(306,some ⟨(0:Nat),Ty.row,v1,some (0:Nat),true⟩)])
def z4k(w:Wld)(r:Rel)(v0:Int)(v2:Int)(v3:List Val)(v1:List (List Val))(v4:Int)(v5:List Val):S Un:=(st 76 76 310 0 [(2,ax 2),(3,ax 3),(5,ao 309),(7,ax 7),(8,ao 308),(10,ax 10),(11,ao 307),(20,al .bunch (z19 w (z1e w r) r.terms)),(21,ai (↑(z19 w (z1e w r) r.terms).length:Int)),(22,ai v0),(30,al .agg r.aggs),(31,ai (↑r.aggs.length:Int)),(32,ai v2),(37,AV.one (A.c (C.sl Ty.row ((z19 w (z1e w r) r.terms).getD v0.toNat zh).rows false))),(38,ai (↑((z19 w (z1e w r) r.terms).getD v0.toNat zh).rows.length:Int)),(39,ai v4)] [(2,bg .wld w),(3,bg .rel r),(7,some (false,encC Ty.bunch ((z19 w (z1e w r) r.terms).getD v0.toNat zh))),(10,some (false,encC Ty.agg (r.aggs.getD v2.toNat zo)))] [(307,some ⟨(0:Nat),Ty.val,v5,some (0:Nat),true⟩),(308,some ⟨(0:Nat),Ty.val,v3,some (0:Nat),true⟩),(309,some ⟨(0:Nat),Ty.row,v1,some (0:Nat),true⟩)])
def zcy(m:Nat):S Un→Option (EX Un):=lpF_ (z71 m) z34 Tryz.f89 [1,1,0,1,2,2] 3
noncomputable def znj:Code:=sub (sub (zk Tryz.f89) [1,1,0,1,2,2]) [1,1,0,2,1,1,0,1,2,2]
def z9v(m:Nat):S Un→Option (EX Un):=z1k (z34 7) (fun s Q=>awf (z71 m) z34 znj s Q)
noncomputable def zwr:Code:=sub (sub (sub (zk Tryz.f89) [1,1,0,1,2,2]) [1,1,0,2,1,1,0,1,2,2]) [1,1,0,2,1,1,0,1,2,2]
def z8c(m:Nat):S Un→Option (EX Un):=z1k (z34 11) (fun s Q=>awf (z71 m) z34 zwr s Q)
def z10l(m:Nat):Exit→S Un→Option (RF Un):=cxF_ (z71 m) z34 Tryz.f89 [1,1,0,1,2] [.m]
def z10m(m:Nat):Exit→S Un→Option (EX Un):=ctxF (z71 m) z34 (sub (zk Tryz.f89) [1,1,0,1,2,2]) [1,1,0,2,1,1,0,1,2] (zc3 (z34 3) (zcy m))
def zws(m:Nat):Exit→S Un→Option (EX Un):=ctxF (z71 m) z34 znj [1,1,0,2,1,1,0,1,2] (zc3 (z34 7) (z9v m))
def z10n(m:Nat)(w:Wld)(r:Rel):Option (RF Un):=fnF_ (z71 m) z34 Tryz.f89 6 [.m] [.d (.agg (enc Ty.wld w)),.d (.agg (enc Ty.rel r))]
theorem z1rp(m:Nat)(w:Wld)(r:Rel):z10n m w r=obO ((8:Nat)*(Rel.ids r).ht+(4:Nat)<m) (obO (zeo w (Rel.ids r) (0:Int)) (obO ((8:Nat)*htTs r.terms+(9:Nat)<m) (obO (z29u w (z1e w r) r.terms) ((zcy m (z9u w r (0:Int) ([]))).bind (ze (z10l m)))))):=by kernel_rfl
theorem z10o(m:Nat)(w:Wld)(r:Rel)(v0:Int)(v1:List (List Val)):zcy m (z9u w r v0 v1)=cndO (decide (v0<(↑(z19 w (z1e w r) r.terms).length:Int))) (obO (0≤v0∧v0<(↑(z19 w (z1e w r) r.terms).length:Int)) (obO (((z19 w (z1e w r) r.terms).getD v0.toNat zh).key.length≤(1000000000:Nat)) ((z9v m (z66 w r v0 v1 (0:Int) (((z19 w (z1e w r) r.terms).getD v0.toNat zh).key))).bind (ze (z10m m))))) (some (.exit 0,(z9u w r v0 v1))):=lpQ_ (by kernel_rfl)
theorem z1bn(m:Nat)(w:Wld)(r:Rel)(v0:Int)(v1:List (List Val)):z10l m (.exit 0) (z9u w r v0 v1)=some (zug (v1)):=by kernel_rfl
theorem z10p(m:Nat)(w:Wld)(r:Rel)(v0:Int)(v1:List (List Val))(v2:Int)(v3:List Val):z9v m (z66 w r v0 v1 v2 v3)=cndO (decide (v2<(↑r.aggs.length:Int))) (obO (0≤v2∧v2<(↑r.aggs.length:Int)) ((z8c m (z4k w r v0 v2 v3 v1 (0:Int) ([]))).bind (ze (zws m)))) (some (.exit 2,(z66 w r v0 v1 v2 v3))):=(zbh (z34 7) znj _).trans (by kernel_rfl)
theorem z1bo(m:Nat)(w:Wld)(r:Rel)(v0:Int)(v1:List (List Val))(v2:Int)(v3:List Val):z10m m (.exit 2) (z66 w r v0 v1 v2 v3)=obO ((v1.length+[v3].length)*(24:Nat)≤zi) (zcy m (z9u w r (IntKind.i64.wrap (v0+1)) (v1++[v3]))):=by kernel_rfl
theorem zwt(m:Nat)(w:Wld)(r:Rel)(v0:Int)(v2:Int)(v3:List Val)(v1:List (List Val))(v4:Int)(v5:List Val):z8c m (z4k w r v0 v2 v3 v1 v4 v5)=cndO (decide (v4<(↑((z19 w (z1e w r) r.terms).getD v0.toNat zh).rows.length:Int))) (obO (0≤v4∧v4<(↑((z19 w (z1e w r) r.terms).getD v0.toNat zh).rows.length:Int)) (cndO ((↑(Agg.t (r.aggs.getD v2.toNat zo)).length:Int)==(0:Int)) (obO ((v5.length+[z7].length)*(32:Nat)≤zi) (z8c m (z4k w r v0 v2 v3 v1 (IntKind.i64.wrap (v4+1)) (v5++[z7])))) (obO (w.env.length≤(100000000:Nat)) (obO ((0:Int)≤(0:Int)∧(0:Int)<(↑(Agg.t (r.aggs.getD v2.toNat zo)).length:Int)) (obO ((8:Nat)*(Term.ids ((Agg.t (r.aggs.getD v2.toNat zo)).getD 0 zb)).ht+(7:Nat)<m) (obO (okT (zf w (((z19 w (z1e w r) r.terms).getD v0.toNat zh).rows.getD v4.toNat [])) (Term.ids ((Agg.t (r.aggs.getD v2.toNat zo)).getD 0 zb))) (obO ((v5.length+[(z6q (zf w (((z19 w (z1e w r) r.terms).getD v0.toNat zh).rows.getD v4.toNat [])) (Term.ids ((Agg.t (r.aggs.getD v2.toNat zo)).getD 0 zb)))].length)*(32:Nat)≤zi) (z8c m (z4k w r v0 v2 v3 v1 (IntKind.i64.wrap (v4+1)) (v5++[(z6q (zf w (((z19 w (z1e w r) r.terms).getD v0.toNat zh).rows.getD v4.toNat [])) (Term.ids ((Agg.t (r.aggs.getD v2.toNat zo)).getD 0 zb)))])))))))))) (some (.exit 4,(z4k w r v0 v2 v3 v1 v4 v5))):=(zbh (z34 11) zwr _).trans (by kernel_rfl)
theorem z19i(m:Nat)(w:Wld)(r:Rel)(v0:Int)(v2:Int)(v3:List Val)(v1:List (List Val))(v4:Int)(v5:List Val):zws m (.exit 4) (z4k w r v0 v2 v3 v1 v4 v5)=obO (v5.length≤(400000:Nat)) (obO ((v3.length+[(zni r v2 v5)].length)*(32:Nat)≤zi) (z9v m (z66 w r v0 v1 (IntKind.i64.wrap (v2+1)) (v3++[(zni r v2 v5)])))):=by kernel_rfl
theorem z1hu(m:Nat)(w:Wld)(r:Rel)(_hw:WS .wld w)(hr:WS .rel r)(hm:8*r.ht+6<m+1)(h:z1rf w r):z10n m w r=some (zug (zbv w r)):=by
 obtain⟨v,hv⟩:=h;have e:zbv w r=v:=by unfold zbv;rw[hv];rfl
 rw[e];have ht:=Rel.ht_terms r;unfold z1nl grpO at hv;split at hv
 ·rename_i hna;obtain⟨l,hL,hv⟩:=y7.1 hv;obtain⟨bs,hB,hv⟩:=y7.1 hv;have hll:=zbw hL;obtain⟨⟨hE,hN,_⟩,hkey,hbl⟩:=z195 hB;have c1:z1e w r=l:=z5r hL;have cb:z19 w l r.terms=bs:=by unfold z19 nBun;rw[hB];rfl
  have hvl:=znb hv
  have L11:∀(i k:Nat)(row:List Val)(o:Rows)(b:Bunch)(a:Agg)(vs:List Val),bs.getD i zh=b→r.aggs.getD k zo=a→a∈r.aggs→w.env.length≤100000000→mapQ (fun x=>nHd a.t (zf w x)) b.rows=some vs→vs.length≤400000→
    z8c m (z4k w r (i:Int) (k:Int) row o (0:Int) [])=some (.exit 4,z4k w r (i:Int) (k:Int) row o (b.rows.length:Int) vs):=by
   intro i k row o b a vs hb ha ham hE hmp hvs;have hrl:=znb hmp;have hmem:=zul hmp;have hat:htTs a.t<r.ht:=by have:=Rel.ht_agg ham;cases a;simp only[Agg.ht]at this;simp only[Agg.t_mk];omega
   obtain⟨lp,_⟩:=z1p (e:=.exit 4) (L:=z8c m) (st:=fun(z:List Val) q=>z4k w r (i:Int) (k:Int) row o q z) (l:=b.rows) (d:=[]) (g:=fun z x=>z++[if a.t.length=0 then z7 else z6q (zf w x) (a.t.getD 0 zb)]) (fun q z=>z.length=q) (by omega)
    (fun z q x hi hx hI=>by
     have hI':z.length=q:=hI;have hxm:x∈b.rows:=by rw[←hx];exact z8f (by omega)
     obtain⟨y,hy⟩:=hmem x hxm;refine⟨by show(z++[_]).length=q+1;rw[yb,yg];omega,?_⟩;rw[zwt,c1,cb];simp only[z8,Term.ids_eq,y5,hb,ha,hx,beq_iff_eq,yg];rw[if_pos (by simp;omega),z6 (by omega)];by_cases d:a.t.length=0
     ·rw[if_pos (by omega),if_pos d,z6 (by unfold zi;omega)]
     ·rw[z10c,if_neg d]at hy;have hk:(a.t.getD 0 zb).ht≤htTs a.t:=zbi (z8f (by omega))
      rw[if_neg (by omega),if_neg d,z6 hE,z6 (by omega),z6 (by omega),z6 ⟨y,hy⟩,z6 (by unfold zi;omega)])
    (fun z _=>by rw[zwt,c1,cb];simp only[z8,y5,hb];rw[if_neg (by simp)]) [] rfl
   rw[zfo,yz,zum (fun x=>if a.t.length=0 then z7 else z6q (zf w x) (a.t.getD 0 zb)) hmp (fun x hx y hy=>by
    rw[z10c]at hy;by_cases d:a.t.length=0
    ·rw[if_pos d]at hy ⊢;exact yk hy
    ·rw[if_neg d]at hy ⊢;exact zay hy)]at lp
   exact lp
  have L7:∀(i:Nat)(o:Rows)(b:Bunch)(vs:List Val),bs.getD i zh=b→b.key.length≤100000000→mapQ (fun a=>nA a w b.rows) r.aggs=some vs→
    z9v m (z66 w r (i:Int) o (0:Int) b.key)=some (.exit 2,z66 w r (i:Int) o (r.aggs.length:Int) (b.key++vs)):=by
   intro i o b vs hb hbk hmp;have hrl:=znb hmp;have hmem:=zul hmp
   obtain⟨lp,_⟩:=z1p (e:=.exit 2) (L:=z9v m) (st:=fun(z:List Val) q=>z66 w r (i:Int) o q z) (l:=r.aggs) (d:=zo) (g:=fun z a=>z++[(nA a w b.rows).getD z7]) (fun q z=>z.length=b.key.length+q) (by omega)
    (fun z q a hi ha hI=>by
     have hI':z.length=b.key.length+q:=hI;have ham:a∈r.aggs:=by rw[←ha];exact z8f (by omega)
     obtain⟨y,hy⟩:=hmem a ham;refine⟨by show(z++[_]).length=_;rw[yb,yg];omega,?_⟩;have hy0:=hy;rw[z29t,if_pos hE]at hy;obtain⟨us,hu,hy⟩:=y7.1 hy;by_cases hul:us.length≤400000
     ·rw[if_pos hul]at hy;obtain rfl:=yk hy;have c2:zni r (q:Int) us=zct a us:=by
       show zct (Agg.ids (r.aggs.getD (q:Int).toNat zo)) us=_;rw[y5,ha];cases a;rfl
      rw[z10p,z8,if_pos (by simp;omega),z6 (by omega)];refine(zg (L11 i q z o b a us hb ha ham hE hu hul)).trans ?_;rw[z19i,c2,z6 hul,z6 (by unfold zi;rw[yg];omega),hy0];rfl
     ·rw[if_neg hul]at hy;simp at hy)
    (fun z _=>by rw[z10p,z8,if_neg (by simp)]) b.key rfl
   rw[zfo,zum (fun a=>(nA a w b.rows).getD z7) hmp (fun a ha y hy=>by rw[hy];rfl)]at lp;exact lp
  have hmem:=zul hv
  obtain⟨lp,_⟩:=z1p (e:=.exit 0) (L:=zcy m) (st:=fun(o:Rows) q=>z9u w r q o) (l:=bs) (d:=zh) (g:=fun o b=>o++[(((nAs r.aggs w b.rows).bind fun vs=>some (b.key++vs))).getD []]) (fun q o=>o.length=q) (by omega)
   (fun o i b hi hb hI=>by
    have hI':o.length=i:=hI;have hbm:b∈bs:=by rw[←hb];exact z8f (by omega)
    obtain⟨y,hy⟩:=hmem b hbm;have hbk:=hkey b hbm;refine⟨by show(o++[_]).length=_;rw[yb,yg];omega,?_⟩;have hy0:=hy;obtain⟨vs,hvs,hy⟩:=y7.1 hy;obtain rfl:=yk hy;have hvs':nAs r.aggs w b.rows=some vs:=hvs;rw[z21r]at hvs';rw[z10o,c1,cb];simp only[z8,y5,hb];rw[if_pos (by simp;omega),z6 (by omega),z6 (by omega)];refine(zg (L7 i o b vs hb (by omega) hvs')).trans ?_;rw[z1bo,z6 (by unfold zi;rw[yg];omega),hy0]
    rfl)
   (fun o _=>by rw[z10o,c1,cb,z8,if_neg (by simp)]) [] rfl
  rw[zfo,yz,zum (fun b=>(((nAs r.aggs w b.rows).bind fun vs=>some (b.key++vs))).getD []) hv (fun b hb y hy=>by rw[hy];rfl)]at lp;rw[z1rp,Rel.ids_eq,c1,z6 (by omega),z6 (zq8 hL),z6 (by omega),z6 ⟨bs,hB⟩];refine(zg lp).trans ?_;rw[z1bn]
 ·simp at hv
theorem z1o9(m:Nat)(hG:z79 m):FnOK 89 (zne (m+1)):=fnK2 zr zr (M:=(z71 m)) rfl ⟨hG.2.2.2.2.1,hG.2.2.2.2.2.2.2.2.2.1,z217,zoz,hG.2.1,z29o,trivial⟩ trivial trivial trivial trivial Tryz.func89 fun w r=>GiF.r fun w1 o=>z1hu m w r (wfA_ w1 0) (wfA_ w1 1) (obA_ o 0) (obA_ o 1)
def zp5(m:Nat):Mc Un:=mcF_ [(91,z81 m),(143,z19a),(90,zui),(85,zm3),(142,zqz)] [] [] [(144,zr3)] []
def zy9:Nat→NS:=nsF_ [(11,{ts:=bl 64 481036337544,bs:=bl 64 8,nm:=[(.sl 7,256),(.sl 36,257),(.sl 8,258)],cs:=true})] true
def za8(w:Wld)(r:Rel):=zgw [zn w (Rel.mk r.op r.table r.cols r.kids r.terms r.aggs r.keys r.limit r.skip r.all r.rows) (0:Int),zn w (Rel.mk r.op r.table r.cols r.kids r.terms r.aggs r.keys r.limit r.skip r.all r.rows) (1:Int)]
def zfw(w:Wld)(r:Rel):=zn w (Rel.mk r.op r.table r.cols r.kids r.terms r.aggs r.keys r.limit r.skip r.all r.rows) (1:Int)
def za9(w:Wld)(r:Rel):=zn w (Rel.mk r.op r.table r.cols r.kids r.terms r.aggs r.keys r.limit r.skip r.all r.rows) (0:Int)
def z2v(r:Rel)(v0:Int)(v1:List (List Val))(v2:Int)(v3:List (List Val))(v4:List (List Val)):S Un:=(st 64 64 259 0 [(3,ax 3),(7,ao 256),(8,ao 258),(36,ao 257),(37,ai v0),(38,ai v2)] [(3,bg .rel r)] [(256,some ⟨(0:Nat),Ty.row,v3,some (0:Nat),true⟩),(257,some ⟨(0:Nat),Ty.row,v1,some (0:Nat),true⟩),(258,some ⟨(0:Nat),Ty.row,v4,some (0:Nat),true⟩)])
def z41(m:Nat):S Un→Option (EX Un):=lpF_ (zp5 m) zy9 Tryz.f92 [1,1,1,1,1,1,1,0,1,2,2] 11
def zaz(m:Nat):Exit→S Un→Option (RF Un):=cxF_ (zp5 m) zy9 Tryz.f92 [1,1,1,1,1,1,1,0,1,2] [.m]
def z19j(m:Nat)(w:Wld)(r:Rel):Option (RF Un):=fnF_ (zp5 m) zy9 Tryz.f92 3 [.m] [.d (.agg (enc Ty.wld w)),.d (.agg (enc Ty.rel r))]
theorem z22h(m:Nat)(w:Wld)(r:Rel):z19j m w r=obO ((8:Nat)*(Rel.ids r).ht+(4:Nat)<m) (obO (zeo w (Rel.ids r) (0:Int)) (obO ((8:Nat)*(Rel.ids r).ht+(4:Nat)<m) (obO (zeo w (Rel.ids r) (1:Int)) (cndO (r.op==9) (obO ([zn w (Rel.ids r) (0:Int),zn w (Rel.ids r) (1:Int)].flatten.length≤(1000000000:Nat)) (cndO (!r.all) (obO ((za8 w r).length≤(100000000:Nat)) (cndO (r.op==9) (some (zug (z1d (za8 w r)))) (obO ((zfw w r).length≤(1000000000:Nat)) ((z41 m (z2v r (↑(z1d (za8 w r)).length:Int) (z1d (za8 w r)) (0:Int) (zn w (Rel.ids r) (1:Int)) ([]))).bind (ze (zaz m)))))) (cndO (r.op==9) (some (zug (za8 w r))) (obO ((zfw w r).length≤(1000000000:Nat)) ((z41 m (z2v r (↑(za8 w r).length:Int) (zgw [zn w (Rel.ids r) (0:Int),zn w (Rel.ids r) (1:Int)]) (0:Int) (zn w (Rel.ids r) (1:Int)) ([]))).bind (ze (zaz m))))))) (cndO (!r.all) (obO ((za9 w r).length≤(100000000:Nat)) (cndO (r.op==9) (some (zug (z1d (za9 w r)))) (obO ((zfw w r).length≤(1000000000:Nat)) ((z41 m (z2v r (↑(z1d (za9 w r)).length:Int) (z1d (za9 w r)) (0:Int) (zn w (Rel.ids r) (1:Int)) ([]))).bind (ze (zaz m)))))) (cndO (r.op==9) (some (zug (za9 w r))) (obO ((zfw w r).length≤(1000000000:Nat)) ((z41 m (z2v r (↑(za9 w r).length:Int) (zn w (Rel.ids r) (0:Int)) (0:Int) (zn w (Rel.ids r) (1:Int)) ([]))).bind (ze (zaz m)))))))))):=by kernel_rfl
theorem z14u(m:Nat)(r:Rel)(v0:Int)(v1:List (List Val))(v2:Int)(v3:List (List Val))(v4:List (List Val)):z41 m (z2v r v0 v1 v2 v3 v4)=cndO (decide (v2<v0)) (obO (0≤v2∧v2<(↑v1.length:Int)) (cndO (decide (zp v3 (v1.getD v2.toNat [])≥0)) (obO (0≤zp v3 (v1.getD v2.toNat [])∧zp v3 (v1.getD v2.toNat [])<IntKind.i64.wrap (zp v3 (v1.getD v2.toNat [])+1)∧IntKind.i64.wrap (zp v3 (v1.getD v2.toNat [])+1)≤(↑v3.length:Int)) (cndO (decide (zp v3 (v1.getD v2.toNat [])≥0)==(r.op==10)) (obO ((v4.length+[v1.getD v2.toNat []].length)*(24:Nat)≤zi) (z41 m (z2v r v0 v1 (IntKind.i64.wrap (v2+1)) (List.take (zp v3 (v1.getD v2.toNat [])).toNat v3++List.drop (IntKind.i64.wrap (zp v3 (v1.getD v2.toNat [])+1)).toNat v3) (v4++[v1.getD v2.toNat []])))) (z41 m (z2v r v0 v1 (IntKind.i64.wrap (v2+1)) (List.take (zp v3 (v1.getD v2.toNat [])).toNat v3++List.drop (IntKind.i64.wrap (zp v3 (v1.getD v2.toNat [])+1)).toNat v3) v4)))) (cndO (decide (zp v3 (v1.getD v2.toNat [])≥0)==(r.op==10)) (obO ((v4.length+[v1.getD v2.toNat []].length)*(24:Nat)≤zi) (z41 m (z2v r v0 v1 (IntKind.i64.wrap (v2+1)) v3 (v4++[v1.getD v2.toNat []])))) (z41 m (z2v r v0 v1 (IntKind.i64.wrap (v2+1)) v3 v4))))) (some (.exit 0,(z2v r v0 v1 v2 v3 v4))):=lpQ_ (by kernel_rfl)
theorem z1hv(m:Nat)(r:Rel)(v0:Int)(v1:List (List Val))(v2:Int)(v3:List (List Val))(v4:List (List Val)):zaz m (.exit 0) (z2v r v0 v1 v2 v3 v4)=some (zug (v4)):=by kernel_rfl
theorem z1rq(m:Nat)(w:Wld)(r:Rel)(_hw:WS .wld w)(_hr:WS .rel r)(hm:8*r.ht+6<m+1)(h:z1nn w r):z19j m w r=some (zug (zbd w r)):=by
 obtain⟨v,hv⟩:=h;have e:zbd w r=v:=by unfold zbd;rw[hv];rfl
 rw[e];unfold nSet setO at hv;obtain⟨a,hA,hv⟩:=y7.1 hv;obtain⟨b,hB,hv⟩:=y7.1 hv;obtain⟨z,hz,hv⟩:=y7.1 hv;obtain rfl:=yk hv;have hal:=zbw hA;have hbl:=zbw hB;have e2:zfw w r=b:=zsg hB;have e3:za9 w r=a:=z5r hA;have e1:za8 w r=a++b:=by
  show zgw [zn w (Rel.ids r) 0,zn w (Rel.ids r) 1]=_;rw[Rel.ids_eq,z5r hA,zsg hB];unfold zgw;simp
 have hpl:∀(x:List Val)(l:Rows),0≤zp l x→(zp l x).toNat<l.length∧((zp l x).toNat:Int)=zp l x:=fun x l h0=>by
  unfold zp at h0 ⊢;cases hf:l.findIdx? (fun y=>plc1 y x)with
  |none=>rw[hf]at h0;exact absurd h0 (by decide)
  |some i=>exact⟨by simpa using(y2f.1 hf).1,by simp⟩
 have loop:∀(c:Rows),c.length≤100000000→∀(q:Rows)(i:Nat)(left out:Rows),c.drop i=q→i≤c.length→left.length≤100000000→out.length≤i→
   (z41 m (z2v r (c.length:Int) c (i:Int) left out)).bind (ze (zaz m))=some (zug (out++setL (decide (r.op=10)) q left)):=by
  intro c hc q
  induction q with
  |nil=>
   intro i left out hr hi hlf ho;have hil:c.length≤i:=by rw[←y1n];exact hr
   have e:z41 m (z2v r (c.length:Int) c (i:Int) left out)=some (.exit 0,z2v r (c.length:Int) c (i:Int) left out):=by rw[z14u,z8,if_neg (by simp;omega)]
   rw[zg e,z1hv];simp only[setL,y14]
  |cons x q ih=>
   intro i left out hr hi hlf ho;obtain⟨a1,a2,a3,hmem⟩:=z55 hr;have hx:c.getD i []=x:=a2 [];have hb0:∀p:Bool,(p==(r.op==10))=true↔p=decide (r.op=10):=fun p=>by
    have:(r.op==10)=decide (r.op=10):=by cases h:decide (r.op=10)<;>simp_all
    rw[this,beq_iff_eq]
   have hge:decide (zp left x≥0)=decide (0≤zp left x):=rfl;have hsl:=z14u m r (c.length:Int) c (i:Int) left out;simp only[z8,y5,hx,z3s a1 (show c.length≤9223372036854775807 by omega),hb0,hge]at hsl;rw[if_pos (by simp;omega),z6 (by omega)]at hsl;simp only[setL];by_cases d:0≤zp left x
   ·obtain⟨p1,p2⟩:=hpl x left d;obtain⟨p,hp⟩:∃p,p=(zp left x).toNat:=⟨_,rfl⟩;rw[←hp]at p1 p2;have hw1:IntKind.i64.wrap (zp left x+1)=((p+1:Nat):Int):=by rw[←p2];exact z1u (by omega)
    have hlt:(left.take p++left.drop (p+1)).length≤100000000:=by rw[yb,yw,yx];omega
    have he:left.eraseIdx p=left.take p++left.drop (p+1):=List.eraseIdx_eq_take_drop_succ _ _;rw[if_pos (by simpa using d),hw1,←p2,y5,y5,z6 (by omega)]at hsl;rw[if_pos d,←hp,he];have dd:decide (0≤(p:Int))=true:=by simp
    rw[dd]at hsl;rw[decide_eq_true d];by_cases d2:true=decide (r.op=10)
    ·rw[if_pos d2,z6 (by unfold zi;rw[yg];omega)]at hsl;rw[if_pos d2,hsl,ih (i+1) _ (out++[x]) a3 (by omega) hlt (by rw[yb,yg];omega),y12]
    ·rw[if_neg d2]at hsl;rw[if_neg d2,hsl,ih (i+1) _ out a3 (by omega) hlt (by omega),yz]
   ·rw[if_neg (by simpa using d)]at hsl;rw[if_neg d];rw[decide_eq_false d]at hsl ⊢;by_cases d2:false=decide (r.op=10)
    ·rw[if_pos d2,z6 (by unfold zi;rw[yg];omega)]at hsl;rw[if_pos d2,hsl,ih (i+1) _ (out++[x]) a3 (by omega) hlf (by rw[yb,yg];omega),y12]
    ·rw[if_neg d2]at hsl;rw[if_neg d2,hsl,ih (i+1) _ out a3 (by omega) hlf (by omega),yz]
 have hon:∀l:Rows,(z1d l).length≤l.length:=fun l=>by
  have:∀(l o:Rows),(l.foldl (fun o x=>if zp o x<0 then o++[x]else o) o).length≤o.length+l.length:=by
   intro l
   induction l with
   |nil=>intro o;simp
   |cons x l ih=>
    intro o;rw[yu];refine y1g (ih _) ?_;split
    ·rw[yb,yg,yt];omega
    ·rw[yt];omega
  have h0:=this l [];rw[y1w,y15]at h0;exact h0
 have s9:∀c:Rows,r.op=9→setE r.op r.all c b=if r.all=true then c else z1d c:=fun c h=>by unfold setE;rw[if_pos h]
 have s10:∀c:Rows,r.op≠9→setE r.op r.all c b=setL (decide (r.op=10)) (if r.all=true then c else z1d c) b:=fun c h=>by unfold setE;rw[if_neg h]
 rw[z22h];simp only[z8,Rel.ids_eq,beq_iff_eq,e1,e2,e3,z5r hA,zsg hB];rw[z6 (by omega),z6 (zq8 hA),z6 (by omega),z6 (z2e6 hB)];by_cases c9:r.op=9
 ·rw[if_pos c9]at hz;obtain⟨h1,h2⟩:=zwn hz;subst h1;rw[yb]at h2;rw[if_pos c9,z6 (by simp;omega),s9 _ c9];by_cases ca:r.all=true
  ·rw[if_neg (by simp[ca]),if_pos c9,if_pos ca]
  ·rw[if_pos (by simpa using ca),z6 (by rw[yb];omega),if_pos c9,if_neg ca]
 ·rw[if_neg c9]at hz;obtain rfl:=yk hz;rw[if_neg c9,s10 _ c9];by_cases ca:r.all=true
  ·rw[if_neg (by simp[ca]),if_neg c9,z6 (by omega),if_pos ca];have:=loop a (by omega) a 0 b [] rfl (ya _) hbl (ya _);exact this
  ·rw[if_pos (by simpa using ca),z6 (by omega),if_neg c9,z6 (by omega),if_neg ca];have h1:=hon a;have:=loop (z1d a) (by omega) (z1d a) 0 b [] rfl (ya _) hbl (ya _);exact this
theorem z1x1(m:Nat)(hG:z79 m):FnOK 92 (zuq (m+1)):=fnK2 zr zr (M:=(zp5 m)) rfl ⟨hG.2.2.2.2.1,z1wt,z14e,zqv,z104,trivial⟩ trivial trivial ⟨z1nw,trivial⟩ trivial Tryz.func92 fun w r=>GiF.r fun w1 o=>z1rq m w r (wfA_ w1 0) (wfA_ w1 1) (obA_ o 0) (obA_ o 1)
theorem z1bp(m:Nat)(hG:z79 m):FnOK 139 (za7 (m+1)):=by
 intro args ob rs os h hob;unfold za7 at h;split at h
 ·simp only[y7,y8,ym]at h;obtain⟨w,e0,rows,e1,terms,e2,rfl,rfl,rfl⟩:=h;obtain rfl:=zr e0;obtain rfl:=z11 e1;obtain rfl:=z11 e2;have hm:8*htTs terms+9<m+1:=hob _ (ye (i:=0) rfl);obtain⟨bs,hbs⟩:z29u w rows terms:=hob _ (ye (i:=1) rfl);have e:z19 w rows terms=bs:=by unfold z19;rw[hbs];rfl
  rw[e];refine⟨z1hp w rows terms bs hbs (fun x key hk=>?_),zj Tryz.func139 (by kernel_rfl) (by kernel_rfl)⟩;have hF:z65 m [.d (.agg (enc Ty.wld (zf w x))),.d (.v (.dat (U:=Un) Ty.term terms))]=some ([8*htTs terms+8<m,okTs (zf w x) terms],zr5 (z50 (zf w x) terms),[]):=by
   unfold z65;simp only[zyn,z1iw,yh];rfl
  have hC:=(hG.2.2.1 _ _ _ _ hF (fun p hp=>by
   simp only[yf,y2j,or_false]at hp;rcases hp with rfl|rfl
   ·omega
   ·exact⟨(z195 hbs).1.2.1,key,hk⟩)).1
  rw[zgx hk]at hC;exact Contract.data hC
 ·simp at h
theorem z3l:∀m,z79 m
  |0=>⟨fnZ2,fnZ2,by
        intro args ob rs os h hob;unfold z65 at h;split at h
        · simp only[y7,y8,ym]at h;obtain⟨_,_,_,_,rfl,_,_⟩:=h;exact absurd (hob _ (ye (i:=0) rfl)) (y18 _)
        · simp at h
      ,fnZ3,fnZ3,fnZ2,fnZ2,fnZ2,fnZ2,by
        intro args ob rs os h hob;unfold za7 at h;split at h
        · simp only[y7,y8,ym]at h;obtain⟨_,_,_,_,_,_,rfl,_,_⟩:=h;exact absurd (hob _ (ye (i:=0) rfl)) (y18 _)
        · simp at h
      ,fnZ2,fnZ2⟩
  |m+1=>⟨z1ri m (z3l m),z1rj m (z3l m),z1o5 m (z3l m),z22e m (z3l m),z1wy m (z3l m),z1wz m (z3l m),z1hr m (z3l m),z1bl m (z3l m),z1ro m (z3l m),z1bp m (z3l m),z1o9 m (z3l m),z1x1 m (z3l m)⟩
def z1en:FnC Un:=fnF2 (dS .wld) (dS .rel) fun w r=>([okRl w r],zug (z9c w r))
theorem z22i:FnOK 45 z1en:=fnA2 fun m=>(z3l m).2.2.2.2.2.1
end
end B
namespace B
open Go Go.RowKit
set_option maxRecDepth 100000
noncomputable section
attribute [local irreducible] awp ctxK zx z1f retQ z1l awf ctxF z1k
def zya(r:List (List Val)):RF Un:=([.c (.sl (U:=Un) Ty.row r false)],[])
def z19k(s:List (List Val)):Option (RF Un):=fnF_ z1bz z23g Tryz.f44 0 [.d] [.d (.v (.dat (U:=Un) Ty.row s))]
theorem z22j(s:List (List Val)):z19k s=obO ((0:Int)≤(↑s.length:Int)∧(↑s.length:Int)=(↑s.length:Int)∧(↑s.length:Int)≤(↑s.length:Int)) (some (zya (List.take (↑s.length:Int).toNat s))):=by kernel_rfl
def z19l(s:List (List Val)):List (List Val):=s
theorem z1rr(s:List (List Val))(hs:WL .row s):z19k s=some (zya (z19l s)):=by
 rw[z22j,z6 (by omega),y5,y36];rfl
def z1ep:FnC Un:=fnF1 (dL .row) fun s=>([],zya (z19l s))
theorem z22k:FnOK 44 z1ep:=fnK1 z11 (M:=z1bz) rfl trivial trivial trivial trivial trivial Tryz.func44 fun s=>GiF.r fun w _=>z1rr s (wfA_ w 0)
def z1eq:Mc Un:=mcF_ [(45,z1en),(44,z1ep)] [] [] [] []
def z19m(r:Rel)(env:List (List Val))(db:List Data):Option (RF Un):=fnF_ z1eq z23g Tryz.f16 0 [.d] [.d (.agg (enc Ty.rel r)),.d (.v (.dat (U:=Un) Ty.row env)),.d (.v (.dat (U:=Un) Ty.data db))]
theorem z22l(r:Rel)(env:List (List Val))(db:List Data):z19m r env db=obO (okRl {env:=env,db:=db} (Rel.ids r)) (some (zya (z19l (z9c {env:=env,db:=db} (Rel.ids r))))):=by kernel_rfl
def z19n(r:Rel)(env:List (List Val))(db:List Data):List (List Val):=z9c ⟨env,db⟩ r
theorem z1rs(r:Rel)(env:List (List Val))(db:List Data)(_hr:WS .rel r)(_he:WL .row env)(_hd:WL .data db)(h:okRl ⟨env,db⟩ r):z19m r env db=some (zya (z19n r env db)):=by
 rw[z22l];simp only[Rel.ids_eq];rw[z6 h];rfl
def z1er:FnC Un:=fnF3 (dS .rel) (dL .row) (dL .data) fun r env db=>([okRl ⟨env,db⟩ r],zya (z19n r env db))
theorem z22m:FnOK 16 z1er:=fnK3 zr z11 z11 (M:=z1eq) rfl ⟨z22i,z22k,trivial⟩ trivial trivial trivial trivial Tryz.func16 fun r env db=>GiF.r fun w o=>z1rs r env db (wfA_ w 0) (wfA_ w 1) (wfA_ w 2) (obA_ o 0)
def z1es:Mc Un:=mcF_ [(16,z1er)] [] [] [] []
def z19o(r:Rel)(db:List Data):Option (RF Un):=fnF_ z1es z23g Tryz.f14 0 [.d] [.d (.agg (enc Ty.rel r)),.d (.v (.dat (U:=Un) Ty.data db))]
theorem z22n(r:Rel)(db:List Data):z19o r db=obO (okRl {env:=[],db:=db} (Rel.ids r)) (some (zya (z19n (Rel.ids r) [] db))):=by kernel_rfl
def z3t(r:Rel)(db:List Data):List (List Val):=z9c ⟨[],db⟩ r
theorem z1rt(r:Rel)(db:List Data)(_hr:WS .rel r)(_hd:WL .data db)(h:okRl ⟨[],db⟩ r):z19o r db=some (zya (z3t r db)):=by
 rw[z22n];simp only[Rel.ids_eq];rw[z6 h];rfl
def zp6:FnC Un:=fnF2 (dS .rel) (dL .data) fun r db=>([okRl ⟨[],db⟩ r],zya (z3t r db))
theorem z19p:FnOK 14 zp6:=fnK2 zr z11 (M:=z1es) rfl ⟨z22m,trivial⟩ trivial trivial trivial trivial Tryz.func14 fun r db=>GiF.r fun w o=>z1rt r db (wfA_ w 0) (wfA_ w 1) (obA_ o 0)
end
end B
end Go.Proofs.YtjfpbchdcbhfgaaGreat
