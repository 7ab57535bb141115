/- Part 18 of the proof: Snaive5 Snaive6. -/
import Derived.Test.YtjfpbchdcbhfgaaGreatNse17
set_option linter.unusedVariables false
set_option linter.unusedSimpArgs false
namespace Go.Proofs.YtjfpbchdcbhfgaaGreat
namespace B
open Go Go.RowKit
set_option maxRecDepth 100000
noncomputable section
attribute [local irreducible] awp ctxK zu z1a retQ z1m awf ctxF z1k
def zs7(m:Nat):FnC Un:=fnF2 (dS .wld) (dS .term) fun w t=>z2k (8*t.ht+6) m ([z1pq w t],zvu (z5s w t))
def z8n(m:Nat):FnC Un:=fnF2 (dS .wld) (dS .term) fun w t=>z2k (8*t.ht+7) m ([okT w t],zyh (z6s w t))
def zs8(r:List Val):List (A Un):=[.c (.sl (U:=Un) Ty.val r false)]
def z169(_r:List Val):List (Ob Un):=[]
def zs9(r:List Val):RF Un:=(zs8 r,z169 r)
def z67(m:Nat):FnC Un:=fun args=>match args with
 |[x0,x1]=>(dS .wld x0).bind fun w=>(dL .term x1).bind fun l=>some ([8*htTs l+8<m,okTs w l],zs8 (z54 w l),z169 (z54 w l))
 |_=>none
def zq2(m:Nat):FnC Un:=fnF3 (dS .wld) (dL .term) (dL .val) fun w l x=>z2k (8*htTs l+8) m ([okSo w l x],z91 (zdn w l x))
def z86(m:Nat):FnC Un:=fnF3 (dS .wld) (dS .rel) (dI .i64) fun w r n=>z2k (8*r.ht+4) m ([zf3 w r n],zvu (zp w r n))
def zn8(m:Nat):FnC Un:=fnF2 (dS .wld) (dS .rel) fun w r=>z2k (8*r.ht+7) m ([okRl w r],zvu (z9e w r))
def zn9(m:Nat):FnC Un:=fnF2 (dS .wld) (dS .rel) fun w r=>z2k (8*r.ht+6) m ([z1jg w r],zvu (za8 w r))
def zk6(m:Nat):FnC Un:=fnF2 (dS .wld) (dS .rel) fun w r=>z2k (8*r.ht+6) m ([z1as w r],zvu (z8m w r))
def zsa(m:Nat):FnC Un:=fnF2 (dS .wld) (dS .rel) fun w r=>z2k (8*r.ht+6) m ([z1ps w r],zvu (zbf w r))
def z1q8(r:List Bunch):List (A Un):=[.c (.sl (U:=Un) Ty.bunch r false)]
def z1q9(_r:List Bunch):List (Ob Un):=[]
def za9(m:Nat):FnC Un:=fun args=>match args with
 |[x0,x1,x2]=>(dS .wld x0).bind fun w=>(dL .row x1).bind fun rows=>(dL .term x2).bind fun terms=>some ([8*htTs terms+9<m,z2ct w rows terms],z1q8 (z19 w rows terms),z1q9 (z19 w rows terms))
 |_=>none
def zoc(m:Nat):FnC Un:=fnF2 (dS .wld) (dS .rel) fun w r=>z2k (8*r.ht+6) m ([z1tv w r],zvu (zbx w r))
def zw4(m:Nat):FnC Un:=fnF2 (dS .wld) (dS .rel) fun w r=>z2k (8*r.ht+6) m ([z1pt w r],zvu (zbg w r))
def z1b0(m:Nat):Mc Un:=mcF_ [(45,zn8 m)] [] [] [] []
def z16a(m:Nat)(w:Wld)(t:Term):Option (RF Un):=fnF_ (z1b0 m) z26d Tryz.f118 0 [.m] [.d (.agg (enc Ty.wld w)),.d (.agg (enc Ty.term t))]
theorem z1zk(m:Nat)(w:Wld)(t:Term):z16a m w t=cndO ((↑t.sub.length:Int)==(0:Int)) (some (zvu ([]))) (obO ((0:Int)≤(0:Int)∧(0:Int)<(↑t.sub.length:Int)) (obO ((8:Nat)*(Rel.ids (t.sub.getD 0 za)).ht+(7:Nat)<m) (obO (okRl w (Rel.ids (t.sub.getD 0 za))) (some (zvu (z9e w (Rel.ids (t.sub.getD 0 za)))))))):=by kernel_rfl
theorem Term.ht_kids(t:Term):htTs t.kids<t.ht:=by cases t;grind[Term.kids_mk,Term.ht]
theorem Rel.ht_terms(r:Rel):htTs r.terms<r.ht:=by cases r;grind[Rel.terms_mk,Rel.ht]
theorem zjk{w:Wld}{t:Term}{l:Rows}(h:nSub t.sub w=some l):z5s w t=l:=by simp_all[z5s]
theorem z36{w:Wld}{r:Rel}{l:Rows}(h:nR r w=some l):z9e w r=l:=by simp_all[z9e]
theorem zb0{w:Wld}{t:Term}{v:Val}(h:nT t w=some v):z6s w t=v:=by simp_all[z6s]
theorem zhd{w:Wld}{t:List Term}{v:List Val}(h:nTs t w=some v):z54 w t=v:=by simp_all[z54]
theorem zzp{w:Wld}{t:List Term}{x:List Val}{b:Bool}(h:nSo t (zj w x)=some b):zdn w t x=b:=by simp_all[zdn]
theorem zw5{w:Wld}{r:Rel}{n:Nat}{l:Rows}(h:nKid r.kids n w=some l):zp w r (n:Int)=l:=by simp_all[zp,y5]
theorem z5t{w:Wld}{r:Rel}{l:Rows}(h:nKid r.kids 0 w=some l):zp w r (0:Int)=l:=zw5 (n:=0) h
theorem ztl{w:Wld}{r:Rel}{l:Rows}(h:nKid r.kids 1 w=some l):zp w r (1:Int)=l:=zw5 (n:=1) h
theorem zrb{w:Wld}{r:Rel}{l:Rows}(h:nKid r.kids 0 w=some l):zf3 w r (0:Int):=⟨y27 _,l,h⟩
theorem z2ha{w:Wld}{r:Rel}{l:Rows}(h:nKid r.kids 1 w=some l):zf3 w r (1:Int):=⟨by omega,l,h⟩
theorem z1qa(m:Nat)(w:Wld)(t:Term)(_hw:WS .wld w)(_ht:WS .term t)(hm:8*t.ht+6<m+1)(h:z1pq w t):z16a m w t=some (zvu (z5s w t)):=by
 obtain⟨l,hl⟩:=h;rw[zjk hl];rw[z29m]at hl;rw[z1zk];simp only[z8,Rel.ids_eq,beq_iff_eq];by_cases h0:t.sub.length=0
 ·grind
 ·rw[if_neg h0]at hl;have hs:(t.sub.getD 0 za).ht<t.ht:=Term.ht_sub (z8i (by omega));rw[if_neg (by omega),z6 (by omega),z6 (by omega),z6 ⟨l,hl⟩,z36 hl]
abbrev z7a(m:Nat):Prop:=FnOK 118 (zs7 m)∧FnOK 67 (z8n m)∧FnOK 121 (z67 m)∧FnOK 136 (zq2 m)∧FnOK 91 (z86 m)∧FnOK 45 (zn8 m)∧FnOK 86 (zn9 m)∧FnOK 87 (zk6 m)∧FnOK 88 (zsa m)∧FnOK 139 (za9 m)∧FnOK 89 (zoc m)∧FnOK 92 (zw4 m)
theorem z1ty(m:Nat)(hG:z7a m):FnOK 118 (zs7 (m+1)):=fnK2 zr zr (M:=(z1b0 m)) rfl ⟨hG.2.2.2.2.2.1,trivial⟩ trivial trivial trivial trivial Tryz.func118 fun w t=>GiF.r fun w1 o=>z1qa m w t (wfA_ w1 0) (wfA_ w1 1) (obA_ o 0) (obA_ o 1)
def z1b1(m:Nat):Mc Un:=mcF_ [(117,z15l),(118,zs7 m),(39,zcr),(67,z8n m),(119,z15z),(121,z67 m),(120,zo4)] [] [] [] []
def z16b(m:Nat)(w:Wld)(t:Term):Option (RF Un):=fnF_ (z1b1 m) z26d Tryz.f67 0 [.d] [.d (.agg (enc Ty.wld w)),.d (.agg (enc Ty.term t))]
theorem z1zl(m:Nat)(w:Wld)(t:Term):z16b m w t=cndO (t.op==1) (obO ((Term.ids t).sz≤(2000000:Nat)) (obO (strT (Term.ids t)) (obO (z6q w.env) (some (zyh (z52 (Term.ids t) w.env)))))) (cndO (t.op==2) (obO ((Term.ids t).sz≤(2000000:Nat)) (obO (strT (Term.ids t)) (obO (z6q w.env) (some (zyh (z52 (Term.ids t) w.env)))))) (cndO (t.op==26) (obO ((8:Nat)*(Term.ids t).ht+(6:Nat)<m) (obO (z1pq w (Term.ids t)) (cndO ((↑(z5s w (Term.ids t)).length:Int)==(1:Int)) (obO ((0:Int)≤(0:Int)∧(0:Int)<(↑(z5s w (Term.ids t)).length:Int)) (cndO (decide ((↑(List.length ((z5s w (Term.ids t)).getD 0 [])):Int)>(0:Int))) (obO ((0:Int)≤(0:Int)∧(0:Int)<(↑(z5s w (Term.ids t)).length:Int)) (obO ((0:Int)≤(0:Int)∧(0:Int)<(↑(List.length ((z5s w (Term.ids t)).getD 0 [])):Int)) (some (zyh (List.getD ((z5s w (Term.ids t)).getD 0 []) 0 z7))))) (some (zyh (z7))))) (some (zyh (z7)))))) (cndO (t.op==27) (obO ((8:Nat)*(Term.ids t).ht+(6:Nat)<m) (obO (z1pq w (Term.ids t)) (some (zyh (z2v (decide ((↑(z5s w (Term.ids t)).length:Int)>(0:Int)))))))) (cndO (t.op==28) (cndO ((↑t.kids.length:Int)==(0:Int)) (some (zyh (z7))) (obO ((0:Int)≤(0:Int)∧(0:Int)<(↑t.kids.length:Int)) (obO ((8:Nat)*(Term.ids (t.kids.getD 0 zb)).ht+(7:Nat)<m) (obO (okT w (Term.ids (t.kids.getD 0 zb))) (obO ((8:Nat)*(Term.ids t).ht+(6:Nat)<m) (obO (z1pq w (Term.ids t)) (some (zyh (zii (z6s w (Term.ids (t.kids.getD 0 zb))) (z5s w (Term.ids t))))))))))) (obO ((8:Nat)*htTs t.kids+(8:Nat)<m) (obO (okTs w t.kids) (obO (txts (z54 w t.kids)) (some (zyh (z1x t.op t.name (z54 w t.kids))))))))))):=by kernel_rfl
theorem z1qb(m:Nat)(w:Wld)(t:Term)(_hw:WS .wld w)(_ht:WS .term t)(hm:8*t.ht+7<m+1)(h:okT w t):z16b m w t=some (zyh (z6s w t)):=by
 obtain⟨v,hv⟩:=h;rw[zb0 hv];rw[z1pp]at hv;rw[z1zl];simp only[z8,Term.ids_eq,beq_iff_eq,decide_eq_true_eq];have hkd:=Term.ht_kids t;by_cases c12:t.op=1∨t.op=2
 ·rw[if_pos c12]at hv;obtain⟨⟨h1,h2,h3⟩,h4⟩:=chkQ_some.1 hv;rcases c12 with c|c
  all_goals simp_all[if_pos,z6,if_neg]
 rw[if_neg c12]at hv;rw[if_neg (fun e=>c12 (.inl e)),if_neg (fun e=>c12 (.inr e))];by_cases c3:t.op=26
 ·rw[if_pos c3]at hv ⊢;obtain⟨l,hl,h4⟩:=y6.1 hv;rw[z6 (by omega),z6 ⟨l,hl⟩,zjk hl];by_cases d1:l.length=1
  ·by_cases d2:0<(l.getD 0 []).length
   all_goals simp_all[if_pos,z6,if_neg]
  grind
 rw[if_neg c3]at hv ⊢;by_cases c4:t.op=27
 ·rw[if_pos c4]at hv ⊢;obtain⟨l,hl,h4⟩:=y6.1 hv;obtain rfl:=yj h4;rw[z6 (by omega),z6 ⟨l,hl⟩,zjk hl];simp
 rw[if_neg c4]at hv ⊢;by_cases c5:t.op=28
 ·rw[if_pos c5]at hv ⊢;by_cases d:t.kids.length=0
  ·grind
  ·rw[if_neg d]at hv;obtain⟨x,hx,h4⟩:=y6.1 hv;obtain⟨l,hl,h5⟩:=y6.1 h4;obtain rfl:=yj h5;rw[z1aq,if_neg d]at hx;have hk:(t.kids.getD 0 zb).ht<t.ht:=Term.ht_kidD (by omega);rw[if_neg (by omega),z6 (by omega),z6 (by omega),z6 ⟨x,hx⟩,z6 (by omega),z6 ⟨l,hl⟩,zb0 hx,zjk hl]
 rw[if_neg c5]at hv ⊢;split at hv
 ·obtain⟨l,hl,h4⟩:=y6.1 hv;obtain⟨h5,h6⟩:=chkQ_some.1 h4;obtain rfl:=yj h6;rw[z6 (by omega),z6 ⟨by omega,l,hl⟩,zhd hl,z6 h5]
 grind
theorem z1tz(m:Nat)(hG:z7a m):FnOK 67 (z8n (m+1)):=fnK2 zr zr (M:=(z1b1 m)) rfl ⟨z1t3,hG.1,zrt,hG.2.1,z1tm,hG.2.2.1,zxj,trivial⟩ trivial trivial trivial trivial Tryz.func67 fun w t=>GiF.r fun w1 o=>z1qb m w t (wfA_ w1 0) (wfA_ w1 1) (obA_ o 0) (obA_ o 1)
def zjl(m:Nat):Mc Un:=mcF_ [(67,z8n m)] [] [] [] []
def zjm:Nat→NS:=nsF_ [(3,{ts:=bl 26 14372,bs:=bl 26 4,nm:=[(.sl 5,104)],cs:=true})] true
def z4d(w:Wld)(l:List Term)(v0:Int)(v1:List Val):S Un:=(st 26 26 105 0 [(2,ax 2),(5,ao 104),(11,al .term l),(12,ai (↑l.length:Int)),(13,ai v0)] [(2,bg .wld w)] [(104,some ⟨(0:Nat),Ty.val,v1,some (0:Nat),true⟩)])
def z7b(m:Nat):S Un→Option (EX Un):=lpF_ (zjl m) zjm Tryz.f121 [1,1,0,1,2,2] 3
def zod(m:Nat):Exit→S Un→Option (RF Un):=cxF_ (zjl m) zjm Tryz.f121 [1,1,0,1,2] [.d]
def z11y(m:Nat)(w:Wld)(l:List Term):Option (RF Un):=fnF_ (zjl m) zjm Tryz.f121 1 [.d] [.d (.agg (enc Ty.wld w)),.d (.v (.dat (U:=Un) Ty.term l))]
theorem z1u0(m:Nat)(w:Wld)(l:List Term):z11y m w l=obO ((0:Int)≤(↑l.length:Int)∧(↑l.length:Int)≤(↑l.length:Int)∧(↑l.length:Int).toNat*(32:Nat)≤zh) ((z7b m (z4d w l (0:Int) (List.replicate (↑l.length:Int).toNat z7))).bind (zd (zod m))):=by kernel_rfl
theorem z11z(m:Nat)(w:Wld)(l:List Term)(v0:Int)(v1:List Val):z7b m (z4d w l v0 v1)=cndO (decide (v0<(↑l.length:Int))) (obO (0≤v0∧v0<(↑l.length:Int)) (obO ((8:Nat)*(Term.ids (l.getD v0.toNat zb)).ht+(7:Nat)<m) (obO (okT w (Term.ids (l.getD v0.toNat zb))) (obO (0≤v0∧v0<(↑v1.length:Int)) (obO ((0:Nat)≤v0.toNat) (z7b m (z4d w l (IntKind.i64.wrap (v0+1)) (v1.set v0.toNat (z6s w (Term.ids (l.getD v0.toNat zb))))))))))) (some (.exit 0,(z4d w l v0 v1))):=lpQ_ (by kernel_rfl)
theorem z1da(m:Nat)(w:Wld)(l:List Term)(v0:Int)(v1:List Val):zod m (.exit 0) (z4d w l v0 v1)=some (zs9 (v1)):=by kernel_rfl
theorem z1x9{α β:Type}{f:α→Option β}:∀{l:List α}{s:List β}(i:Nat),mapQ f l=some s→mapQ f (l.drop i)=some (s.drop i)
 |_,_,0,h=>h
 |[],s,i+1,h=>by simp_all[mapQ,y8]
 |x::l,s,i+1,h=>by
  obtain⟨y,r,h1,h2,rfl⟩:=zr7 h;exact z1x9 i h2
theorem z1jq(m:Nat)(w:Wld)(l:List Term)(_hw:WS .wld w)(hl:WL .term l)(hm:8*htTs l+8<m+1)(h:okTs w l):z11y m w l=some (zs9 (z54 w l)):=by
 obtain⟨hlen,s,hs⟩:=h;rw[zhd hs];rw[z1ar]at hs;have hsl:=zo8 hs;have key:∀(r:List Term)(i:Nat)(q:List Val),l.drop i=r→i≤l.length→q.length=l.length→q.take i=s.take i→(z7b m (z4d w l (i:Int) q)).bind (zd (zod m))=some (zs9 s):=by
  intro r
  induction r with
  |nil=>
   intro i q hr hi hq ht;have hil:l.length≤i:=by rw[←y1o];exact hr
   have e:z7b m (z4d w l (i:Int) q)=some (.exit 0,z4d w l (i:Int) q):=by rw[z11z,z8,if_neg (by simp;omega)]
   rw[zg e,z1da];rw[y32 (by omega),y32 (by omega)]at ht;rw[ht]
  |cons x r ih=>
   intro i q hr hi hq ht;obtain⟨a1,a2,a3,hmem⟩:=z32 hr;have hx:l.getD i zb=x:=a2 zb;have hd:=z1x9 i hs;rw[hr]at hd;obtain⟨y,s',h1,h2,h3⟩:=zr7 hd;have hht:=zbl hmem;have e:z7b m (z4d w l (i:Int) q)=z7b m (z4d w l ((i+1:Nat):Int) (q.set i y)):=by
    rw[z11z];simp only[z8,Term.ids_eq,y5,hx];rw[if_pos (by simp;omega),z6 (by omega),z6 (by omega),z6 ⟨y,h1⟩,z6 (by omega),z6 (by omega),z3e a1 hl.len,zb0 h1]
   rw[e];refine ih (i+1) (q.set i y) a3 (by omega) (by rw[y1r];exact hq) ?_;have hsi:s[i]?=some y:=by
    have:=congrArg (fun z=>z[0]?) h3;simpa using this
   rw[y3p,y3p,List.take_set_of_le (y7 _),ht,hsi,y1a (by omega)]
 rw[z1u0,z6 (by rw[y5];refine⟨by omega,by omega,?_⟩;unfold zh;omega)];have:=key l 0 (List.replicate (l.length:Int).toNat z7) rfl (yb _) (by simp) rfl;exact this
theorem z1qc(m:Nat)(hG:z7a m):FnOK 121 (z67 (m+1)):=by
 intro args ob rs os h hob;unfold z67 at h;split at h
 ·simp only[y6,y8,yl]at h;obtain⟨w,e0,l,e1,rfl,rfl,rfl⟩:=h;obtain rfl:=zr e0;obtain rfl:=zx e1;exact⟨z2c (M:=(zjl m)) rfl (z4p (l1:=[(67,z8n m)]) (l2:=[]) (l3:=[]) (l4:=[]) (l5:=[]) ⟨hG.2.1,trivial⟩ trivial trivial trivial trivial) Tryz.func121 (by kernel_rfl) zjm 1 [.d] (fun hwf=>(z1jq m w l (z46 hwf (a:=.d (.agg (enc Ty.wld w))) (yd (i:=0) rfl)) (z46 hwf (a:=.d (.v (.dat (U:=Un) Ty.term l))) (yd (i:=1) rfl)) (hob _ (yd (i:=0) rfl)) (hob _ (yd (i:=1) rfl)))),zk Tryz.func121 (by kernel_rfl) (by kernel_rfl)⟩
 ·simp at h
def ztm(m:Nat):Mc Un:=mcF_ [(137,zdl),(67,z8n m),(161,zdi)] [] [] [] []
def z143:Nat→NS:=nsF_ [(3,{ts:=bl 25 57536,bs:=bl 25 128,nm:=[],cs:=true})] true
def z3u(w:Wld)(l:List Term)(x:List Val)(v0:Int):S Un:=(st 25 25 100 0 [(6,ab false),(7,ax 7),(13,al .term l),(14,ai (↑l.length:Int)),(15,ai v0)] [(7,some (false,encC Ty.wld (zj w x)))] [])
def z9i(m:Nat):S Un→Option (EX Un):=lpF_ (ztm m) z143 Tryz.f136 [1,1,0,1,2,2] 3
def zq4(m:Nat):Exit→S Un→Option (RF Un):=cxF_ (ztm m) z143 Tryz.f136 [1,1,0,1,2] [.d]
def z1gd(m:Nat)(w:Wld)(l:List Term)(x:List Val):Option (RF Un):=fnF_ (ztm m) z143 Tryz.f136 0 [.d] [.d (.agg (enc Ty.wld w)),.d (.v (.dat (U:=Un) Ty.term l)),.d (.v (.dat (U:=Un) Ty.val x))]
theorem z28g(m:Nat)(w:Wld)(l:List Term)(x:List Val):z1gd m w l x=obO (w.env.length≤(100000000:Nat)) ((z9i m (z3u w l x (0:Int))).bind (zd (zq4 m))):=by kernel_rfl
theorem zzq(m:Nat)(w:Wld)(l:List Term)(x:List Val)(v0:Int):z9i m (z3u w l x v0)=cndO (decide (v0<(↑l.length:Int))) (obO (0≤v0∧v0<(↑l.length:Int)) (obO ((8:Nat)*(Term.ids (l.getD v0.toNat zb)).ht+(7:Nat)<m) (obO (okT (zj w x) (Term.ids (l.getD v0.toNat zb))) (cndO (z3z (z6s (zj w x) (Term.ids (l.getD v0.toNat zb))) !=2) (some (.ret,(z3u w l x v0))) (z9i m (z3u w l x (IntKind.i64.wrap (v0+1)))))))) (some (.exit 0,(z3u w l x v0))):=lpQ_ (by kernel_rfl)
theorem z1qd(m:Nat)(w:Wld)(l:List Term)(x:List Val)(v0:Int):zq4 m .ret (z3u w l x v0)=some (z91 (false)):=by kernel_rfl
theorem z1u1(m:Nat)(w:Wld)(l:List Term)(x:List Val)(v0:Int):zq4 m (.exit 0) (z3u w l x v0)=some (z91 (true)):=by kernel_rfl
theorem z1zm(m:Nat)(w:Wld)(l:List Term)(x:List Val)(_hw:WS .wld w)(hl:WL .term l)(_hx:WL .val x)(hm:8*htTs l+8<m+1)(h:okSo w l x):z1gd m w l x=some (z91 (zdn w l x)):=by
 obtain⟨hE,b,hb⟩:=h;rw[zzp hb];have key:∀(r:List Term)(i:Nat)(b:Bool),l.drop i=r→i≤l.length→nSo r (zj w x)=some b→(z9i m (z3u w l x (i:Int))).bind (zd (zq4 m))=some (z91 b):=by
  intro r
  induction r with
  |nil=>
   intro i b hr hi hs;have hil:l.length≤i:=by rw[←y1o];exact hr
   have e:z9i m (z3u w l x (i:Int))=some (.exit 0,z3u w l x (i:Int)):=by rw[zzq,z8,if_neg (by simp;omega)]
   rw[zg e,z1u1];simp only[nSo,y8]at hs;rw[hs]
  |cons t r ih=>
   intro i b hr hi hs;obtain⟨a1,a2,a3,hmem⟩:=z32 hr;have ht:l.getD i zb=t:=a2 zb;have hht:=zbl hmem;simp only[nSo,y6]at hs;obtain⟨v,hv,hs⟩:=hs;by_cases c:z3z v=2
   ·rw[if_pos c]at hs;have e:z9i m (z3u w l x (i:Int))=z9i m (z3u w l x ((i+1:Nat):Int)):=by
     rw[zzq];simp only[z8,Term.ids_eq,y5,ht];rw[if_pos (by simp;omega),z6 (by omega),z6 (by omega),z6 ⟨v,hv⟩,zb0 hv,if_neg (by rw[c];decide),z3e a1 hl.len]
    rw[e];exact ih (i+1) b a3 (by omega) hs
   ·rw[if_neg c]at hs;obtain rfl:=yj hs;have e:z9i m (z3u w l x (i:Int))=some (.ret,z3u w l x (i:Int)):=by
     rw[zzq];simp only[z8,Term.ids_eq,y5,ht];rw[if_pos (by simp;omega),z6 (by omega),z6 (by omega),z6 ⟨v,hv⟩,zb0 hv,if_pos (by simpa using c)]
    rw[zg e,z1qd]
 rw[z28g,z6 hE];exact key l 0 b rfl (yb _) hb
theorem z25a(m:Nat)(hG:z7a m):FnOK 136 (zq2 (m+1)):=fnK3 zr zx zx (M:=(ztm m)) rfl ⟨zpz,hG.2.1,zid,trivial⟩ trivial trivial trivial trivial Tryz.func136 fun w l x=>GiF.r fun w1 o=>z1zm m w l x (wfA_ w1 0) (wfA_ w1 1) (wfA_ w1 2) (obA_ o 0) (obA_ o 1)
def z1b2(m:Nat)(w:Wld)(r:Rel)(n:Int):Option (RF Un):=fnF_ (z1b0 m) z26d Tryz.f91 0 [.m] [.d (.agg (enc Ty.wld w)),.d (.agg (enc Ty.rel r)),.d (.v (.s (.int .i64 n)))]
theorem z25b(m:Nat)(w:Wld)(r:Rel)(n:Int):z1b2 m w r n=cndO (decide (n≥(↑r.kids.length:Int))) (some (zvu ([]))) (obO (0≤n∧n<(↑r.kids.length:Int)) (obO ((8:Nat)*(Rel.ids (r.kids.getD n.toNat za)).ht+(7:Nat)<m) (obO (okRl w (Rel.ids (r.kids.getD n.toNat za))) (some (zvu (z9e w (Rel.ids (r.kids.getD n.toNat za)))))))):=by kernel_rfl
theorem z1u2(m:Nat)(w:Wld)(r:Rel)(n:Int)(_hw:WS .wld w)(_hr:WS .rel r)(_hn:WI n)(hm:8*r.ht+4<m+1)(h:zf3 w r n):z1b2 m w r n=some (zvu (zp w r n)):=by
 obtain⟨h0,l,hl⟩:=h;obtain⟨k,rfl⟩:∃k:Nat,n=k:=⟨n.toNat,(y3u h0).symm⟩;rw[y5]at hl;rw[zw5 hl];rw[z1ce]at hl;rw[z25b];simp only[z8,Rel.ids_eq,decide_eq_true_eq,y5];by_cases c:k<r.kids.length
 ·rw[if_pos c]at hl;have hk:(r.kids.getD k za).ht<r.ht:=Rel.ht_kid (z8i c);rw[if_neg (by omega),z6 (by omega),z6 (by omega),z6 ⟨l,hl⟩,z36 hl]
 ·rw[if_neg c]at hl;obtain rfl:=yj hl;rw[if_pos (by omega)]
theorem z1zn(m:Nat)(hG:z7a m):FnOK 91 (z86 (m+1)):=fnK3 zr zr z1c (M:=(z1b0 m)) rfl ⟨hG.2.2.2.2.2.1,trivial⟩ trivial trivial trivial trivial Tryz.func91 fun w r n=>GiF.r fun w1 o=>z1u2 m w r n (wfA_ w1 0) (wfA_ w1 1) (wfA_ w1 2) (obA_ o 0) (obA_ o 1)
def z1gf(m:Nat):Mc Un:=mcF_ [(84,z160),(85,zmx),(86,zn9 m),(87,zk6 m),(88,zsa m),(89,zoc m),(91,z86 m),(90,zvw),(92,zw4 m)] [] [] [(93,zn3),(94,zn4)] []
def z1b3(m:Nat)(w:Wld)(r:Rel):Option (RF Un):=fnF_ (z1gf m) z26d Tryz.f45 0 [.m] [.d (.agg (enc Ty.wld w)),.d (.agg (enc Ty.rel r))]
theorem z25c(m:Nat)(w:Wld)(r:Rel):z1b3 m w r=cndO (r.op==1) (obO (dbOK w.db) (some (zvu (z6e w r.table)))) (cndO (r.op==2) (obO (r.rows.length≤(1000000000:Nat)) (some (zvu (r.rows)))) (cndO (r.op==3) (obO ((8:Nat)*(Rel.ids r).ht+(6:Nat)<m) (obO (z1jg w (Rel.ids r)) (some (zvu (za8 w (Rel.ids r)))))) (cndO (r.op==4) (obO ((8:Nat)*(Rel.ids r).ht+(6:Nat)<m) (obO (z1as w (Rel.ids r)) (some (zvu (z8m w (Rel.ids r)))))) (cndO (r.op==5) (obO ((8:Nat)*(Rel.ids r).ht+(6:Nat)<m) (obO (z1ps w (Rel.ids r)) (some (zvu (zbf w (Rel.ids r)))))) (cndO (r.op==6) (obO ((8:Nat)*(Rel.ids r).ht+(6:Nat)<m) (obO (z1ps w (Rel.ids r)) (some (zvu (zbf w (Rel.ids r)))))) (cndO (r.op==7) (obO ((8:Nat)*(Rel.ids r).ht+(6:Nat)<m) (obO (z1tv w (Rel.ids r)) (some (zvu (zbx w (Rel.ids r)))))) (cndO (r.op==8) (obO ((8:Nat)*(Rel.ids r).ht+(4:Nat)<m) (obO (zf3 w (Rel.ids r) (0:Int)) (obO ((zp w (Rel.ids r) (0:Int)).length≤(100000000:Nat)) (some (zvu (z13 (zp w (Rel.ids r) (0:Int)))))))) (cndO (r.op==9) (obO ((8:Nat)*(Rel.ids r).ht+(6:Nat)<m) (obO (z1pt w (Rel.ids r)) (some (zvu (zbg w (Rel.ids r)))))) (cndO (r.op==10) (obO ((8:Nat)*(Rel.ids r).ht+(6:Nat)<m) (obO (z1pt w (Rel.ids r)) (some (zvu (zbg w (Rel.ids r)))))) (cndO (r.op==11) (obO ((8:Nat)*(Rel.ids r).ht+(6:Nat)<m) (obO (z1pt w (Rel.ids r)) (some (zvu (zbg w (Rel.ids r)))))) (cndO (r.op==12) (obO ((8:Nat)*(Rel.ids r).ht+(4:Nat)<m) (obO (zf3 w (Rel.ids r) (0:Int)) (obO ((zp w (Rel.ids r) (0:Int)).length≤(100000000:Nat)) (some (zvu (z53 (zp w (Rel.ids r) (0:Int)) r.keys)))))) (cndO (r.op==13) (obO ((8:Nat)*(Rel.ids r).ht+(4:Nat)<m) (obO (zf3 w (Rel.ids r) (0:Int)) (obO ((zp w (Rel.ids r) (0:Int)).length≤(100000000:Nat)) (some (zvu (z3i (zp w (Rel.ids r) (0:Int)) r.limit r.skip)))))) (some (zvu ([]))))))))))))))):=by kernel_rfl
theorem z1u3(m:Nat)(w:Wld)(r:Rel)(_hw:WS .wld w)(_hr:WS .rel r)(hm:8*r.ht+7<m+1)(h:okRl w r):z1b3 m w r=some (zvu (z9e w r)):=by
 obtain⟨v,hv⟩:=h;rw[z36 hv];rw[z1cd,y6]at hv;obtain⟨s,hs,hc⟩:=hv;obtain⟨rfl,hlen⟩:=zxy hc;clear hc;rw[z25c];simp only[z8,Rel.ids_eq,beq_iff_eq];by_cases c1:r.op=1
 ·rw[if_pos c1]at hs ⊢;obtain⟨h1,h2⟩:=chkQ_some.1 hs;rw[z6 h1,yj h2]
 rw[if_neg c1]at hs ⊢;by_cases c2:r.op=2
 ·rw[if_pos c2]at hs ⊢;obtain rfl:=yj hs;rw[z6 (by omega)]
 rw[if_neg c2]at hs ⊢;by_cases c3:r.op=3
 ·rw[if_pos c3]at hs ⊢;have e:za8 w r=s:=by unfold za8 z1cf;rw[hs];rfl
  rw[z6 (by omega),z6 ⟨s,hs⟩,e]
 rw[if_neg c3]at hs ⊢;by_cases c4:r.op=4
 ·rw[if_pos c4]at hs ⊢;have e:z8m w r=s:=by unfold z8m z13z;rw[hs];rfl
  rw[z6 (by omega),z6 ⟨s,hs⟩,e]
 rw[if_neg c4]at hs ⊢;by_cases c5:r.op=5∨r.op=6
 ·rw[if_pos c5]at hs;have e:zbf w r=s:=by unfold zbf z206;rw[hs];rfl
  rcases c5 with c|c
  ·rw[if_pos c,z6 (by omega),z6 ⟨s,hs⟩,e]
  ·rw[if_neg (by omega),if_pos c,z6 (by omega),z6 ⟨s,hs⟩,e]
 rw[if_neg c5]at hs;rw[if_neg (fun e=>c5 (.inl e)),if_neg (fun e=>c5 (.inr e))];by_cases c7:r.op=7
 ·rw[if_pos c7]at hs ⊢;have e:zbx w r=s:=by unfold zbx z1pr;rw[hs];rfl
  rw[z6 (by omega),z6 ⟨s,hs⟩,e]
 rw[if_neg c7]at hs ⊢;by_cases c8:r.op=8
 ·rw[if_pos c8]at hs ⊢;obtain⟨l,hl,h4⟩:=y6.1 hs;have hk:=zby hl;rw[z6 (by omega),z6 (zrb hl),z5t hl,z6 hk,yj h4]
 rw[if_neg c8]at hs ⊢;by_cases c9:r.op=9∨r.op=10∨r.op=11
 ·rw[if_pos c9]at hs;have e:zbg w r=s:=by unfold zbg nSet;rw[hs];rfl
  rcases c9 with c|c|c
  ·rw[if_pos c,z6 (by omega),z6 ⟨s,hs⟩,e]
  ·rw[if_neg (by omega),if_pos c,z6 (by omega),z6 ⟨s,hs⟩,e]
  ·rw[if_neg (by omega),if_neg (by omega),if_pos c,z6 (by omega),z6 ⟨s,hs⟩,e]
 rw[if_neg c9]at hs;rw[if_neg (fun e=>c9 (.inl e)),if_neg (fun e=>c9 (.inr (.inl e))),if_neg (fun e=>c9 (.inr (.inr e)))];by_cases c12:r.op=12
 ·rw[if_pos c12]at hs ⊢;obtain⟨l,hl,h4⟩:=y6.1 hs;have hk:=zby hl;rw[z6 (by omega),z6 (zrb hl),z5t hl,z6 hk,yj h4]
 rw[if_neg c12]at hs ⊢;by_cases c13:r.op=13
 ·rw[if_pos c13]at hs ⊢;obtain⟨l,hl,h4⟩:=y6.1 hs;have hk:=zby hl;rw[z6 (by omega),z6 (zrb hl),z5t hl,z6 hk,yj h4]
 rw[if_neg c13]at hs ⊢;rw[yj hs]
theorem z1zo(m:Nat)(hG:z7a m):FnOK 45 (zn8 (m+1)):=fnK2 zr zr (M:=(z1gf m)) rfl ⟨z1to,zry,hG.2.2.2.2.2.2.1,hG.2.2.2.2.2.2.2.1,hG.2.2.2.2.2.2.2.2.1,hG.2.2.2.2.2.2.2.2.2.2.1,hG.2.2.2.2.1,z15y,hG.2.2.2.2.2.2.2.2.2.2.2,trivial⟩ trivial trivial ⟨z1d6,z1d9,trivial⟩ trivial Tryz.func45 fun w r=>GiF.r fun w1 o=>z1u3 m w r (wfA_ w1 0) (wfA_ w1 1) (obA_ o 0) (obA_ o 1)
def zhe(m:Nat):Mc Un:=mcF_ [(91,z86 m),(136,zq2 m)] [] [] [] []
def zoe:Nat→NS:=nsF_ [(3,{ts:=bl 27 7212,bs:=bl 27 12,nm:=[(.sl 10,108),(.sl 5,109)],cs:=true})] true
def z6t(w:Wld)(r:Rel)(v0:Int)(v1:List (List Val)):S Un:=(st 27 27 110 0 [(2,ax 2),(3,ax 3),(5,ao 109),(10,ao 108),(11,ai (↑(zp w (Rel.ids r) (0:Int)).length:Int)),(12,ai v0)] [(2,bg .wld w),(3,bg .rel r)] [(108,some ⟨(0:Nat),Ty.row,zp w (Rel.ids r) (0:Int),some (0:Nat),true⟩),(109,some ⟨(0:Nat),Ty.row,v1,some (0:Nat),true⟩)])
def zbh(m:Nat):S Un→Option (EX Un):=lpF_ (zhe m) zoe Tryz.f86 [1,1,0,1,2,2] 3
def zxz(m:Nat):Exit→S Un→Option (RF Un):=cxF_ (zhe m) zoe Tryz.f86 [1,1,0,1,2] [.m]
def zy0(m:Nat)(w:Wld)(r:Rel):Option (RF Un):=fnF_ (zhe m) zoe Tryz.f86 2 [.m] [.d (.agg (enc Ty.wld w)),.d (.agg (enc Ty.rel r))]
theorem z1qe(m:Nat)(w:Wld)(r:Rel):zy0 m w r=obO ((8:Nat)*(Rel.ids r).ht+(4:Nat)<m) (obO (zf3 w (Rel.ids r) (0:Int)) ((zbh m (z6t w r (0:Int) ([]))).bind (zd (zxz m)))):=by kernel_rfl
theorem zy1(m:Nat)(w:Wld)(r:Rel)(v0:Int)(v1:List (List Val)):zbh m (z6t w r v0 v1)=cndO (decide (v0<(↑(zp w (Rel.ids r) (0:Int)).length:Int))) (obO (0≤v0∧v0<(↑(zp w (Rel.ids r) (0:Int)).length:Int)) (obO ((8:Nat)*htTs r.terms+(8:Nat)<m) (obO (okSo w r.terms ((zp w (Rel.ids r) (0:Int)).getD v0.toNat [])) (cndO (zdn w r.terms ((zp w (Rel.ids r) (0:Int)).getD v0.toNat [])) (obO ((v1.length+[(zp w (Rel.ids r) (0:Int)).getD v0.toNat []].length)*(24:Nat)≤zh) (zbh m (z6t w r (IntKind.i64.wrap (v0+1)) (v1++[(zp w (Rel.ids r) (0:Int)).getD v0.toNat []])))) (zbh m (z6t w r (IntKind.i64.wrap (v0+1)) v1)))))) (some (.exit 0,(z6t w r v0 v1))):=lpQ_ (by kernel_rfl)
theorem z1b4(m:Nat)(w:Wld)(r:Rel)(v0:Int)(v1:List (List Val)):zxz m (.exit 0) (z6t w r v0 v1)=some (zvu (v1)):=by kernel_rfl
theorem z1db(m:Nat)(w:Wld)(r:Rel)(_hw:WS .wld w)(_hr:WS .rel r)(hm:8*r.ht+6<m+1)(h:z1jg w r):zy0 m w r=some (zvu (za8 w r)):=by
 obtain⟨v,hv⟩:=h;have e:za8 w r=v:=by unfold za8;rw[hv];rfl
 rw[e];unfold z1cf filO at hv;split at hv
 ·rename_i hE;obtain⟨l,hl,hf⟩:=y6.1 hv;have hll:=zby hl;have ht:=Rel.ht_terms r;have hmem:=z1x4 hf
  obtain⟨lp,_⟩:=z1n (e:=.exit 0) (L:=zbh m) (st:=fun(o:Rows) i=>z6t w r i o) (l:=l) (d:=[]) (g:=fun o x=>if zdn w r.terms x=true then o++[x]else o) (fun i o=>o.length≤i) (by omega)
   (fun o i x hi hx hI=>by
    have hI':o.length≤i:=hI;have hxm:x∈l:=by rw[←hx];exact z8i (by omega)
    obtain⟨b,hb⟩:=hmem x hxm;rw[zy1];simp only[z8,Rel.ids_eq,z5t hl,hi,decide_true,if_true,and_true,y5,hx];rw[z6 (by omega),z6 (by omega),z6 ⟨hE,b,hb⟩];by_cases hp:zdn w r.terms x=true
    ·rw[if_pos hp,if_pos hp,z6 (by unfold zh;rw[yg];omega)];exact⟨by show(o++[x]).length≤i+1;rw[ya,yg];omega,rfl⟩
    ·rw[if_neg hp,if_neg hp]
     exact⟨by show o.length≤i+1;omega,rfl⟩)
   (fun o _=>by rw[zy1];simp only[z8,Rel.ids_eq,z5t hl];rw[if_neg (by simp)]) [] (y7 _)
  have hfo:=z1pv (zdn w r.terms) [] hf (fun x hx b hb=>zzp hb);rw[yx]at hfo;rw[z1qe,Rel.ids_eq,z6 (by omega),z6 (zrb hl)];refine(zg lp).trans ?_;rw[z1b4,hfo]
 ·simp at hv
theorem z1jr(m:Nat)(hG:z7a m):FnOK 86 (zn9 (m+1)):=fnK2 zr zr (M:=(zhe m)) rfl ⟨hG.2.2.2.2.1,hG.2.2.2.1,trivial⟩ trivial trivial trivial trivial Tryz.func86 fun w r=>GiF.r fun w1 o=>z1db m w r (wfA_ w1 0) (wfA_ w1 1) (obA_ o 0) (obA_ o 1)
def zf4(m:Nat):Mc Un:=mcF_ [(91,z86 m),(137,zdl),(121,z67 m)] [] [] [] []
def zdp(m:Nat):S Un→Option (EX Un):=lpF_ (zf4 m) zoe Tryz.f87 [1,1,0,1,2,2] 3
def zw6(m:Nat):Exit→S Un→Option (RF Un):=cxF_ (zf4 m) zoe Tryz.f87 [1,1,0,1,2] [.m]
def zw7(m:Nat)(w:Wld)(r:Rel):Option (RF Un):=fnF_ (zf4 m) zoe Tryz.f87 2 [.m] [.d (.agg (enc Ty.wld w)),.d (.agg (enc Ty.rel r))]
theorem z1js(m:Nat)(w:Wld)(r:Rel):zw7 m w r=obO ((8:Nat)*(Rel.ids r).ht+(4:Nat)<m) (obO (zf3 w (Rel.ids r) (0:Int)) ((zdp m (z6t w r (0:Int) ([]))).bind (zd (zw6 m)))):=by kernel_rfl
theorem zw8(m:Nat)(w:Wld)(r:Rel)(v0:Int)(v1:List (List Val)):zdp m (z6t w r v0 v1)=cndO (decide (v0<(↑(zp w (Rel.ids r) (0:Int)).length:Int))) (obO (0≤v0∧v0<(↑(zp w (Rel.ids r) (0:Int)).length:Int)) (obO (w.env.length≤(100000000:Nat)) (obO ((8:Nat)*htTs r.terms+(8:Nat)<m) (obO (okTs (zj w ((zp w (Rel.ids r) (0:Int)).getD v0.toNat [])) r.terms) (obO ((v1.length+[z54 (zj w ((zp w (Rel.ids r) (0:Int)).getD v0.toNat [])) r.terms].length)*(24:Nat)≤zh) (zdp m (z6t w r (IntKind.i64.wrap (v0+1)) (v1++[z54 (zj w ((zp w (Rel.ids r) (0:Int)).getD v0.toNat [])) r.terms])))))))) (some (.exit 0,(z6t w r v0 v1))):=lpQ_ (by kernel_rfl)
theorem z16h(m:Nat)(w:Wld)(r:Rel)(v0:Int)(v1:List (List Val)):zw6 m (.exit 0) (z6t w r v0 v1)=some (zvu (v1)):=by kernel_rfl
theorem z1b5(m:Nat)(w:Wld)(r:Rel)(_hw:WS .wld w)(_hr:WS .rel r)(hm:8*r.ht+6<m+1)(h:z1as w r):zw7 m w r=some (zvu (z8m w r)):=by
 obtain⟨v,hv⟩:=h;have e:z8m w r=v:=by unfold z8m;rw[hv];rfl
 rw[e];unfold z13z z1cb at hv;split at hv
 ·rename_i hE;obtain⟨l,hl,hf⟩:=y6.1 hv;have hll:=zby hl;have ht:=Rel.ht_terms r;have hmem:=zvz hf
  obtain⟨lp,_⟩:=z1n (e:=.exit 0) (L:=zdp m) (st:=fun(o:Rows) i=>z6t w r i o) (l:=l) (d:=[]) (g:=fun o x=>o++[z54 (zj w x) r.terms]) (fun i o=>o.length=i) (by omega)
   (fun o i x hi hx hI=>by
    have hI':o.length=i:=hI;have hxm:x∈l:=by rw[←hx];exact z8i (by omega)
    obtain⟨b,hb⟩:=hmem x hxm;refine⟨by show(o++[_]).length=i+1;rw[ya,yg];omega,?_⟩;rw[zw8];simp only[z8,Rel.ids_eq,z5t hl,hi,decide_true,if_true,and_true,y5,hx]
    rw[z6 (by omega),z6 hE.1,z6 (by omega),z6 ⟨hE.2,b,hb⟩,z6 (by unfold zh;rw[yg];omega)])
   (fun o _=>by rw[zw8];simp only[z8,Rel.ids_eq,z5t hl];rw[if_neg (by simp)]) [] rfl
  rw[zg4,yx,zw0 (fun x=>z54 (zj w x) r.terms) hf (fun x hx y hy=>zhd hy)]at lp;rw[z1js,Rel.ids_eq,z6 (by omega),z6 (zrb hl)];refine(zg lp).trans ?_;rw[z16h]
 ·simp at hv
theorem z1dc(m:Nat)(hG:z7a m):FnOK 87 (zk6 (m+1)):=fnK2 zr zr (M:=(zf4 m)) rfl ⟨hG.2.2.2.2.1,zpz,hG.2.2.1,trivial⟩ trivial trivial trivial trivial Tryz.func87 fun w r=>GiF.r fun w1 o=>z1b5 m w r (wfA_ w1 0) (wfA_ w1 1) (obA_ o 0) (obA_ o 1)
def zcx(m:Nat):Mc Un:=mcF_ [(91,z86 m),(138,z1ax),(136,zq2 m)] [] [] [] []
def z87:Nat→NS:=nsF_ [(7,{ts:=bl 72 7516193004,bs:=bl 72 12,nm:=[(.sl 5,288),(.sl 6,289),(.sl 30,290),(.sl 7,291)],cs:=true}),(11,{ts:=bl 72 488552531692,bs:=bl 72 12,nm:=[(.sl 5,292),(.sl 6,293),(.sl 30,294),(.sl 7,295)],cs:=true})] true
def z30(w:Wld)(r:Rel):=zp w (Rel.mk r.op r.table r.cols r.kids r.terms r.aggs r.keys r.limit r.skip r.all r.rows) (0:Int)
def z72(w:Wld)(r:Rel):=zp w (Rel.mk r.op r.table r.cols r.kids r.terms r.aggs r.keys r.limit r.skip r.all r.rows) (1:Int)
def zjn(w:Wld)(r:Rel)(v0:Int)(v4:Int):=z8y [(z30 w r).getD v0.toNat [],(z72 w r).getD v4.toNat []]
def z44(w:Wld)(r:Rel)(v0:Int)(v1:Option Nat)(v2:List (List Val)):S Un:=(st 72 72 296 0 [(2,ax 2),(3,ax 3),(5,ao 288),(6,ao 289),(7,ao 291),(30,ao 290),(31,ai (↑(z30 w r).length:Int)),(32,ai v0)] [(2,bg .wld w),(3,bg .rel r)] [(288,some ⟨(0:Nat),Ty.row,zp w (Rel.ids r) (1:Int),some (0:Nat),true⟩),(289,some ⟨(0:Nat),Ty.val,List.replicate (↑(Rel.cols (r.kids.getD 1 za)).length:Int).toNat z7,v1,true⟩),(290,some ⟨(0:Nat),Ty.row,zp w (Rel.ids r) (0:Int),some (0:Nat),true⟩),(291,some ⟨(0:Nat),Ty.row,v2,some (0:Nat),true⟩)])
def z57(w:Wld)(r:Rel)(v0:Int)(v1:Option Nat)(v2:List (List Val))(v3:Bool)(v4:Int):S Un:=(st 72 72 296 0 [(2,ax 2),(3,ax 3),(5,ao 292),(6,ao 293),(7,ao 295),(9,al .val ((z30 w r).getD v0.toNat [])),(10,ab v3),(30,ao 294),(31,ai (↑(z30 w r).length:Int)),(32,ai v0),(36,ao 292),(37,ai (↑(z72 w r).length:Int)),(38,ai v4)] [(2,bg .wld w),(3,bg .rel r)] [(292,some ⟨(0:Nat),Ty.row,zp w (Rel.ids r) (1:Int),some (0:Nat),true⟩),(293,some ⟨(0:Nat),Ty.val,List.replicate (↑(Rel.cols (r.kids.getD 1 za)).length:Int).toNat z7,v1,true⟩),(294,some ⟨(0:Nat),Ty.row,zp w (Rel.ids r) (0:Int),some (0:Nat),true⟩),(295,some ⟨(0:Nat),Ty.row,v2,some (0:Nat),true⟩)])
def z5u(m:Nat):S Un→Option (EX Un):=lpF_ (zcx m) z87 Tryz.f88 [1,1,1,1,1,0,1,2,2] 7
noncomputable def z120:Code:=sub (sub (ze Tryz.f88) [1,1,1,1,1,0,1,2,2]) [1,1,0,2,1,1,0,1,2,2]
def zcy(m:Nat):S Un→Option (EX Un):=z1k (z87 11) (fun s Q=>awf (zcx m) z87 z120 s Q)
def zsc(m:Nat):Exit→S Un→Option (RF Un):=cxF_ (zcx m) z87 Tryz.f88 [1,1,1,1,1,0,1,2] [.m]
def zof(m:Nat):Exit→S Un→Option (EX Un):=ctxF (zcx m) z87 (sub (ze Tryz.f88) [1,1,1,1,1,0,1,2,2]) [1,1,0,2,1,1,0,1,2] (zc4 (z87 7) (z5u m))
def z16c(m:Nat)(w:Wld)(r:Rel):Option (RF Un):=fnF_ (zcx m) z87 Tryz.f88 8 [.m] [.d (.agg (enc Ty.wld w)),.d (.agg (enc Ty.rel r))]
theorem z1zp(m:Nat)(w:Wld)(r:Rel):z16c m w r=cndO (decide ((↑r.kids.length:Int)<(2:Int))) (some (zvu ([]))) (obO ((8:Nat)*(Rel.ids r).ht+(4:Nat)<m) (obO (zf3 w (Rel.ids r) (1:Int)) (obO ((0:Int)≤(1:Int)∧(1:Int)<(↑r.kids.length:Int)) (obO ((0:Int)≤(↑(Rel.cols (r.kids.getD 1 za)).length:Int)∧(↑(Rel.cols (r.kids.getD 1 za)).length:Int)≤(↑(Rel.cols (r.kids.getD 1 za)).length:Int)∧(↑(Rel.cols (r.kids.getD 1 za)).length:Int).toNat*(32:Nat)≤zh) (obO ((8:Nat)*(Rel.ids r).ht+(4:Nat)<m) (obO (zf3 w (Rel.ids r) (0:Int)) ((z5u m (z44 w r (0:Int) (some (0:Nat)) ([]))).bind (zd (zsc m))))))))):=by kernel_rfl
theorem z16d(m:Nat)(w:Wld)(r:Rel)(v0:Int)(v1:Option Nat)(v2:List (List Val)):z5u m (z44 w r v0 v1 v2)=cndO (decide (v0<(↑(z30 w r).length:Int))) (obO (0≤v0∧v0<(↑(z30 w r).length:Int)) ((zcy m (z57 w r v0 v1 v2 false (0:Int))).bind (zd (zof m)))) (some (.exit 0,(z44 w r v0 v1 v2))):=lpQ_ (by kernel_rfl)
theorem z1jt(m:Nat)(w:Wld)(r:Rel)(v0:Int)(v1:Option Nat)(v2:List (List Val)):zsc m (.exit 0) (z44 w r v0 v1 v2)=some (zvu (v2)):=by kernel_rfl
theorem z121(m:Nat)(w:Wld)(r:Rel)(v0:Int)(v1:Option Nat)(v2:List (List Val))(v3:Bool)(v4:Int):zcy m (z57 w r v0 v1 v2 v3 v4)=cndO (decide (v4<(↑(z72 w r).length:Int))) (obO (0≤v4∧v4<(↑(z72 w r).length:Int)) (obO ([(z30 w r).getD v0.toNat [],(z72 w r).getD v4.toNat []].flatten.length≤(1000000000:Nat)) (obO ((8:Nat)*htTs r.terms+(8:Nat)<m) (obO (okSo w r.terms (zjn w r v0 v4)) (cndO (zdn w r.terms (zjn w r v0 v4)) (obO ((v2.length+[z8y [(z30 w r).getD v0.toNat [],(z72 w r).getD v4.toNat []]].length)*(24:Nat)≤zh) (zcy m (z57 w r v0 v1 (v2++[z8y [(z30 w r).getD v0.toNat [],(z72 w r).getD v4.toNat []]]) true (IntKind.i64.wrap (v4+1))))) (zcy m (z57 w r v0 v1 v2 v3 (IntKind.i64.wrap (v4+1))))))))) (some (.exit 2,(z57 w r v0 v1 v2 v3 v4))):=(zbk (z87 11) z120 _).trans (by kernel_rfl)
theorem z1dd(m:Nat)(w:Wld)(r:Rel)(v0:Int)(v1:Option Nat)(v2:List (List Val))(v3:Bool)(v4:Int):zof m (.exit 2) (z57 w r v0 v1 v2 v3 v4)=cndO (!v3) (cndO (r.op==6) (obO ([(z30 w r).getD v0.toNat [],List.replicate (↑(Rel.cols (r.kids.getD 1 za)).length:Int).toNat z7].flatten.length≤(1000000000:Nat)) (obO ((v2.length+[z8y [(z30 w r).getD v0.toNat [],List.replicate (↑(Rel.cols (r.kids.getD 1 za)).length:Int).toNat z7]].length)*(24:Nat)≤zh) (z5u m (z44 w r (IntKind.i64.wrap (v0+1)) none (v2++[z8y [(z30 w r).getD v0.toNat [],List.replicate (↑(Rel.cols (r.kids.getD 1 za)).length:Int).toNat z7]]))))) (z5u m (z44 w r (IntKind.i64.wrap (v0+1)) v1 v2))) (z5u m (z44 w r (IntKind.i64.wrap (v0+1)) v1 v2)):=by kernel_rfl
theorem z1qf(m:Nat)(w:Wld)(r:Rel)(_hw:WS .wld w)(_hr:WS .rel r)(hm:8*r.ht+6<m+1)(h:z1ps w r):z16c m w r=some (zvu (zbf w r)):=by
 obtain⟨v,hv⟩:=h;have e:zbf w r=v:=by unfold zbf;rw[hv];rfl
 rw[e];have ht:=Rel.ht_terms r;unfold z206 z1cc at hv;rw[z1zp];simp only[z8,Rel.ids_eq,decide_eq_true_eq];by_cases c:r.kids.length<2
 ·rw[if_pos c]at hv;obtain rfl:=yj hv;rw[if_pos (by omega)]
 rw[if_neg c]at hv;rw[if_neg (by omega)];split at hv
 ·rename_i hc;obtain⟨hE,hC⟩:=hc;obtain⟨right,hR,hv⟩:=y6.1 hv;obtain⟨l,hL,hv⟩:=y6.1 hv;obtain⟨s,hS,hv⟩:=y6.1 hv;obtain⟨rfl,hlen⟩:=zxy hv;have hrl:=zby hR;have hll:=zby hL;have e1:z30 w r=l:=z5t hL;have e2:z72 w r=right:=ztl hR;have ecc:∀a b:List Val,z8y [a,b]=a++b:=fun a b=>by unfold z8y;simp
  have efl:∀a b:List Val,[a,b].flatten.length=a.length+b.length:=fun a b=>by simp
  have inner:∀(i:Nat)(fr:Option Nat)(a:List Val),l.getD i []=a→∀(q:Rows)(j:Nat)(out:Rows)(met:Bool)(u:Rows),right.drop j=q→j≤right.length→
    zdm (fun x=>if x.length≤100000000 then nSo r.terms (zj w x)else none) (q.map (a++·))=some u→out.length+u.length≤100000000→
    zcy m (z57 w r (i:Int) fr out met (j:Int))=some (.exit 2,z57 w r (i:Int) fr (out++u) (met||decide (0<u.length)) (right.length:Int)):=by
   intro i fr a ha q
   induction q with
   |nil=>
    intro j out met u hr hj hu ho;have hjl:right.length≤j:=by rw[←y1o];exact hr
    obtain rfl:j=right.length:=by omega
    simp only[y1n,zdm,y8]at hu;subst hu;rw[z121,e2,z8,if_neg (by simp)];simp
   |cons b q ih=>
    intro j out met u hr hj hu ho;obtain⟨a1,a2,a3,hmem⟩:=z32 hr;have hb:right.getD j []=b:=a2 [];rw[yw]at hu;obtain⟨y,u',h1,h2,h3⟩:=z140 hu;split at h1
    ·rename_i hab;rw[ya]at hab;have e3:zjn w r (i:Int) (j:Int)=a++b:=by unfold zjn;rw[e1,e2,y5,y5,ha,hb,ecc]
     rw[z121,e1,e2,e3];simp only[z8,y5,ha,hb,ecc,efl];rw[if_pos (by simp;omega),z6 (by omega),z6 (by omega),z6 (by omega),z6 ⟨hE,y,h1⟩,zzp h1,z3e a1 (by omega)];cases y with
     |true=>
      rw[if_pos rfl]at h3 ⊢;subst h3;rw[yr]at ho;rw[z6 (by unfold zh;rw[yg];omega),ih (j+1) (out++[a++b]) true u' a3 (by omega) h2 (by rw[ya,yg];omega)];simp
     |false=>
      rw[if_neg (by simp)]at h3 ⊢;subst h3;exact ih (j+1) out met _ a3 (by omega) h2 ho
    ·simp at h1
  have outer:∀(q:Rows)(i:Nat)(fr:Option Nat)(out:Rows)(s:Rows),l.drop i=q→i≤l.length→
    zxx (decide (r.op=6)) (List.replicate (r.kids.getD 1 za).cols.length z7) (fun x=>if x.length≤100000000 then nSo r.terms (zj w x)else none) right q=some s→out.length+s.length≤100000000→
    (z5u m (z44 w r (i:Int) fr out)).bind (zd (zsc m))=some (zvu (out++s)):=by
   intro q
   induction q with
   |nil=>
    intro i fr out s hr hi hs ho;have hil:l.length≤i:=by rw[←y1o];exact hr
    simp only[zxx,y8]at hs;subst hs;have e:z5u m (z44 w r (i:Int) fr out)=some (.exit 0,z44 w r (i:Int) fr out):=by rw[z16d,e1,z8,if_neg (by simp;omega)]
    rw[zg e,z1jt,y14]
   |cons a q ih=>
    intro i fr out s hr hi hs ho;obtain⟨a1,a2,a3,hmem⟩:=z32 hr;have ha:l.getD i []=a:=a2 [];simp only[zxx,y6]at hs;obtain⟨u,hu,z,hz,s',hs',h3⟩:=hs;obtain rfl:=yj h3;rw[ya]at ho;have hzu:u.length≤z.length:=by
     split at hz
     ·rename_i hc;omega
     ·rw[yj hz];exact y7 _
    have e:z5u m (z44 w r (i:Int) fr out)=zof m (.exit 2) (z57 w r (i:Int) fr (out++u) (false||decide (0<u.length)) (right.length:Int)):=by
     rw[z16d,e1,z8,if_pos (by simp;omega),z6 (by omega)];exact zg (inner i fr a ha right 0 out false u rfl (yb _) hu (by omega))
    rw[e,z1dd,e1];simp only[z8,y5,ha,ecc,efl,y3m,z3e a1 (show l.length≤9223372036854775807 by omega),beq_iff_eq];by_cases d:u.length=0
    ·rw[if_pos (by simp[d])];obtain rfl:=yy d;by_cases d6:r.op=6
     ·rw[if_pos d6];rw[if_pos ⟨d,by simp[d6]⟩]at hz;split at hz
      ·rename_i hab;obtain rfl:=yj hz;rw[ya,y36]at hab;rw[yg]at ho;rw[z6 (by rw[y36];omega),z6 (by unfold zh;rw[yg,y14];omega),y14];rw[ih (i+1) none _ s' a3 (by omega) hs' (by rw[ya,yg];omega)];simp
      ·simp at hz
     ·rw[if_neg d6];rw[if_neg (fun e=>d6 (by simpa using e.2))]at hz;obtain rfl:=yj hz;rw[y14,ih (i+1) fr out s' a3 (by omega) hs' (by simpa using ho)];simp
    ·rw[if_neg (by rw[decide_eq_true (Nat.pos_of_ne_zero d)];decide)];rw[if_neg (fun e=>d e.1)]at hz;obtain rfl:=yj hz;rw[ih (i+1) fr (out++u) s' a3 (by omega) hs' (by rw[ya];omega),y11]
  rw[z6 (by omega),z6 (z2ha hR),z6 (by omega),z6 (by rw[y5];refine⟨by omega,by omega,?_⟩;unfold zh;omega),z6 (by omega),z6 (zrb hL)];have:=outer l 0 (some 0) [] s rfl (yb _) hS (by simpa using hlen);exact this
 ·simp at hv
theorem z1u4(m:Nat)(hG:z7a m):FnOK 88 (zsa (m+1)):=fnK2 zr zr (M:=(zcx m)) rfl ⟨hG.2.2.2.2.1,z1zg,hG.2.2.2.1,trivial⟩ trivial trivial trivial trivial Tryz.func88 fun w r=>GiF.r fun w1 o=>z1qf m w r (wfA_ w1 0) (wfA_ w1 1) (obA_ o 0) (obA_ o 1)
def z73(m:Nat):Mc Un:=mcF_ [(91,z86 m),(139,za9 m),(140,z1g1),(137,zdl),(67,z8n m),(141,z1wv)] [] [] [] []
def z31:Nat→NS:=nsF_ [(3,{ts:=bl 76 7340076,bs:=bl 76 12,nm:=[(.sl 5,304)],cs:=true}),(7,{ts:=bl 76 7523533228,bs:=bl 76 140,nm:=[(.sl 8,305),(.sl 5,306)],cs:=true}),(11,{ts:=bl 76 969596210604,bs:=bl 76 1164,nm:=[(.sl 11,307),(.sl 8,308),(.sl 5,309)],cs:=true})] true
def z1h(w:Wld)(r:Rel):=zp w (Rel.mk r.op r.table r.cols r.kids r.terms r.aggs r.keys r.limit r.skip r.all r.rows) (0:Int)
def zog(r:Rel)(v2:Int)(v5:List Val):=zer (Agg.mk (Agg.name (r.aggs.getD v2.toNat zq)) (Agg.distinct (r.aggs.getD v2.toNat zq)) (Agg.t (r.aggs.getD v2.toNat zq))) v5
def z9x(w:Wld)(r:Rel)(v0:Int)(v1:List (List Val)):S Un:=(st 76 76 310 0 [(2,ax 2),(3,ax 3),(5,ao 304),(20,al .bunch (z19 w (z1h w r) r.terms)),(21,ai (↑(z19 w (z1h w r) r.terms).length:Int)),(22,ai v0)] [(2,bg .wld w),(3,bg .rel r)] [(304,some ⟨(0:Nat),Ty.row,v1,some (0:Nat),true⟩)])
def z68(w:Wld)(r:Rel)(v0:Int)(v1:List (List Val))(v2:Int)(v3:List Val):S Un:=(st 76 76 310 0 [(2,ax 2),(3,ax 3),(5,ao 306),(7,ax 7),(8,ao 305),(20,al .bunch (z19 w (z1h w r) r.terms)),(21,ai (↑(z19 w (z1h w r) r.terms).length:Int)),(22,ai v0),(30,al .agg r.aggs),(31,ai (↑r.aggs.length:Int)),(32,ai v2)] [(2,bg .wld w),(3,bg .rel r),(7,some (false,encC Ty.bunch ((z19 w (z1h w r) r.terms).getD v0.toNat zn)))] [(305,some ⟨(0:Nat),Ty.val,v3,some (0:Nat),true⟩),(306,some ⟨(0:Nat),Ty.row,v1,some (0:Nat),true⟩)])
def z4m(w:Wld)(r:Rel)(v0:Int)(v2:Int)(v3:List Val)(v1:List (List Val))(v4:Int)(v5:List Val):S Un:=(st 76 76 310 0 [(2,ax 2),(3,ax 3),(5,ao 309),(7,ax 7),(8,ao 308),(10,ax 10),(11,ao 307),(20,al .bunch (z19 w (z1h w r) r.terms)),(21,ai (↑(z19 w (z1h w r) r.terms).length:Int)),(22,ai v0),(30,al .agg r.aggs),(31,ai (↑r.aggs.length:Int)),(32,ai v2),(37,AV.one (A.c (C.sl Ty.row ((z19 w (z1h w r) r.terms).getD v0.toNat zn).rows false))),(38,ai (↑((z19 w (z1h w r) r.terms).getD v0.toNat zn).rows.length:Int)),(39,ai v4)] [(2,bg .wld w),(3,bg .rel r),(7,some (false,encC Ty.bunch ((z19 w (z1h w r) r.terms).getD v0.toNat zn))),(10,some (false,encC Ty.agg (r.aggs.getD v2.toNat zq)))] [(307,some ⟨(0:Nat),Ty.val,v5,some (0:Nat),true⟩),(308,some ⟨(0:Nat),Ty.val,v3,some (0:Nat),true⟩),(309,some ⟨(0:Nat),Ty.row,v1,some (0:Nat),true⟩)])
def zcz(m:Nat):S Un→Option (EX Un):=lpF_ (z73 m) z31 Tryz.f89 [1,1,0,1,2,2] 3
noncomputable def zoh:Code:=sub (sub (ze Tryz.f89) [1,1,0,1,2,2]) [1,1,0,2,1,1,0,1,2,2]
def z9y(m:Nat):S Un→Option (EX Un):=z1k (z31 7) (fun s Q=>awf (z73 m) z31 zoh s Q)
noncomputable def zy2:Code:=sub (sub (sub (ze Tryz.f89) [1,1,0,1,2,2]) [1,1,0,2,1,1,0,1,2,2]) [1,1,0,2,1,1,0,1,2,2]
def z8f(m:Nat):S Un→Option (EX Un):=z1k (z31 11) (fun s Q=>awf (z73 m) z31 zy2 s Q)
def z122(m:Nat):Exit→S Un→Option (RF Un):=cxF_ (z73 m) z31 Tryz.f89 [1,1,0,1,2] [.m]
def z123(m:Nat):Exit→S Un→Option (EX Un):=ctxF (z73 m) z31 (sub (ze Tryz.f89) [1,1,0,1,2,2]) [1,1,0,2,1,1,0,1,2] (zc4 (z31 3) (zcz m))
def zy3(m:Nat):Exit→S Un→Option (EX Un):=ctxF (z73 m) z31 zoh [1,1,0,2,1,1,0,1,2] (zc4 (z31 7) (z9y m))
def z124(m:Nat)(w:Wld)(r:Rel):Option (RF Un):=fnF_ (z73 m) z31 Tryz.f89 6 [.m] [.d (.agg (enc Ty.wld w)),.d (.agg (enc Ty.rel r))]
theorem z1u5(m:Nat)(w:Wld)(r:Rel):z124 m w r=obO ((8:Nat)*(Rel.ids r).ht+(4:Nat)<m) (obO (zf3 w (Rel.ids r) (0:Int)) (obO ((8:Nat)*htTs r.terms+(9:Nat)<m) (obO (z2ct w (z1h w r) r.terms) ((zcz m (z9x w r (0:Int) ([]))).bind (zd (z122 m)))))):=by kernel_rfl
theorem z125(m:Nat)(w:Wld)(r:Rel)(v0:Int)(v1:List (List Val)):zcz m (z9x w r v0 v1)=cndO (decide (v0<(↑(z19 w (z1h w r) r.terms).length:Int))) (obO (0≤v0∧v0<(↑(z19 w (z1h w r) r.terms).length:Int)) (obO (((z19 w (z1h w r) r.terms).getD v0.toNat zn).key.length≤(1000000000:Nat)) ((z9y m (z68 w r v0 v1 (0:Int) (((z19 w (z1h w r) r.terms).getD v0.toNat zn).key))).bind (zd (z123 m))))) (some (.exit 0,(z9x w r v0 v1))):=lpQ_ (by kernel_rfl)
theorem z1de(m:Nat)(w:Wld)(r:Rel)(v0:Int)(v1:List (List Val)):z122 m (.exit 0) (z9x w r v0 v1)=some (zvu (v1)):=by kernel_rfl
theorem z126(m:Nat)(w:Wld)(r:Rel)(v0:Int)(v1:List (List Val))(v2:Int)(v3:List Val):z9y m (z68 w r v0 v1 v2 v3)=cndO (decide (v2<(↑r.aggs.length:Int))) (obO (0≤v2∧v2<(↑r.aggs.length:Int)) ((z8f m (z4m w r v0 v2 v3 v1 (0:Int) ([]))).bind (zd (zy3 m)))) (some (.exit 2,(z68 w r v0 v1 v2 v3))):=(zbk (z31 7) zoh _).trans (by kernel_rfl)
theorem z1df(m:Nat)(w:Wld)(r:Rel)(v0:Int)(v1:List (List Val))(v2:Int)(v3:List Val):z123 m (.exit 2) (z68 w r v0 v1 v2 v3)=obO ((v1.length+[v3].length)*(24:Nat)≤zh) (zcz m (z9x w r (IntKind.i64.wrap (v0+1)) (v1++[v3]))):=by kernel_rfl
theorem zy4(m:Nat)(w:Wld)(r:Rel)(v0:Int)(v2:Int)(v3:List Val)(v1:List (List Val))(v4:Int)(v5:List Val):z8f m (z4m w r v0 v2 v3 v1 v4 v5)=cndO (decide (v4<(↑((z19 w (z1h w r) r.terms).getD v0.toNat zn).rows.length:Int))) (obO (0≤v4∧v4<(↑((z19 w (z1h w r) r.terms).getD v0.toNat zn).rows.length:Int)) (cndO ((↑(Agg.t (r.aggs.getD v2.toNat zq)).length:Int)==(0:Int)) (obO ((v5.length+[z7].length)*(32:Nat)≤zh) (z8f m (z4m w r v0 v2 v3 v1 (IntKind.i64.wrap (v4+1)) (v5++[z7])))) (obO (w.env.length≤(100000000:Nat)) (obO ((0:Int)≤(0:Int)∧(0:Int)<(↑(Agg.t (r.aggs.getD v2.toNat zq)).length:Int)) (obO ((8:Nat)*(Term.ids ((Agg.t (r.aggs.getD v2.toNat zq)).getD 0 zb)).ht+(7:Nat)<m) (obO (okT (zj w (((z19 w (z1h w r) r.terms).getD v0.toNat zn).rows.getD v4.toNat [])) (Term.ids ((Agg.t (r.aggs.getD v2.toNat zq)).getD 0 zb))) (obO ((v5.length+[(z6s (zj w (((z19 w (z1h w r) r.terms).getD v0.toNat zn).rows.getD v4.toNat [])) (Term.ids ((Agg.t (r.aggs.getD v2.toNat zq)).getD 0 zb)))].length)*(32:Nat)≤zh) (z8f m (z4m w r v0 v2 v3 v1 (IntKind.i64.wrap (v4+1)) (v5++[(z6s (zj w (((z19 w (z1h w r) r.terms).getD v0.toNat zn).rows.getD v4.toNat [])) (Term.ids ((Agg.t (r.aggs.getD v2.toNat zq)).getD 0 zb)))])))))))))) (some (.exit 4,(z4m w r v0 v2 v3 v1 v4 v5))):=(zbk (z31 11) zy2 _).trans (by kernel_rfl)
theorem z1b6(m:Nat)(w:Wld)(r:Rel)(v0:Int)(v2:Int)(v3:List Val)(v1:List (List Val))(v4:Int)(v5:List Val):zy3 m (.exit 4) (z4m w r v0 v2 v3 v1 v4 v5)=obO (v5.length≤(400000:Nat)) (obO ((v3.length+[(zog r v2 v5)].length)*(32:Nat)≤zh) (z9y m (z68 w r v0 v1 (IntKind.i64.wrap (v2+1)) (v3++[(zog r v2 v5)])))):=by kernel_rfl
theorem z1ju(m:Nat)(w:Wld)(r:Rel)(_hw:WS .wld w)(hr:WS .rel r)(hm:8*r.ht+6<m+1)(h:z1tv w r):z124 m w r=some (zvu (zbx w r)):=by
 obtain⟨v,hv⟩:=h;have e:zbx w r=v:=by unfold zbx;rw[hv];rfl
 rw[e];have ht:=Rel.ht_terms r;unfold z1pr grpO at hv;split at hv
 ·rename_i hna;obtain⟨l,hL,hv⟩:=y6.1 hv;obtain⟨bs,hB,hv⟩:=y6.1 hv;have hll:=zby hL;obtain⟨⟨hE,hN,_⟩,hkey,hbl⟩:=z1at hB;have c1:z1h w r=l:=z5t hL;have cb:z19 w l r.terms=bs:=by unfold z19 nBun;rw[hB];rfl
  have hvl:=zo8 hv
  have L11:∀(i k:Nat)(row:List Val)(o:Rows)(b:Bunch)(a:Agg)(vs:List Val),bs.getD i zn=b→r.aggs.getD k zq=a→a∈r.aggs→w.env.length≤100000000→mapQ (fun x=>nHd a.t (zj w x)) b.rows=some vs→vs.length≤400000→
    z8f m (z4m w r (i:Int) (k:Int) row o (0:Int) [])=some (.exit 4,z4m w r (i:Int) (k:Int) row o (b.rows.length:Int) vs):=by
   intro i k row o b a vs hb ha ham hE hmp hvs;have hrl:=zo8 hmp;have hmem:=zvz hmp;have hat:htTs a.t<r.ht:=by have:=Rel.ht_agg ham;cases a;simp only[Agg.ht]at this;simp only[Agg.t_mk];omega
   obtain⟨lp,_⟩:=z1n (e:=.exit 4) (L:=z8f m) (st:=fun(z:List Val) q=>z4m w r (i:Int) (k:Int) row o q z) (l:=b.rows) (d:=[]) (g:=fun z x=>z++[if a.t.length=0 then z7 else z6s (zj w x) (a.t.getD 0 zb)]) (fun q z=>z.length=q) (by omega)
    (fun z q x hi hx hI=>by
     have hI':z.length=q:=hI;have hxm:x∈b.rows:=by rw[←hx];exact z8i (by omega)
     obtain⟨y,hy⟩:=hmem x hxm;refine⟨by show(z++[_]).length=q+1;rw[ya,yg];omega,?_⟩;rw[zy4,c1,cb];simp only[z8,Term.ids_eq,y5,hb,ha,hx,beq_iff_eq,yg];rw[if_pos (by simp;omega),z6 (by omega)];by_cases d:a.t.length=0
     ·rw[if_pos (by omega),if_pos d,z6 (by unfold zh;omega)]
     ·rw[z1aq,if_neg d]at hy;have hk:(a.t.getD 0 zb).ht≤htTs a.t:=zbl (z8i (by omega))
      rw[if_neg (by omega),if_neg d,z6 hE,z6 (by omega),z6 (by omega),z6 ⟨y,hy⟩,z6 (by unfold zh;omega)])
    (fun z _=>by rw[zy4,c1,cb];simp only[z8,y5,hb];rw[if_neg (by simp)]) [] rfl
   rw[zg4,yx,zw0 (fun x=>if a.t.length=0 then z7 else z6s (zj w x) (a.t.getD 0 zb)) hmp (fun x hx y hy=>by
    rw[z1aq]at hy;by_cases d:a.t.length=0
    ·rw[if_pos d]at hy ⊢;exact yj hy
    ·rw[if_neg d]at hy ⊢;exact zb0 hy)]at lp
   exact lp
  have L7:∀(i:Nat)(o:Rows)(b:Bunch)(vs:List Val),bs.getD i zn=b→b.key.length≤100000000→mapQ (fun a=>nA a w b.rows) r.aggs=some vs→
    z9y m (z68 w r (i:Int) o (0:Int) b.key)=some (.exit 2,z68 w r (i:Int) o (r.aggs.length:Int) (b.key++vs)):=by
   intro i o b vs hb hbk hmp;have hrl:=zo8 hmp;have hmem:=zvz hmp
   obtain⟨lp,_⟩:=z1n (e:=.exit 2) (L:=z9y m) (st:=fun(z:List Val) q=>z68 w r (i:Int) o q z) (l:=r.aggs) (d:=zq) (g:=fun z a=>z++[(nA a w b.rows).getD z7]) (fun q z=>z.length=b.key.length+q) (by omega)
    (fun z q a hi ha hI=>by
     have hI':z.length=b.key.length+q:=hI;have ham:a∈r.aggs:=by rw[←ha];exact z8i (by omega)
     obtain⟨y,hy⟩:=hmem a ham;refine⟨by show(z++[_]).length=_;rw[ya,yg];omega,?_⟩;have hy0:=hy;rw[z2k8,if_pos hE]at hy;obtain⟨us,hu,hy⟩:=y6.1 hy;by_cases hul:us.length≤400000
     ·rw[if_pos hul]at hy;obtain rfl:=yj hy;have c2:zog r (q:Int) us=zer a us:=by
       show zer (Agg.ids (r.aggs.getD (q:Int).toNat zq)) us=_;rw[y5,ha];cases a;rfl
      rw[z126,z8,if_pos (by simp;omega),z6 (by omega)];refine(zg (L11 i q z o b a us hb ha ham hE hu hul)).trans ?_;rw[z1b6,c2,z6 hul,z6 (by unfold zh;rw[yg];omega),hy0];rfl
     ·rw[if_neg hul]at hy;simp at hy)
    (fun z _=>by rw[z126,z8,if_neg (by simp)]) b.key rfl
   rw[zg4,zw0 (fun a=>(nA a w b.rows).getD z7) hmp (fun a ha y hy=>by rw[hy];rfl)]at lp;exact lp
  have hmem:=zvz hv
  obtain⟨lp,_⟩:=z1n (e:=.exit 0) (L:=zcz m) (st:=fun(o:Rows) q=>z9x w r q o) (l:=bs) (d:=zn) (g:=fun o b=>o++[(((nAs r.aggs w b.rows).bind fun vs=>some (b.key++vs))).getD []]) (fun q o=>o.length=q) (by omega)
   (fun o i b hi hb hI=>by
    have hI':o.length=i:=hI;have hbm:b∈bs:=by rw[←hb];exact z8i (by omega)
    obtain⟨y,hy⟩:=hmem b hbm;have hbk:=hkey b hbm;refine⟨by show(o++[_]).length=_;rw[ya,yg];omega,?_⟩;have hy0:=hy;obtain⟨vs,hvs,hy⟩:=y6.1 hy;obtain rfl:=yj hy;have hvs':nAs r.aggs w b.rows=some vs:=hvs;rw[z24n]at hvs';rw[z125,c1,cb];simp only[z8,y5,hb];rw[if_pos (by simp;omega),z6 (by omega),z6 (by omega)];refine(zg (L7 i o b vs hb (by omega) hvs')).trans ?_;rw[z1df,z6 (by unfold zh;rw[yg];omega),hy0]
    rfl)
   (fun o _=>by rw[z125,c1,cb,z8,if_neg (by simp)]) [] rfl
  rw[zg4,yx,zw0 (fun b=>(((nAs r.aggs w b.rows).bind fun vs=>some (b.key++vs))).getD []) hv (fun b hb y hy=>by rw[hy];rfl)]at lp;rw[z1u5,Rel.ids_eq,c1,z6 (by omega),z6 (zrb hL),z6 (by omega),z6 ⟨bs,hB⟩];refine(zg lp).trans ?_;rw[z1de]
 ·simp at hv
theorem z1qg(m:Nat)(hG:z7a m):FnOK 89 (zoc (m+1)):=fnK2 zr zr (M:=(z73 m)) rfl ⟨hG.2.2.2.2.1,hG.2.2.2.2.2.2.2.2.2.1,z243,zpz,hG.2.1,z2co,trivial⟩ trivial trivial trivial trivial Tryz.func89 fun w r=>GiF.r fun w1 o=>z1ju m w r (wfA_ w1 0) (wfA_ w1 1) (obA_ o 0) (obA_ o 1)
def zq5(m:Nat):Mc Un:=mcF_ [(91,z86 m),(143,z1ay),(90,zvw),(85,zmx),(142,zs2)] [] [] [(144,zs6)] []
def zzr:Nat→NS:=nsF_ [(11,{ts:=bl 64 481036337544,bs:=bl 64 8,nm:=[(.sl 7,256),(.sl 36,257),(.sl 8,258)],cs:=true})] true
def zaa(w:Wld)(r:Rel):=zhc [zp w (Rel.mk r.op r.table r.cols r.kids r.terms r.aggs r.keys r.limit r.skip r.all r.rows) (0:Int),zp w (Rel.mk r.op r.table r.cols r.kids r.terms r.aggs r.keys r.limit r.skip r.all r.rows) (1:Int)]
def zgc(w:Wld)(r:Rel):=zp w (Rel.mk r.op r.table r.cols r.kids r.terms r.aggs r.keys r.limit r.skip r.all r.rows) (1:Int)
def zab(w:Wld)(r:Rel):=zp w (Rel.mk r.op r.table r.cols r.kids r.terms r.aggs r.keys r.limit r.skip r.all r.rows) (0:Int)
def z2r(r:Rel)(v0:Int)(v1:List (List Val))(v2:Int)(v3:List (List Val))(v4:List (List Val)):S Un:=(st 64 64 259 0 [(3,ax 3),(7,ao 256),(8,ao 258),(36,ao 257),(37,ai v0),(38,ai v2)] [(3,bg .rel r)] [(256,some ⟨(0:Nat),Ty.row,v3,some (0:Nat),true⟩),(257,some ⟨(0:Nat),Ty.row,v1,some (0:Nat),true⟩),(258,some ⟨(0:Nat),Ty.row,v4,some (0:Nat),true⟩)])
def z45(m:Nat):S Un→Option (EX Un):=lpF_ (zq5 m) zzr Tryz.f92 [1,1,1,1,1,1,1,0,1,2,2] 11
def zb1(m:Nat):Exit→S Un→Option (RF Un):=cxF_ (zq5 m) zzr Tryz.f92 [1,1,1,1,1,1,1,0,1,2] [.m]
def z1b7(m:Nat)(w:Wld)(r:Rel):Option (RF Un):=fnF_ (zq5 m) zzr Tryz.f92 3 [.m] [.d (.agg (enc Ty.wld w)),.d (.agg (enc Ty.rel r))]
theorem z25d(m:Nat)(w:Wld)(r:Rel):z1b7 m w r=obO ((8:Nat)*(Rel.ids r).ht+(4:Nat)<m) (obO (zf3 w (Rel.ids r) (0:Int)) (obO ((8:Nat)*(Rel.ids r).ht+(4:Nat)<m) (obO (zf3 w (Rel.ids r) (1:Int)) (cndO (r.op==9) (obO ([zp w (Rel.ids r) (0:Int),zp w (Rel.ids r) (1:Int)].flatten.length≤(1000000000:Nat)) (cndO (!r.all) (obO ((zaa w r).length≤(100000000:Nat)) (cndO (r.op==9) (some (zvu (z13 (zaa w r)))) (obO ((zgc w r).length≤(1000000000:Nat)) ((z45 m (z2r r (↑(z13 (zaa w r)).length:Int) (z13 (zaa w r)) (0:Int) (zp w (Rel.ids r) (1:Int)) ([]))).bind (zd (zb1 m)))))) (cndO (r.op==9) (some (zvu (zaa w r))) (obO ((zgc w r).length≤(1000000000:Nat)) ((z45 m (z2r r (↑(zaa w r).length:Int) (zhc [zp w (Rel.ids r) (0:Int),zp w (Rel.ids r) (1:Int)]) (0:Int) (zp w (Rel.ids r) (1:Int)) ([]))).bind (zd (zb1 m))))))) (cndO (!r.all) (obO ((zab w r).length≤(100000000:Nat)) (cndO (r.op==9) (some (zvu (z13 (zab w r)))) (obO ((zgc w r).length≤(1000000000:Nat)) ((z45 m (z2r r (↑(z13 (zab w r)).length:Int) (z13 (zab w r)) (0:Int) (zp w (Rel.ids r) (1:Int)) ([]))).bind (zd (zb1 m)))))) (cndO (r.op==9) (some (zvu (zab w r))) (obO ((zgc w r).length≤(1000000000:Nat)) ((z45 m (z2r r (↑(zab w r).length:Int) (zp w (Rel.ids r) (0:Int)) (0:Int) (zp w (Rel.ids r) (1:Int)) ([]))).bind (zd (zb1 m)))))))))):=by kernel_rfl
theorem z16e(m:Nat)(r:Rel)(v0:Int)(v1:List (List Val))(v2:Int)(v3:List (List Val))(v4:List (List Val)):z45 m (z2r r v0 v1 v2 v3 v4)=cndO (decide (v2<v0)) (obO (0≤v2∧v2<(↑v1.length:Int)) (cndO (decide (zi v3 (v1.getD v2.toNat [])≥0)) (obO (0≤zi v3 (v1.getD v2.toNat [])∧zi v3 (v1.getD v2.toNat [])<IntKind.i64.wrap (zi v3 (v1.getD v2.toNat [])+1)∧IntKind.i64.wrap (zi v3 (v1.getD v2.toNat [])+1)≤(↑v3.length:Int)) (cndO (decide (zi v3 (v1.getD v2.toNat [])≥0)==(r.op==10)) (obO ((v4.length+[v1.getD v2.toNat []].length)*(24:Nat)≤zh) (z45 m (z2r r v0 v1 (IntKind.i64.wrap (v2+1)) (List.take (zi v3 (v1.getD v2.toNat [])).toNat v3++List.drop (IntKind.i64.wrap (zi v3 (v1.getD v2.toNat [])+1)).toNat v3) (v4++[v1.getD v2.toNat []])))) (z45 m (z2r r v0 v1 (IntKind.i64.wrap (v2+1)) (List.take (zi v3 (v1.getD v2.toNat [])).toNat v3++List.drop (IntKind.i64.wrap (zi v3 (v1.getD v2.toNat [])+1)).toNat v3) v4)))) (cndO (decide (zi v3 (v1.getD v2.toNat [])≥0)==(r.op==10)) (obO ((v4.length+[v1.getD v2.toNat []].length)*(24:Nat)≤zh) (z45 m (z2r r v0 v1 (IntKind.i64.wrap (v2+1)) v3 (v4++[v1.getD v2.toNat []])))) (z45 m (z2r r v0 v1 (IntKind.i64.wrap (v2+1)) v3 v4))))) (some (.exit 0,(z2r r v0 v1 v2 v3 v4))):=lpQ_ (by kernel_rfl)
theorem z1jv(m:Nat)(r:Rel)(v0:Int)(v1:List (List Val))(v2:Int)(v3:List (List Val))(v4:List (List Val)):zb1 m (.exit 0) (z2r r v0 v1 v2 v3 v4)=some (zvu (v4)):=by kernel_rfl
theorem z1u6(m:Nat)(w:Wld)(r:Rel)(_hw:WS .wld w)(_hr:WS .rel r)(hm:8*r.ht+6<m+1)(h:z1pt w r):z1b7 m w r=some (zvu (zbg w r)):=by
 obtain⟨v,hv⟩:=h;have e:zbg w r=v:=by unfold zbg;rw[hv];rfl
 rw[e];unfold nSet setO at hv;obtain⟨a,hA,hv⟩:=y6.1 hv;obtain⟨b,hB,hv⟩:=y6.1 hv;obtain⟨z,hz,hv⟩:=y6.1 hv;obtain rfl:=yj hv;have hal:=zby hA;have hbl:=zby hB;have e2:zgc w r=b:=ztl hB;have e3:zab w r=a:=z5t hA;have e1:zaa w r=a++b:=by
  show zhc [zp w (Rel.ids r) 0,zp w (Rel.ids r) 1]=_;rw[Rel.ids_eq,z5t hA,ztl hB];unfold zhc;simp
 have hpl:∀(x:List Val)(l:Rows),0≤zi l x→(zi l x).toNat<l.length∧((zi l x).toNat:Int)=zi l x:=fun x l h0=>by
  unfold zi at h0 ⊢;cases hf:l.findIdx? (fun y=>plc1 y x)with
  |none=>rw[hf]at h0;exact absurd h0 (by decide)
  |some i=>exact⟨by simpa using(y2d.1 hf).1,by simp⟩
 have loop:∀(c:Rows),c.length≤100000000→∀(q:Rows)(i:Nat)(left out:Rows),c.drop i=q→i≤c.length→left.length≤100000000→out.length≤i→
   (z45 m (z2r r (c.length:Int) c (i:Int) left out)).bind (zd (zb1 m))=some (zvu (out++setL (decide (r.op=10)) q left)):=by
  intro c hc q
  induction q with
  |nil=>
   intro i left out hr hi hlf ho;have hil:c.length≤i:=by rw[←y1o];exact hr
   have e:z45 m (z2r r (c.length:Int) c (i:Int) left out)=some (.exit 0,z2r r (c.length:Int) c (i:Int) left out):=by rw[z16e,z8,if_neg (by simp;omega)]
   rw[zg e,z1jv];simp only[setL,y14]
  |cons x q ih=>
   intro i left out hr hi hlf ho;obtain⟨a1,a2,a3,hmem⟩:=z32 hr;have hx:c.getD i []=x:=a2 [];have hb0:∀p:Bool,(p==(r.op==10))=true↔p=decide (r.op=10):=fun p=>by
    have:(r.op==10)=decide (r.op=10):=by cases h:decide (r.op=10)<;>simp_all
    rw[this,beq_iff_eq]
   have hge:decide (zi left x≥0)=decide (0≤zi left x):=rfl;have hsl:=z16e m r (c.length:Int) c (i:Int) left out;simp only[z8,y5,hx,z3e a1 (show c.length≤9223372036854775807 by omega),hb0,hge]at hsl;rw[if_pos (by simp;omega),z6 (by omega)]at hsl;simp only[setL];by_cases d:0≤zi left x
   ·obtain⟨p1,p2⟩:=hpl x left d;obtain⟨p,hp⟩:∃p,p=(zi left x).toNat:=⟨_,rfl⟩;rw[←hp]at p1 p2;have hw1:IntKind.i64.wrap (zi left x+1)=((p+1:Nat):Int):=by rw[←p2];exact z1p (by omega)
    have hlt:(left.take p++left.drop (p+1)).length≤100000000:=by rw[ya,yu,yq];omega
    have he:left.eraseIdx p=left.take p++left.drop (p+1):=y50 _ _;rw[if_pos (by simpa using d),hw1,←p2,y5,y5,z6 (by omega)]at hsl;rw[if_pos d,←hp,he];have dd:decide (0≤(p:Int))=true:=by simp
    rw[dd]at hsl;rw[decide_eq_true d];by_cases d2:true=decide (r.op=10)
    ·rw[if_pos d2,z6 (by unfold zh;rw[yg];omega)]at hsl;rw[if_pos d2,hsl,ih (i+1) _ (out++[x]) a3 (by omega) hlt (by rw[ya,yg];omega),y11]
    ·rw[if_neg d2]at hsl;rw[if_neg d2,hsl,ih (i+1) _ out a3 (by omega) hlt (by omega),yx]
   ·rw[if_neg (by simpa using d)]at hsl;rw[if_neg d];rw[decide_eq_false d]at hsl ⊢;by_cases d2:false=decide (r.op=10)
    ·rw[if_pos d2,z6 (by unfold zh;rw[yg];omega)]at hsl;rw[if_pos d2,hsl,ih (i+1) _ (out++[x]) a3 (by omega) hlf (by rw[ya,yg];omega),y11]
    ·rw[if_neg d2]at hsl;rw[if_neg d2,hsl,ih (i+1) _ out a3 (by omega) hlf (by omega),yx]
 have hon:∀l:Rows,(z13 l).length≤l.length:=fun l=>by
  have:∀(l o:Rows),(l.foldl (fun o x=>if zi o x<0 then o++[x]else o) o).length≤o.length+l.length:=by
   intro l
   induction l with
   |nil=>intro o;simp
   |cons x l ih=>
    intro o;rw[yt];refine y1f (ih _) ?_;split
    ·rw[ya,yg,yr];omega
    ·rw[yr];omega
  have h0:=this l [];rw[y1v,y16]at h0;exact h0
 have s9:∀c:Rows,r.op=9→setE r.op r.all c b=if r.all=true then c else z13 c:=fun c h=>by unfold setE;rw[if_pos h]
 have s10:∀c:Rows,r.op≠9→setE r.op r.all c b=setL (decide (r.op=10)) (if r.all=true then c else z13 c) b:=fun c h=>by unfold setE;rw[if_neg h]
 rw[z25d];simp only[z8,Rel.ids_eq,beq_iff_eq,e1,e2,e3,z5t hA,ztl hB];rw[z6 (by omega),z6 (zrb hA),z6 (by omega),z6 (z2ha hB)];by_cases c9:r.op=9
 ·rw[if_pos c9]at hz;obtain⟨h1,h2⟩:=zxy hz;subst h1;rw[ya]at h2;rw[if_pos c9,z6 (by simp;omega),s9 _ c9];by_cases ca:r.all=true
  ·rw[if_neg (by simp[ca]),if_pos c9,if_pos ca]
  ·rw[if_pos (by simpa using ca),z6 (by rw[ya];omega),if_pos c9,if_neg ca]
 ·rw[if_neg c9]at hz;obtain rfl:=yj hz;rw[if_neg c9,s10 _ c9];by_cases ca:r.all=true
  ·rw[if_neg (by simp[ca]),if_neg c9,z6 (by omega),if_pos ca];have:=loop a (by omega) a 0 b [] rfl (yb _) hbl (yb _);exact this
  ·rw[if_pos (by simpa using ca),z6 (by omega),if_neg c9,z6 (by omega),if_neg ca];have h1:=hon a;have:=loop (z13 a) (by omega) (z13 a) 0 b [] rfl (yb _) hbl (yb _);exact this
theorem z1zq(m:Nat)(hG:z7a m):FnOK 92 (zw4 (m+1)):=fnK2 zr zr (M:=(zq5 m)) rfl ⟨hG.2.2.2.2.1,z1zi,z15y,zry,z11m,trivial⟩ trivial trivial ⟨z1q3,trivial⟩ trivial Tryz.func92 fun w r=>GiF.r fun w1 o=>z1u6 m w r (wfA_ w1 0) (wfA_ w1 1) (obA_ o 0) (obA_ o 1)
theorem z1dg(m:Nat)(hG:z7a m):FnOK 139 (za9 (m+1)):=by
 intro args ob rs os h hob;unfold za9 at h;split at h
 ·simp only[y6,y8,yl]at h;obtain⟨w,e0,rows,e1,terms,e2,rfl,rfl,rfl⟩:=h;obtain rfl:=zr e0;obtain rfl:=zx e1;obtain rfl:=zx e2;have hm:8*htTs terms+9<m+1:=hob _ (yd (i:=0) rfl);obtain⟨bs,hbs⟩:z2ct w rows terms:=hob _ (yd (i:=1) rfl);have e:z19 w rows terms=bs:=by unfold z19;rw[hbs];rfl
  rw[e];refine⟨z1jp w rows terms bs hbs (fun x key hk=>?_),zk Tryz.func139 (by kernel_rfl) (by kernel_rfl)⟩;have hF:z67 m [.d (.agg (enc Ty.wld (zj w x))),.d (.v (.dat (U:=Un) Ty.term terms))]=some ([8*htTs terms+8<m,okTs (zj w x) terms],zs8 (z54 (zj w x) terms),[]):=by
   unfold z67;simp only[z107,z1kx,ym];rfl
  have hC:=(hG.2.2.1 _ _ _ _ hF (fun p hp=>by
   simp only[yf,y2i,or_false]at hp;rcases hp with rfl|rfl
   ·omega
   ·exact⟨(z1at hbs).1.2.1,key,hk⟩)).1
  rw[zhd hk]at hC;exact Contract.data hC
 ·simp at h
theorem z3o:∀m,z7a m
  |0=>⟨fnZ2,fnZ2,by
        intro args ob rs os h hob;unfold z67 at h;split at h
        · simp only[y6,y8,yl]at h;obtain⟨_,_,_,_,rfl,_,_⟩:=h;exact absurd (hob _ (yd (i:=0) rfl)) (y18 _)
        · simp at h
      ,fnZ3,fnZ3,fnZ2,fnZ2,fnZ2,fnZ2,by
        intro args ob rs os h hob;unfold za9 at h;split at h
        · simp only[y6,y8,yl]at h;obtain⟨_,_,_,_,_,_,rfl,_,_⟩:=h;exact absurd (hob _ (yd (i:=0) rfl)) (y18 _)
        · simp at h
      ,fnZ2,fnZ2⟩
  |m+1=>⟨z1ty m (z3o m),z1tz m (z3o m),z1qc m (z3o m),z25a m (z3o m),z1zn m (z3o m),z1zo m (z3o m),z1jr m (z3o m),z1dc m (z3o m),z1u4 m (z3o m),z1dg m (z3o m),z1qg m (z3o m),z1zq m (z3o m)⟩
def z1gg:FnC Un:=fnF2 (dS .wld) (dS .rel) fun w r=>([okRl w r],zvu (z9e w r))
theorem z25e:FnOK 45 z1gg:=fnA2 fun m=>(z3o m).2.2.2.2.2.1
end
end B
namespace B
open Go Go.RowKit
set_option maxRecDepth 100000
noncomputable section
attribute [local irreducible] awp ctxK zu z1a retQ z1m awf ctxF z1k
def zzs(r:List (List Val)):RF Un:=([.c (.sl (U:=Un) Ty.row r false)],[])
def z1b8(s:List (List Val)):Option (RF Un):=fnF_ z1dq z26d Tryz.f44 0 [.d] [.d (.v (.dat (U:=Un) Ty.row s))]
theorem z25f(s:List (List Val)):z1b8 s=obO ((0:Int)≤(↑s.length:Int)∧(↑s.length:Int)=(↑s.length:Int)∧(↑s.length:Int)≤(↑s.length:Int)) (some (zzs (List.take (↑s.length:Int).toNat s))):=by kernel_rfl
def z1b9(s:List (List Val)):List (List Val):=s
theorem z1u7(s:List (List Val))(hs:WL .row s):z1b8 s=some (zzs (z1b9 s)):=by
 rw[z25f,z6 (by omega),y5,y3i];rfl
def z1gi:FnC Un:=fnF1 (dL .row) fun s=>([],zzs (z1b9 s))
theorem z25g:FnOK 44 z1gi:=fnK1 zx (M:=z1dq) rfl trivial trivial trivial trivial trivial Tryz.func44 fun s=>GiF.r fun w _=>z1u7 s (wfA_ w 0)
def z1gj:Mc Un:=mcF_ [(45,z1gg),(44,z1gi)] [] [] [] []
def z1ba(r:Rel)(env:List (List Val))(db:List Data):Option (RF Un):=fnF_ z1gj z26d Tryz.f16 0 [.d] [.d (.agg (enc Ty.rel r)),.d (.v (.dat (U:=Un) Ty.row env)),.d (.v (.dat (U:=Un) Ty.data db))]
theorem z25h(r:Rel)(env:List (List Val))(db:List Data):z1ba r env db=obO (okRl {env:=env,db:=db} (Rel.ids r)) (some (zzs (z1b9 (z9e {env:=env,db:=db} (Rel.ids r))))):=by kernel_rfl
def z1bb(r:Rel)(env:List (List Val))(db:List Data):List (List Val):=z9e ⟨env,db⟩ r
theorem z1u8(r:Rel)(env:List (List Val))(db:List Data)(_hr:WS .rel r)(_he:WL .row env)(_hd:WL .data db)(h:okRl ⟨env,db⟩ r):z1ba r env db=some (zzs (z1bb r env db)):=by
 rw[z25h];simp only[Rel.ids_eq];rw[z6 h];rfl
def z1gk:FnC Un:=fnF3 (dS .rel) (dL .row) (dL .data) fun r env db=>([okRl ⟨env,db⟩ r],zzs (z1bb r env db))
theorem z25i:FnOK 16 z1gk:=fnK3 zr zx zx (M:=z1gj) rfl ⟨z25e,z25g,trivial⟩ trivial trivial trivial trivial Tryz.func16 fun r env db=>GiF.r fun w o=>z1u8 r env db (wfA_ w 0) (wfA_ w 1) (wfA_ w 2) (obA_ o 0)
def z1gl:Mc Un:=mcF_ [(16,z1gk)] [] [] [] []
def z1bc(r:Rel)(db:List Data):Option (RF Un):=fnF_ z1gl z26d Tryz.f14 0 [.d] [.d (.agg (enc Ty.rel r)),.d (.v (.dat (U:=Un) Ty.data db))]
theorem z25j(r:Rel)(db:List Data):z1bc r db=obO (okRl {env:=[],db:=db} (Rel.ids r)) (some (zzs (z1bb (Rel.ids r) [] db))):=by kernel_rfl
def z1b(r:Rel)(db:List Data):List (List Val):=z9e ⟨[],db⟩ r
theorem z1u9(r:Rel)(db:List Data)(_hr:WS .rel r)(_hd:WL .data db)(h:okRl ⟨[],db⟩ r):z1bc r db=some (zzs (z1b r db)):=by
 rw[z25j];simp only[Rel.ids_eq];rw[z6 h];rfl
def zq6:FnC Un:=fnF2 (dS .rel) (dL .data) fun r db=>([okRl ⟨[],db⟩ r],zzs (z1b r db))
theorem z1bd:FnOK 14 zq6:=fnK2 zr zx (M:=z1gl) rfl ⟨z25i,trivial⟩ trivial trivial trivial trivial Tryz.func14 fun r db=>GiF.r fun w o=>z1u9 r db (wfA_ w 0) (wfA_ w 1) (obA_ o 0)
end
end B
end Go.Proofs.YtjfpbchdcbhfgaaGreat
