/- Part 18 of the proof: Snaive5 Snaive6. -/
import Derived.Test.YtjfpbchdcbhfgaaGreatNas17
set_option linter.unusedVariables false
set_option linter.unusedSimpArgs false
namespace Go.Proofs.YtjfpbchdcbhfgaaGreat
namespace B
open Go Go.RowKit
set_option maxRecDepth 100000
noncomputable section
attribute [local irreducible] awp ctxK zx z1d retQ z1o awf ctxF z1l
def zr3 (m:Nat) : FnC Un:=fnF2 (dS .wld) (dS .term) fun w t=>z2l (8*t.ht+6) m ([z1nn w t],zue (z5p w t))
def z8l (m:Nat) : FnC Un:=fnF2 (dS .wld) (dS .term) fun w t=>z2l (8*t.ht+7) m ([okT w t],zx6 (z4h w t))
def zr4 (r:List Val) : List (A Un):=[.c (.sl (U:=Un) Ty.val r false)]
def z14r (_r:List Val) : List (Ob Un):=[]
def zr5 (r:List Val) : RF Un:=(zr4 r,z14r r)
def z64 (m:Nat) : FnC Un:=fun args=>match args with
 | [x0,x1]=>(dS .wld x0).bind fun w=>(dL .term x1).bind fun l=>some ([8*htTs l+8<m,okTs w l],zr4 (z4y w l),z14r (z4y w l))
 | _=>none
def zp5 (m:Nat) : FnC Un:=fnF3 (dS .wld) (dL .term) (dL .val) fun w l x=>z2l (8*htTs l+8) m ([okSo w l x],z8y (zdd w l x))
def z86 (m:Nat) : FnC Un:=fnF3 (dS .wld) (dS .rel) (dI .i64) fun w r n=>z2l (8*r.ht+4) m ([zep w r n],zue (zm w r n))
def zmf (m:Nat) : FnC Un:=fnF2 (dS .wld) (dS .rel) fun w r=>z2l (8*r.ht+7) m ([okRl w r],zue (z9b w r))
def zmg (m:Nat) : FnC Un:=fnF2 (dS .wld) (dS .rel) fun w r=>z2l (8*r.ht+6) m ([z1hm w r],zue (za4 w r))
def zjl (m:Nat) : FnC Un:=fnF2 (dS .wld) (dS .rel) fun w r=>z2l (8*r.ht+6) m ([z19a w r],zue (z8k w r))
def zr6 (m:Nat) : FnC Un:=fnF2 (dS .wld) (dS .rel) fun w r=>z2l (8*r.ht+6) m ([z1np w r],zue (zba w r))
def z1o4 (r:List Bunch) : List (A Un):=[.c (.sl (U:=Un) Ty.bunch r false)]
def z1o5 (_r:List Bunch) : List (Ob Un):=[]
def za5 (m:Nat) : FnC Un:=fun args=>match args with
 | [x0,x1,x2]=>(dS .wld x0).bind fun w=>(dL .row x1).bind fun rows=>(dL .term x2).bind fun terms=>some ([8*htTs terms+9<m,z29p w rows terms],z1o4 (z16 w rows terms),z1o5 (z16 w rows terms))
 | _=>none
def znf (m:Nat) : FnC Un:=fnF2 (dS .wld) (dS .rel) fun w r=>z2l (8*r.ht+6) m ([z1rh w r],zue (zbs w r))
def zuo (m:Nat) : FnC Un:=fnF2 (dS .wld) (dS .rel) fun w r=>z2l (8*r.ht+6) m ([z1nq w r],zue (zbb w r))
def z19i (m:Nat) : Mc Un:=mcF_ [(45,zmf m)] [] [] [] []
def z14s (m:Nat) (w:Wld) (t:Term) : Option (RF Un):=fnF_ (z19i m) z23e Tryz.f118 0 [.m] [.d (.agg (enc Ty.wld w)),.d (.agg (enc Ty.term t))]
theorem z1wv (m:Nat) (w:Wld) (t:Term) : z14s m w t=cndO ((↑t.sub.length:Int) == (0:Int)) (some (zue ([]))) (obO ((0:Int)≤(0:Int)∧(0:Int)<(↑t.sub.length:Int)) (obO ((8:Nat)*(Rel.ids (t.sub.getD 0 z8)).ht+(7:Nat)<m) (obO (okRl w (Rel.ids (t.sub.getD 0 z8))) (some (zue (z9b w (Rel.ids (t.sub.getD 0 z8)))))))):=by kernel_rfl
theorem Term.ht_kids (t:Term) : htTs t.kids<t.ht:=by cases t;simp only[Term.kids_mk,Term.ht];omega
theorem Rel.ht_terms (r:Rel) : htTs r.terms<r.ht:=by cases r;simp only[Rel.terms_mk,Rel.ht];omega
theorem zj2 {w:Wld} {t:Term} {l:Rows} (h:nSub t.sub w=some l) : z5p w t=l:=by unfold z5p;rw[h];rfl
theorem zfx {w:Wld} {r:Rel} {l:Rows} (h:nR r w=some l) : z9b w r=l:=by unfold z9b;rw[h];rfl
theorem z4z {w:Wld} {t:Term} {v:Val} (h:nT t w=some v) : z4h w t=v:=by unfold z4h;rw[h];rfl
theorem zgy {w:Wld} {t:List Term} {v:List Val} (h:nTs t w=some v) : z4y w t=v:=by unfold z4y;rw[h];rfl
theorem zyb {w:Wld} {t:List Term} {x:List Val} {b:Bool} (h:nSo t (zg w x)=some b) : zdd w t x=b:=by unfold zdd;rw[h];rfl
theorem zup {w:Wld} {r:Rel} {n:Nat} {l:Rows} (h:nKid r.kids n w=some l) : zm w r (n:Int)=l:=by unfold zm;rw[y5,h];rfl
theorem z5q {w:Wld} {r:Rel} {l:Rows} (h:nKid r.kids 0 w=some l) : zm w r (0:Int)=l:=zup (n:=0) h
theorem zsd {w:Wld} {r:Rel} {l:Rows} (h:nKid r.kids 1 w=some l) : zm w r (1:Int)=l:=zup (n:=1) h
theorem zqa {w:Wld} {r:Rel} {l:Rows} (h:nKid r.kids 0 w=some l) : zep w r (0:Int):=⟨y2f _,l,h⟩
theorem z2dz {w:Wld} {r:Rel} {l:Rows} (h:nKid r.kids 1 w=some l) : zep w r (1:Int):=⟨by omega,l,h⟩
theorem z1o6 (m:Nat) (w:Wld) (t:Term) (_hw:WS .wld w) (_ht:WS .term t) (hm:8*t.ht+6<m+1) (h:z1nn w t) : z14s m w t=some (zue (z5p w t)):=by
 obtain⟨l,hl⟩:=h;rw[zj2 hl];rw[z26j] at hl;rw[z1wv];simp only[z7,Rel.ids_eq,beq_iff_eq];by_cases h0 : t.sub.length=0
 ·rw[if_pos h0] at hl;obtain rfl:=yi hl;rw[if_pos (by omega)]
 ·rw[if_neg h0] at hl;have hs:(t.sub.getD 0 z8).ht<t.ht:=Term.ht_sub (z78 (by omega));rw[if_neg (by omega),z6 (by omega),z6 (by omega),z6 ⟨l,hl⟩,zfx hl]
abbrev z7a (m:Nat) : Prop:=FnOK 118 (zr3 m)∧FnOK 67 (z8l m)∧FnOK 121 (z64 m)∧FnOK 136 (zp5 m)∧FnOK 91 (z86 m)∧FnOK 45 (zmf m)∧FnOK 86 (zmg m)∧FnOK 87 (zjl m)∧FnOK 88 (zr6 m)∧FnOK 139 (za5 m)∧FnOK 89 (znf m)∧FnOK 92 (zuo m)
theorem z1rk (m:Nat) (hG:z7a m) : FnOK 118 (zr3 (m+1)):=fnK2 zo zo (M:=(z19i m)) rfl ⟨hG.2.2.2.2.2.1,trivial⟩ trivial trivial trivial trivial Tryz.func118 fun w t=>GiF.r fun w1 o=>z1o6 m w t (wfA_ w1 0) (wfA_ w1 1) (obA_ o 0) (obA_ o 1)
def z19j (m:Nat) : Mc Un:=mcF_ [(117,z143),(118,zr3 m),(39,z82),(67,z8l m),(119,z14h),(121,z64 m),(120,zn8)] [] [] [] []
def z14t (m:Nat) (w:Wld) (t:Term) : Option (RF Un):=fnF_ (z19j m) z23e Tryz.f67 0 [.d] [.d (.agg (enc Ty.wld w)),.d (.agg (enc Ty.term t))]
theorem z1ww (m:Nat) (w:Wld) (t:Term) : z14t m w t=cndO (t.op == 1) (obO ((Term.ids t).sz≤(2000000:Nat)) (obO (strT (Term.ids t)) (obO (z5o w.env) (some (zx6 (z37 (Term.ids t) w.env)))))) (cndO (t.op == 2) (obO ((Term.ids t).sz≤(2000000:Nat)) (obO (strT (Term.ids t)) (obO (z5o w.env) (some (zx6 (z37 (Term.ids t) w.env)))))) (cndO (t.op == 26) (obO ((8:Nat)*(Term.ids t).ht+(6:Nat)<m) (obO (z1nn w (Term.ids t)) (cndO ((↑(z5p w (Term.ids t)).length:Int) == (1:Int)) (obO ((0:Int)≤(0:Int)∧(0:Int)<(↑(z5p w (Term.ids t)).length:Int)) (cndO (decide ((↑(List.length ((z5p w (Term.ids t)).getD 0 [])):Int) > (0:Int))) (obO ((0:Int)≤(0:Int)∧(0:Int)<(↑(z5p w (Term.ids t)).length:Int)) (obO ((0:Int)≤(0:Int)∧(0:Int)<(↑(List.length ((z5p w (Term.ids t)).getD 0 [])):Int)) (some (zx6 (List.getD ((z5p w (Term.ids t)).getD 0 []) 0 zeroVal))))) (some (zx6 (zeroVal))))) (some (zx6 (zeroVal)))))) (cndO (t.op == 27) (obO ((8:Nat)*(Term.ids t).ht+(6:Nat)<m) (obO (z1nn w (Term.ids t)) (some (zx6 (z1i (decide ((↑(z5p w (Term.ids t)).length:Int) > (0:Int)))))))) (cndO (t.op == 28) (cndO ((↑t.kids.length:Int) == (0:Int)) (some (zx6 (zeroVal))) (obO ((0:Int)≤(0:Int)∧(0:Int)<(↑t.kids.length:Int)) (obO ((8:Nat)*(Term.ids (t.kids.getD 0 za)).ht+(7:Nat)<m) (obO (okT w (Term.ids (t.kids.getD 0 za))) (obO ((8:Nat)*(Term.ids t).ht+(6:Nat)<m) (obO (z1nn w (Term.ids t)) (some (zx6 (z38 (z4h w (Term.ids (t.kids.getD 0 za))) (z5p w (Term.ids t))))))))))) (obO ((8:Nat)*htTs t.kids+(8:Nat)<m) (obO (okTs w t.kids) (obO (txts (z4y w t.kids)) (some (zx6 (z1j t.op t.name (z4y w t.kids))))))))))):=by kernel_rfl
theorem z1o7 (m:Nat) (w:Wld) (t:Term) (_hw:WS .wld w) (_ht:WS .term t) (hm:8*t.ht+7<m+1) (h:okT w t) : z14t m w t=some (zx6 (z4h w t)):=by
 obtain⟨v,hv⟩:=h;rw[z4z hv];rw[zp3] at hv;rw[z1ww];simp only[z7,Term.ids_eq,beq_iff_eq,decide_eq_true_eq];have hkd:=Term.ht_kids t;by_cases c12 : t.op=1∨t.op=2
 ·rw[if_pos c12] at hv;obtain⟨⟨h1,h2,h3⟩,h4⟩:=chkQ_some.1 hv;obtain rfl:=yi h4;rcases c12 with c | c
  ·rw[if_pos c,z6 h1,z6 h2,z6 h3]
  ·rw[if_neg (by omega),if_pos c,z6 h1,z6 h2,z6 h3]
 rw[if_neg c12] at hv;rw[if_neg (fun e=>c12 (.inl e)),if_neg (fun e=>c12 (.inr e))];by_cases c3 : t.op=26
 ·rw[if_pos c3] at hv ⊢;obtain⟨l,hl,h4⟩:=y6.1 hv;obtain rfl:=yi h4;rw[z6 (by omega),z6 ⟨l,hl⟩,zj2 hl];by_cases d1 : l.length=1
  ·rw[if_pos (by omega),z6 (by omega)];by_cases d2 : 0<(l.getD 0 []).length
   ·rw[if_pos (by omega),z6 (by omega),z6 (by omega),if_pos ⟨d1,d2⟩]
   ·rw[if_neg (by omega),if_neg (fun e=>d2 e.2)]
  ·rw[if_neg (by omega),if_neg (fun e=>d1 e.1)]
 rw[if_neg c3] at hv ⊢;by_cases c4 : t.op=27
 ·rw[if_pos c4] at hv ⊢;obtain⟨l,hl,h4⟩:=y6.1 hv;obtain rfl:=yi h4;rw[z6 (by omega),z6 ⟨l,hl⟩,zj2 hl];have e:decide ((l.length:Int) > 0)=decide (0<l.length):=decide_eq_decide.2 (by omega);rw[e]
 rw[if_neg c4] at hv ⊢;by_cases c5 : t.op=28
 ·rw[if_pos c5] at hv ⊢;by_cases d : t.kids.length=0
  ·rw[if_pos d] at hv;obtain rfl:=yi hv;rw[if_pos (by omega)]
  ·rw[if_neg d] at hv;obtain⟨x,hx,h4⟩:=y6.1 hv;obtain⟨l,hl,h5⟩:=y6.1 h4;obtain rfl:=yi h5;rw[z198,if_neg d] at hx;have hk:(t.kids.getD 0 za).ht<t.ht:=Term.ht_kidD (by omega);rw[if_neg (by omega),z6 (by omega),z6 (by omega),z6 ⟨x,hx⟩,z6 (by omega),z6 ⟨l,hl⟩,z4z hx,zj2 hl]
 rw[if_neg c5] at hv ⊢;split at hv
 ·rename_i hk;obtain⟨l,hl,h4⟩:=y6.1 hv;obtain⟨h5,h6⟩:=chkQ_some.1 h4;obtain rfl:=yi h6;rw[z6 (by omega),z6 ⟨by omega,l,hl⟩,zgy hl,z6 h5]
 ·simp at hv
theorem z1rl (m:Nat) (hG:z7a m) : FnOK 67 (z8l (m+1)):=fnK2 zo zo (M:=(z19j m)) rfl ⟨z1qp,hG.1,zit,hG.2.1,z1r8,hG.2.2.1,zwa,trivial⟩ trivial trivial trivial trivial Tryz.func67 fun w t=>GiF.r fun w1 o=>z1o7 m w t (wfA_ w1 0) (wfA_ w1 1) (obA_ o 0) (obA_ o 1)
def zj3 (m:Nat) : Mc Un:=mcF_ [(67,z8l m)] [] [] [] []
def zj4 : Nat→NS:=nsF_ [(3,{ ts:=bl 26 14372,bs:=bl 26 4,nm:=[(.sl 5,104)],cs:=true })] true
def z48 (w:Wld) (l:List Term) (v0:Int) (v1:List Val) : S Un:=(st 26 26 105 0 [(2,ax 2),(5,ao 104),(11,al .term l),(12,ai (↑l.length:Int)),(13,ai v0)] [(2,bg .wld w)] [(104,some ⟨(0:Nat),Ty.val,v1,some (0:Nat),true⟩)])
def z7b (m:Nat) : S Un→Option (EX Un):=lpF_ (zj3 m) zj4 Tryz.f121 [1,1,0,1,2,2] 3
def zng (m:Nat) : Exit→S Un→Option (RF Un):=cxF_ (zj3 m) zj4 Tryz.f121 [1,1,0,1,2] [.d]
def z10l (m:Nat) (w:Wld) (l:List Term) : Option (RF Un):=fnF_ (zj3 m) zj4 Tryz.f121 1 [.d] [.d (.agg (enc Ty.wld w)),.d (.v (.dat (U:=Un) Ty.term l))]
theorem z1rm (m:Nat) (w:Wld) (l:List Term) : z10l m w l=obO ((0:Int)≤(↑l.length:Int)∧(↑l.length:Int)≤(↑l.length:Int)∧(↑l.length:Int).toNat*(32:Nat)≤zf) ((z7b m (z48 w l (0:Int) (List.replicate (↑l.length:Int).toNat zeroVal))).bind (zb (zng m))):=by kernel_rfl
theorem z10m (m:Nat) (w:Wld) (l:List Term) (v0:Int) (v1:List Val) : z7b m (z48 w l v0 v1)=cndO (decide (v0<(↑l.length:Int))) (obO (0≤v0∧v0<(↑l.length:Int)) (obO ((8:Nat)*(Term.ids (l.getD v0.toNat za)).ht+(7:Nat)<m) (obO (okT w (Term.ids (l.getD v0.toNat za))) (obO (0≤v0∧v0<(↑v1.length:Int)) (obO ((0:Nat)≤v0.toNat) (z7b m (z48 w l (IntKind.i64.wrap (v0+1)) (v1.set v0.toNat (z4h w (Term.ids (l.getD v0.toNat za))))))))))) (some (.exit 0,(z48 w l v0 v1))):=lpQ_ (by kernel_rfl)
theorem z1bp (m:Nat) (w:Wld) (l:List Term) (v0:Int) (v1:List Val) : zng m (.exit 0) (z48 w l v0 v1)=some (zr5 (v1)):=by kernel_rfl
theorem z1us {α β:Type} {f:α→Option β} : ∀ {l:List α} {s:List β} (i:Nat),mapQ f l=some s→mapQ f (l.drop i)=some (s.drop i)
 | _,_,0,h=>h
 | [],s,i+1,h=>by simp only[mapQ,y8] at h;subst h;simp [mapQ]
 | x::l,s,i+1,h=>by
  obtain⟨y,r,h1,h2,rfl⟩:=zq6 h;exact z1us i h2
theorem z1hv (m:Nat) (w:Wld) (l:List Term) (_hw:WS .wld w) (hl:WL .term l) (hm:8*htTs l+8<m+1) (h:okTs w l) : z10l m w l=some (zr5 (z4y w l)):=by
 obtain⟨hlen,s,hs⟩:=h;rw[zgy hs];rw[z199] at hs;have hsl:=znc hs;have key:∀ (r:List Term) (i:Nat) (q:List Val),l.drop i=r→i≤l.length→q.length=l.length→q.take i=s.take i→(z7b m (z48 w l (i:Int) q)).bind (zb (zng m))=some (zr5 s):=by
  intro r
  induction r with
  | nil =>
   intro i q hr hi hq ht;have hil:l.length≤i:=by rw[← y1o];exact hr
   have e:z7b m (z48 w l (i:Int) q)=some (.exit 0,z48 w l (i:Int) q):=by rw[z10m,z7,if_neg (by simp;omega)]
   rw[ze e,z1bp];rw[y32 (by omega),y32 (by omega)] at ht;rw[ht]
  | cons x r ih =>
   intro i q hr hi hq ht;obtain⟨a1,a2,a3,hmem⟩:=z54 hr;have hx:l.getD i za=x:=a2 za;have hd:=z1us i hs;rw[hr] at hd;obtain⟨y,s',h1,h2,h3⟩:=zq6 hd;have hht:=zbf hmem;have e:z7b m (z48 w l (i:Int) q)=z7b m (z48 w l ((i+1:Nat):Int) (q.set i y)):=by
    rw[z10m];simp only[z7,Term.ids_eq,y5,hx];rw[if_pos (by simp;omega),z6 (by omega),z6 (by omega),z6 ⟨y,h1⟩,z6 (by omega),z6 (by omega),z3p a1 hl.len,z4z h1]
   rw[e];refine ih (i+1) (q.set i y) a3 (by omega) (by rw[y1n];exact hq) ?_;have hsi:s[i]? = some y:=by
    have:=congrArg (fun z=>z[0]?) h3;simpa using this
   rw[y3b,y3b,List.take_set_of_le (y7 _),ht,hsi,y1a (by omega)]
 rw[z1rm,z6 (by rw[y5];refine⟨by omega,by omega,?_⟩;unfold zf;omega)];have:=key l 0 (List.replicate (l.length:Int).toNat zeroVal) rfl (yb _) (by simp) rfl;exact this
theorem z1o8 (m:Nat) (hG:z7a m) : FnOK 121 (z64 (m+1)):=by
 intro args ob rs os h hob;unfold z64 at h;split at h
 ·simp only[y6,y8,yl] at h;obtain⟨w,e0,l,e1,rfl,rfl,rfl⟩:=h;obtain rfl:=zo e0;obtain rfl:=zw e1;exact⟨z2d (M:=(zj3 m)) rfl (z4m (l1:=[(67,z8l m)]) (l2:=[]) (l3:=[]) (l4:=[]) (l5:=[]) ⟨hG.2.1,trivial⟩ trivial trivial trivial trivial) Tryz.func121 (by kernel_rfl) zj4 1 [.d] (fun hwf=>(z1hv m w l (z40 hwf (a:=.d (.agg (enc Ty.wld w))) (ye (i:=0) rfl)) (z40 hwf (a:=.d (.v (.dat (U:=Un) Ty.term l))) (ye (i:=1) rfl)) (hob _ (ye (i:=0) rfl)) (hob _ (ye (i:=1) rfl)))),zh Tryz.func121 (by kernel_rfl) (by kernel_rfl)⟩
 ·simp at h
def zse (m:Nat) : Mc Un:=mcF_ [(137,zda),(67,z8l m),(161,zd7)] [] [] [] []
def z12r : Nat→NS:=nsF_ [(3,{ ts:=bl 25 57536,bs:=bl 25 128,nm:=[],cs:=true })] true
def z3o (w:Wld) (l:List Term) (x:List Val) (v0:Int) : S Un:=(st 25 25 100 0 [(6,ab false),(7,ax 7),(13,al .term l),(14,ai (↑l.length:Int)),(15,ai v0)] [(7,some (false,encC Ty.wld (zg w x)))] [])
def z9e (m:Nat) : S Un→Option (EX Un):=lpF_ (zse m) z12r Tryz.f136 [1,1,0,1,2,2] 3
def zp7 (m:Nat) : Exit→S Un→Option (RF Un):=cxF_ (zse m) z12r Tryz.f136 [1,1,0,1,2] [.d]
def z1eq (m:Nat) (w:Wld) (l:List Term) (x:List Val) : Option (RF Un):=fnF_ (zse m) z12r Tryz.f136 0 [.d] [.d (.agg (enc Ty.wld w)),.d (.v (.dat (U:=Un) Ty.term l)),.d (.v (.dat (U:=Un) Ty.val x))]
theorem z25h (m:Nat) (w:Wld) (l:List Term) (x:List Val) : z1eq m w l x=obO (w.env.length≤(100000000:Nat)) ((z9e m (z3o w l x (0:Int))).bind (zb (zp7 m))):=by kernel_rfl
theorem zyc (m:Nat) (w:Wld) (l:List Term) (x:List Val) (v0:Int) : z9e m (z3o w l x v0)=cndO (decide (v0<(↑l.length:Int))) (obO (0≤v0∧v0<(↑l.length:Int)) (obO ((8:Nat)*(Term.ids (l.getD v0.toNat za)).ht+(7:Nat)<m) (obO (okT (zg w x) (Term.ids (l.getD v0.toNat za))) (cndO (z2t (z4h (zg w x) (Term.ids (l.getD v0.toNat za))) != 2) (some (.ret,(z3o w l x v0))) (z9e m (z3o w l x (IntKind.i64.wrap (v0+1)))))))) (some (.exit 0,(z3o w l x v0))):=lpQ_ (by kernel_rfl)
theorem z1o9 (m:Nat) (w:Wld) (l:List Term) (x:List Val) (v0:Int) : zp7 m .ret (z3o w l x v0)=some (z8y (false)):=by kernel_rfl
theorem z1rn (m:Nat) (w:Wld) (l:List Term) (x:List Val) (v0:Int) : zp7 m (.exit 0) (z3o w l x v0)=some (z8y (true)):=by kernel_rfl
theorem z1wx (m:Nat) (w:Wld) (l:List Term) (x:List Val) (_hw:WS .wld w) (hl:WL .term l) (_hx:WL .val x) (hm:8*htTs l+8<m+1) (h:okSo w l x) : z1eq m w l x=some (z8y (zdd w l x)):=by
 obtain⟨hE,b,hb⟩:=h;rw[zyb hb];have key:∀ (r:List Term) (i:Nat) (b:Bool),l.drop i=r→i≤l.length→nSo r (zg w x)=some b→(z9e m (z3o w l x (i:Int))).bind (zb (zp7 m))=some (z8y b):=by
  intro r
  induction r with
  | nil =>
   intro i b hr hi hs;have hil:l.length≤i:=by rw[← y1o];exact hr
   have e:z9e m (z3o w l x (i:Int))=some (.exit 0,z3o w l x (i:Int)):=by rw[zyc,z7,if_neg (by simp;omega)]
   rw[ze e,z1rn];simp only[nSo,y8] at hs;rw[hs]
  | cons t r ih =>
   intro i b hr hi hs;obtain⟨a1,a2,a3,hmem⟩:=z54 hr;have ht:l.getD i za=t:=a2 za;have hht:=zbf hmem;simp only[nSo,y6] at hs;obtain⟨v,hv,hs⟩:=hs;by_cases c : z2t v=2
   ·rw[if_pos c] at hs;have e:z9e m (z3o w l x (i:Int))=z9e m (z3o w l x ((i+1:Nat):Int)):=by
     rw[zyc];simp only[z7,Term.ids_eq,y5,ht];rw[if_pos (by simp;omega),z6 (by omega),z6 (by omega),z6 ⟨v,hv⟩,z4z hv,if_neg (by rw[c];decide),z3p a1 hl.len]
    rw[e];exact ih (i+1) b a3 (by omega) hs
   ·rw[if_neg c] at hs;obtain rfl:=yi hs;have e:z9e m (z3o w l x (i:Int))=some (.ret,z3o w l x (i:Int)):=by
     rw[zyc];simp only[z7,Term.ids_eq,y5,ht];rw[if_pos (by simp;omega),z6 (by omega),z6 (by omega),z6 ⟨v,hv⟩,z4z hv,if_pos (by simpa using c)]
    rw[ze e,z1o9]
 rw[z25h,z6 hE];exact key l 0 b rfl (yb _) hb
theorem z22f (m:Nat) (hG:z7a m) : FnOK 136 (zp5 (m+1)):=fnK3 zo zw zw (M:=(zse m)) rfl ⟨zp1,hG.2.1,zhx,trivial⟩ trivial trivial trivial trivial Tryz.func136 fun w l x=>GiF.r fun w1 o=>z1wx m w l x (wfA_ w1 0) (wfA_ w1 1) (wfA_ w1 2) (obA_ o 0) (obA_ o 1)
def z19k (m:Nat) (w:Wld) (r:Rel) (n:Int) : Option (RF Un):=fnF_ (z19i m) z23e Tryz.f91 0 [.m] [.d (.agg (enc Ty.wld w)),.d (.agg (enc Ty.rel r)),.d (.v (.s (.int .i64 n)))]
theorem z22g (m:Nat) (w:Wld) (r:Rel) (n:Int) : z19k m w r n=cndO (decide (n≥(↑r.kids.length:Int))) (some (zue ([]))) (obO (0≤n∧n<(↑r.kids.length:Int)) (obO ((8:Nat)*(Rel.ids (r.kids.getD n.toNat z8)).ht+(7:Nat)<m) (obO (okRl w (Rel.ids (r.kids.getD n.toNat z8))) (some (zue (z9b w (Rel.ids (r.kids.getD n.toNat z8)))))))):=by kernel_rfl
theorem z1ro (m:Nat) (w:Wld) (r:Rel) (n:Int) (_hw:WS .wld w) (_hr:WS .rel r) (_hn:WI n) (hm:8*r.ht+4<m+1) (h:zep w r n) : z19k m w r n=some (zue (zm w r n)):=by
 obtain⟨h0,l,hl⟩:=h;obtain⟨k,rfl⟩ : ∃ k : Nat,n=k:=⟨n.toNat,(y3t h0).symm⟩;rw[y5] at hl;rw[zup hl];rw[z10f] at hl;rw[z22g];simp only[z7,Rel.ids_eq,decide_eq_true_eq,y5];by_cases c : k<r.kids.length
 ·rw[if_pos c] at hl;have hk:(r.kids.getD k z8).ht<r.ht:=Rel.ht_kid (z78 c);rw[if_neg (by omega),z6 (by omega),z6 (by omega),z6 ⟨l,hl⟩,zfx hl]
 ·rw[if_neg c] at hl;obtain rfl:=yi hl;rw[if_pos (by omega)]
theorem z1wy (m:Nat) (hG:z7a m) : FnOK 91 (z86 (m+1)):=fnK3 zo zo z1a (M:=(z19i m)) rfl ⟨hG.2.2.2.2.2.1,trivial⟩ trivial trivial trivial trivial Tryz.func91 fun w r n=>GiF.r fun w1 o=>z1ro m w r n (wfA_ w1 0) (wfA_ w1 1) (wfA_ w1 2) (obA_ o 0) (obA_ o 1)
def z1es (m:Nat) : Mc Un:=mcF_ [(84,z14i),(85,zm4),(86,zmg m),(87,zjl m),(88,zr6 m),(89,znf m),(91,z86 m),(90,zug),(92,zuo m)] [] [] [(93,zma),(94,zmb)] []
def z19l (m:Nat) (w:Wld) (r:Rel) : Option (RF Un):=fnF_ (z1es m) z23e Tryz.f45 0 [.m] [.d (.agg (enc Ty.wld w)),.d (.agg (enc Ty.rel r))]
theorem z22h (m:Nat) (w:Wld) (r:Rel) : z19l m w r=cndO (r.op == 1) (obO (dbOK w.db) (some (zue (z6c w r.table)))) (cndO (r.op == 2) (obO (r.rows.length≤(1000000000:Nat)) (some (zue (r.rows)))) (cndO (r.op == 3) (obO ((8:Nat)*(Rel.ids r).ht+(6:Nat)<m) (obO (z1hm w (Rel.ids r)) (some (zue (za4 w (Rel.ids r)))))) (cndO (r.op == 4) (obO ((8:Nat)*(Rel.ids r).ht+(6:Nat)<m) (obO (z19a w (Rel.ids r)) (some (zue (z8k w (Rel.ids r)))))) (cndO (r.op == 5) (obO ((8:Nat)*(Rel.ids r).ht+(6:Nat)<m) (obO (z1np w (Rel.ids r)) (some (zue (zba w (Rel.ids r)))))) (cndO (r.op == 6) (obO ((8:Nat)*(Rel.ids r).ht+(6:Nat)<m) (obO (z1np w (Rel.ids r)) (some (zue (zba w (Rel.ids r)))))) (cndO (r.op == 7) (obO ((8:Nat)*(Rel.ids r).ht+(6:Nat)<m) (obO (z1rh w (Rel.ids r)) (some (zue (zbs w (Rel.ids r)))))) (cndO (r.op == 8) (obO ((8:Nat)*(Rel.ids r).ht+(4:Nat)<m) (obO (zep w (Rel.ids r) (0:Int)) (obO ((zm w (Rel.ids r) (0:Int)).length≤(100000000:Nat)) (some (zue (z1u (zm w (Rel.ids r) (0:Int)))))))) (cndO (r.op == 9) (obO ((8:Nat)*(Rel.ids r).ht+(6:Nat)<m) (obO (z1nq w (Rel.ids r)) (some (zue (zbb w (Rel.ids r)))))) (cndO (r.op == 10) (obO ((8:Nat)*(Rel.ids r).ht+(6:Nat)<m) (obO (z1nq w (Rel.ids r)) (some (zue (zbb w (Rel.ids r)))))) (cndO (r.op == 11) (obO ((8:Nat)*(Rel.ids r).ht+(6:Nat)<m) (obO (z1nq w (Rel.ids r)) (some (zue (zbb w (Rel.ids r)))))) (cndO (r.op == 12) (obO ((8:Nat)*(Rel.ids r).ht+(4:Nat)<m) (obO (zep w (Rel.ids r) (0:Int)) (obO ((zm w (Rel.ids r) (0:Int)).length≤(100000000:Nat)) (some (zue (z4x (zm w (Rel.ids r) (0:Int)) r.keys)))))) (cndO (r.op == 13) (obO ((8:Nat)*(Rel.ids r).ht+(4:Nat)<m) (obO (zep w (Rel.ids r) (0:Int)) (obO ((zm w (Rel.ids r) (0:Int)).length≤(100000000:Nat)) (some (zue (z3e (zm w (Rel.ids r) (0:Int)) r.limit r.skip)))))) (some (zue ([]))))))))))))))):=by kernel_rfl
theorem z1rp (m:Nat) (w:Wld) (r:Rel) (_hw:WS .wld w) (_hr:WS .rel r) (hm:8*r.ht+7<m+1) (h:okRl w r) : z19l m w r=some (zue (z9b w r)):=by
 obtain⟨v,hv⟩:=h;rw[zfx hv];rw[z1nm,y6] at hv;obtain⟨s,hs,hc⟩:=hv;obtain⟨rfl,hlen⟩:=zwp hc;clear hc;rw[z22h];simp only[z7,Rel.ids_eq,beq_iff_eq];by_cases c1 : r.op=1
 ·rw[if_pos c1] at hs ⊢;obtain⟨h1,h2⟩:=chkQ_some.1 hs;rw[z6 h1,yi h2]
 rw[if_neg c1] at hs ⊢;by_cases c2 : r.op=2
 ·rw[if_pos c2] at hs ⊢;obtain rfl:=yi hs;rw[z6 (by omega)]
 rw[if_neg c2] at hs ⊢;by_cases c3 : r.op=3
 ·rw[if_pos c3] at hs ⊢;have e:za4 w r=s:=by unfold za4 z1au;rw[hs];rfl
  rw[z6 (by omega),z6 ⟨s,hs⟩,e]
 rw[if_neg c3] at hs ⊢;by_cases c4 : r.op=4
 ·rw[if_pos c4] at hs ⊢;have e:z8k w r=s:=by unfold z8k z12n;rw[hs];rfl
  rw[z6 (by omega),z6 ⟨s,hs⟩,e]
 rw[if_neg c4] at hs ⊢;by_cases c5 : r.op=5∨r.op=6
 ·rw[if_pos c5] at hs;have e:zba w r=s:=by unfold zba z1xh;rw[hs];rfl
  rcases c5 with c | c
  ·rw[if_pos c,z6 (by omega),z6 ⟨s,hs⟩,e]
  ·rw[if_neg (by omega),if_pos c,z6 (by omega),z6 ⟨s,hs⟩,e]
 rw[if_neg c5] at hs;rw[if_neg (fun e=>c5 (.inl e)),if_neg (fun e=>c5 (.inr e))];by_cases c7 : r.op=7
 ·rw[if_pos c7] at hs ⊢;have e:zbs w r=s:=by unfold zbs z1no;rw[hs];rfl
  rw[z6 (by omega),z6 ⟨s,hs⟩,e]
 rw[if_neg c7] at hs ⊢;by_cases c8 : r.op=8
 ·rw[if_pos c8] at hs ⊢;obtain⟨l,hl,h4⟩:=y6.1 hs;have hk:=zbt hl;rw[z6 (by omega),z6 (zqa hl),z5q hl,z6 hk,yi h4]
 rw[if_neg c8] at hs ⊢;by_cases c9 : r.op=9∨r.op=10∨r.op=11
 ·rw[if_pos c9] at hs;have e:zbb w r=s:=by unfold zbb nSet;rw[hs];rfl
  rcases c9 with c | c | c
  ·rw[if_pos c,z6 (by omega),z6 ⟨s,hs⟩,e]
  ·rw[if_neg (by omega),if_pos c,z6 (by omega),z6 ⟨s,hs⟩,e]
  ·rw[if_neg (by omega),if_neg (by omega),if_pos c,z6 (by omega),z6 ⟨s,hs⟩,e]
 rw[if_neg c9] at hs;rw[if_neg (fun e=>c9 (.inl e)),if_neg (fun e=>c9 (.inr (.inl e))),if_neg (fun e=>c9 (.inr (.inr e)))];by_cases c12 : r.op=12
 ·rw[if_pos c12] at hs ⊢;obtain⟨l,hl,h4⟩:=y6.1 hs;have hk:=zbt hl;rw[z6 (by omega),z6 (zqa hl),z5q hl,z6 hk,yi h4]
 rw[if_neg c12] at hs ⊢;by_cases c13 : r.op=13
 ·rw[if_pos c13] at hs ⊢;obtain⟨l,hl,h4⟩:=y6.1 hs;have hk:=zbt hl;rw[z6 (by omega),z6 (zqa hl),z5q hl,z6 hk,yi h4]
 rw[if_neg c13] at hs ⊢;rw[yi hs]
theorem z1wz (m:Nat) (hG:z7a m) : FnOK 45 (zmf (m+1)):=fnK2 zo zo (M:=(z1es m)) rfl ⟨z1ra,zqu,hG.2.2.2.2.2.2.1,hG.2.2.2.2.2.2.2.1,hG.2.2.2.2.2.2.2.2.1,hG.2.2.2.2.2.2.2.2.2.2.1,hG.2.2.2.2.1,z14g,hG.2.2.2.2.2.2.2.2.2.2.2,trivial⟩ trivial trivial ⟨z1bl,z1bo,trivial⟩ trivial Tryz.func45 fun w r=>GiF.r fun w1 o=>z1rp m w r (wfA_ w1 0) (wfA_ w1 1) (obA_ o 0) (obA_ o 1)
def zgz (m:Nat) : Mc Un:=mcF_ [(91,z86 m),(136,zp5 m)] [] [] [] []
def znh : Nat→NS:=nsF_ [(3,{ ts:=bl 27 7212,bs:=bl 27 12,nm:=[(.sl 10,108),(.sl 5,109)],cs:=true })] true
def z6q (w:Wld) (r:Rel) (v0:Int) (v1:List (List Val)) : S Un:=(st 27 27 110 0 [(2,ax 2),(3,ax 3),(5,ao 109),(10,ao 108),(11,ai (↑(zm w (Rel.ids r) (0:Int)).length:Int)),(12,ai v0)] [(2,bg .wld w),(3,bg .rel r)] [(108,some ⟨(0:Nat),Ty.row,zm w (Rel.ids r) (0:Int),some (0:Nat),true⟩),(109,some ⟨(0:Nat),Ty.row,v1,some (0:Nat),true⟩)])
def zbc (m:Nat) : S Un→Option (EX Un):=lpF_ (zgz m) znh Tryz.f86 [1,1,0,1,2,2] 3
def zwq (m:Nat) : Exit→S Un→Option (RF Un):=cxF_ (zgz m) znh Tryz.f86 [1,1,0,1,2] [.m]
def zwr (m:Nat) (w:Wld) (r:Rel) : Option (RF Un):=fnF_ (zgz m) znh Tryz.f86 2 [.m] [.d (.agg (enc Ty.wld w)),.d (.agg (enc Ty.rel r))]
theorem z1oa (m:Nat) (w:Wld) (r:Rel) : zwr m w r=obO ((8:Nat)*(Rel.ids r).ht+(4:Nat)<m) (obO (zep w (Rel.ids r) (0:Int)) ((zbc m (z6q w r (0:Int) ([]))).bind (zb (zwq m)))):=by kernel_rfl
theorem zws (m:Nat) (w:Wld) (r:Rel) (v0:Int) (v1:List (List Val)) : zbc m (z6q w r v0 v1)=cndO (decide (v0<(↑(zm w (Rel.ids r) (0:Int)).length:Int))) (obO (0≤v0∧v0<(↑(zm w (Rel.ids r) (0:Int)).length:Int)) (obO ((8:Nat)*htTs r.terms+(8:Nat)<m) (obO (okSo w r.terms ((zm w (Rel.ids r) (0:Int)).getD v0.toNat [])) (cndO (zdd w r.terms ((zm w (Rel.ids r) (0:Int)).getD v0.toNat [])) (obO ((v1.length+[(zm w (Rel.ids r) (0:Int)).getD v0.toNat []].length)*(24:Nat)≤zf) (zbc m (z6q w r (IntKind.i64.wrap (v0+1)) (v1++[(zm w (Rel.ids r) (0:Int)).getD v0.toNat []])))) (zbc m (z6q w r (IntKind.i64.wrap (v0+1)) v1)))))) (some (.exit 0,(z6q w r v0 v1))):=lpQ_ (by kernel_rfl)
theorem z19m (m:Nat) (w:Wld) (r:Rel) (v0:Int) (v1:List (List Val)) : zwq m (.exit 0) (z6q w r v0 v1)=some (zue (v1)):=by kernel_rfl
theorem z1bq (m:Nat) (w:Wld) (r:Rel) (_hw:WS .wld w) (_hr:WS .rel r) (hm:8*r.ht+6<m+1) (h:z1hm w r) : zwr m w r=some (zue (za4 w r)):=by
 obtain⟨v,hv⟩:=h;have e:za4 w r=v:=by unfold za4;rw[hv];rfl
 rw[e];unfold z1au filO at hv;split at hv
 ·rename_i hE;obtain⟨l,hl,hf⟩:=y6.1 hv;have hll:=zbt hl;have ht:=Rel.ht_terms r;have hmem:=z1un hf
  obtain⟨lp,_⟩:=z1p (e:=.exit 0) (L:=zbc m) (st:=fun (o:Rows) i=>z6q w r i o) (l:=l) (d:=[]) (g:=fun o x=>if zdd w r.terms x=true then o++[x] else o) (fun i o=>o.length≤i) (by omega)
   (fun o i x hi hx hI=>by
    have hI':o.length≤i:=hI;have hxm:x∈l:=by rw[← hx];exact z78 (by omega)
    obtain⟨b,hb⟩:=hmem x hxm;rw[zws];simp only[z7,Rel.ids_eq,z5q hl,hi,decide_true,if_true,and_true,y5,hx];rw[z6 (by omega),z6 (by omega),z6 ⟨hE,b,hb⟩];by_cases hp : zdd w r.terms x=true
    ·rw[if_pos hp,if_pos hp,z6 (by unfold zf;rw[yg];omega)];exact⟨by show (o++[x]).length≤i+1;rw[ya,yg];omega,rfl⟩
    ·rw[if_neg hp,if_neg hp]
     exact⟨by show o.length≤i+1;omega,rfl⟩)
   (fun o _=>by rw[zws];simp only[z7,Rel.ids_eq,z5q hl];rw[if_neg (by simp)]) [] (y7 _)
  have hfo:=z1nr (zdd w r.terms) [] hf (fun x hx b hb=>zyb hb);rw[y10] at hfo;rw[z1oa,Rel.ids_eq,z6 (by omega),z6 (zqa hl)];refine (ze lp).trans ?_;rw[z19m,hfo]
 ·simp at hv
theorem z1hw (m:Nat) (hG:z7a m) : FnOK 86 (zmg (m+1)):=fnK2 zo zo (M:=(zgz m)) rfl ⟨hG.2.2.2.2.1,hG.2.2.2.1,trivial⟩ trivial trivial trivial trivial Tryz.func86 fun w r=>GiF.r fun w1 o=>z1bq m w r (wfA_ w1 0) (wfA_ w1 1) (obA_ o 0) (obA_ o 1)
def zeq (m:Nat) : Mc Un:=mcF_ [(91,z86 m),(137,zda),(121,z64 m)] [] [] [] []
def zdf (m:Nat) : S Un→Option (EX Un):=lpF_ (zeq m) znh Tryz.f87 [1,1,0,1,2,2] 3
def zuq (m:Nat) : Exit→S Un→Option (RF Un):=cxF_ (zeq m) znh Tryz.f87 [1,1,0,1,2] [.m]
def zur (m:Nat) (w:Wld) (r:Rel) : Option (RF Un):=fnF_ (zeq m) znh Tryz.f87 2 [.m] [.d (.agg (enc Ty.wld w)),.d (.agg (enc Ty.rel r))]
theorem z1hx (m:Nat) (w:Wld) (r:Rel) : zur m w r=obO ((8:Nat)*(Rel.ids r).ht+(4:Nat)<m) (obO (zep w (Rel.ids r) (0:Int)) ((zdf m (z6q w r (0:Int) ([]))).bind (zb (zuq m)))):=by kernel_rfl
theorem zus (m:Nat) (w:Wld) (r:Rel) (v0:Int) (v1:List (List Val)) : zdf m (z6q w r v0 v1)=cndO (decide (v0<(↑(zm w (Rel.ids r) (0:Int)).length:Int))) (obO (0≤v0∧v0<(↑(zm w (Rel.ids r) (0:Int)).length:Int)) (obO (w.env.length≤(100000000:Nat)) (obO ((8:Nat)*htTs r.terms+(8:Nat)<m) (obO (okTs (zg w ((zm w (Rel.ids r) (0:Int)).getD v0.toNat [])) r.terms) (obO ((v1.length+[z4y (zg w ((zm w (Rel.ids r) (0:Int)).getD v0.toNat [])) r.terms].length)*(24:Nat)≤zf) (zdf m (z6q w r (IntKind.i64.wrap (v0+1)) (v1++[z4y (zg w ((zm w (Rel.ids r) (0:Int)).getD v0.toNat [])) r.terms])))))))) (some (.exit 0,(z6q w r v0 v1))):=lpQ_ (by kernel_rfl)
theorem z150 (m:Nat) (w:Wld) (r:Rel) (v0:Int) (v1:List (List Val)) : zuq m (.exit 0) (z6q w r v0 v1)=some (zue (v1)):=by kernel_rfl
theorem z19n (m:Nat) (w:Wld) (r:Rel) (_hw:WS .wld w) (_hr:WS .rel r) (hm:8*r.ht+6<m+1) (h:z19a w r) : zur m w r=some (zue (z8k w r)):=by
 obtain⟨v,hv⟩:=h;have e:z8k w r=v:=by unfold z8k;rw[hv];rfl
 rw[e];unfold z12n z1as at hv;split at hv
 ·rename_i hE;obtain⟨l,hl,hf⟩:=y6.1 hv;have hll:=zbt hl;have ht:=Rel.ht_terms r;have hmem:=zuj hf
  obtain⟨lp,_⟩:=z1p (e:=.exit 0) (L:=zdf m) (st:=fun (o:Rows) i=>z6q w r i o) (l:=l) (d:=[]) (g:=fun o x=>o++[z4y (zg w x) r.terms]) (fun i o=>o.length=i) (by omega)
   (fun o i x hi hx hI=>by
    have hI':o.length=i:=hI;have hxm:x∈l:=by rw[← hx];exact z78 (by omega)
    obtain⟨b,hb⟩:=hmem x hxm;refine⟨by show (o++[_]).length=i+1;rw[ya,yg];omega,?_⟩;rw[zus];simp only[z7,Rel.ids_eq,z5q hl,hi,decide_true,if_true,and_true,y5,hx]
    rw[z6 (by omega),z6 hE.1,z6 (by omega),z6 ⟨hE.2,b,hb⟩,z6 (by unfold zf;rw[yg];omega)])
   (fun o _=>by rw[zus];simp only[z7,Rel.ids_eq,z5q hl];rw[if_neg (by simp)]) [] rfl
  rw[zfp,y10,zuk (fun x=>z4y (zg w x) r.terms) hf (fun x hx y hy=>zgy hy)] at lp;rw[z1hx,Rel.ids_eq,z6 (by omega),z6 (zqa hl)];refine (ze lp).trans ?_;rw[z150]
 ·simp at hv
theorem z1br (m:Nat) (hG:z7a m) : FnOK 87 (zjl (m+1)):=fnK2 zo zo (M:=(zeq m)) rfl ⟨hG.2.2.2.2.1,zp1,hG.2.2.1,trivial⟩ trivial trivial trivial trivial Tryz.func87 fun w r=>GiF.r fun w1 o=>z19n m w r (wfA_ w1 0) (wfA_ w1 1) (obA_ o 0) (obA_ o 1)
def zco (m:Nat) : Mc Un:=mcF_ [(91,z86 m),(138,z19f),(136,zp5 m)] [] [] [] []
def z87 : Nat→NS:=nsF_ [(7,{ ts:=bl 72 7516193004,bs:=bl 72 12,nm:=[(.sl 5,288),(.sl 6,289),(.sl 30,290),(.sl 7,291)],cs:=true }),(11,{ ts:=bl 72 488552531692,bs:=bl 72 12,nm:=[(.sl 5,292),(.sl 6,293),(.sl 30,294),(.sl 7,295)],cs:=true })] true
def z2x (w:Wld) (r:Rel):=zm w (Rel.mk r.op r.table r.cols r.kids r.terms r.aggs r.keys r.limit r.skip r.all r.rows) (0:Int)
def z70 (w:Wld) (r:Rel):=zm w (Rel.mk r.op r.table r.cols r.kids r.terms r.aggs r.keys r.limit r.skip r.all r.rows) (1:Int)
def zj5 (w:Wld) (r:Rel) (v0:Int) (v4:Int):=z8v [(z2x w r).getD v0.toNat [],(z70 w r).getD v4.toNat []]
def z3y (w:Wld) (r:Rel) (v0:Int) (v1:Option Nat) (v2:List (List Val)) : S Un:=(st 72 72 296 0 [(2,ax 2),(3,ax 3),(5,ao 288),(6,ao 289),(7,ao 291),(30,ao 290),(31,ai (↑(z2x w r).length:Int)),(32,ai v0)] [(2,bg .wld w),(3,bg .rel r)] [(288,some ⟨(0:Nat),Ty.row,zm w (Rel.ids r) (1:Int),some (0:Nat),true⟩),(289,some ⟨(0:Nat),Ty.val,List.replicate (↑(Rel.cols (r.kids.getD 1 z8)).length:Int).toNat zeroVal,v1,true⟩),(290,some ⟨(0:Nat),Ty.row,zm w (Rel.ids r) (0:Int),some (0:Nat),true⟩),(291,some ⟨(0:Nat),Ty.row,v2,some (0:Nat),true⟩)])
def z52 (w:Wld) (r:Rel) (v0:Int) (v1:Option Nat) (v2:List (List Val)) (v3:Bool) (v4:Int) : S Un:=(st 72 72 296 0 [(2,ax 2),(3,ax 3),(5,ao 292),(6,ao 293),(7,ao 295),(9,al .val ((z2x w r).getD v0.toNat [])),(10,ab v3),(30,ao 294),(31,ai (↑(z2x w r).length:Int)),(32,ai v0),(36,ao 292),(37,ai (↑(z70 w r).length:Int)),(38,ai v4)] [(2,bg .wld w),(3,bg .rel r)] [(292,some ⟨(0:Nat),Ty.row,zm w (Rel.ids r) (1:Int),some (0:Nat),true⟩),(293,some ⟨(0:Nat),Ty.val,List.replicate (↑(Rel.cols (r.kids.getD 1 z8)).length:Int).toNat zeroVal,v1,true⟩),(294,some ⟨(0:Nat),Ty.row,zm w (Rel.ids r) (0:Int),some (0:Nat),true⟩),(295,some ⟨(0:Nat),Ty.row,v2,some (0:Nat),true⟩)])
def z5r (m:Nat) : S Un→Option (EX Un):=lpF_ (zco m) z87 Tryz.f88 [1,1,1,1,1,0,1,2,2] 7
noncomputable def z10n : Code:=sub (sub (zi Tryz.f88) [1,1,1,1,1,0,1,2,2]) [1,1,0,2,1,1,0,1,2,2]
def zcp (m:Nat) : S Un→Option (EX Un):=z1l (z87 11) (fun s Q=>awf (zco m) z87 z10n s Q)
def zr8 (m:Nat) : Exit→S Un→Option (RF Un):=cxF_ (zco m) z87 Tryz.f88 [1,1,1,1,1,0,1,2] [.m]
def zni (m:Nat) : Exit→S Un→Option (EX Un):=ctxF (zco m) z87 (sub (zi Tryz.f88) [1,1,1,1,1,0,1,2,2]) [1,1,0,2,1,1,0,1,2] (zby (z87 7) (z5r m))
def z14u (m:Nat) (w:Wld) (r:Rel) : Option (RF Un):=fnF_ (zco m) z87 Tryz.f88 8 [.m] [.d (.agg (enc Ty.wld w)),.d (.agg (enc Ty.rel r))]
theorem z1x0 (m:Nat) (w:Wld) (r:Rel) : z14u m w r=cndO (decide ((↑r.kids.length:Int)<(2:Int))) (some (zue ([]))) (obO ((8:Nat)*(Rel.ids r).ht+(4:Nat)<m) (obO (zep w (Rel.ids r) (1:Int)) (obO ((0:Int)≤(1:Int)∧(1:Int)<(↑r.kids.length:Int)) (obO ((0:Int)≤(↑(Rel.cols (r.kids.getD 1 z8)).length:Int)∧(↑(Rel.cols (r.kids.getD 1 z8)).length:Int)≤(↑(Rel.cols (r.kids.getD 1 z8)).length:Int)∧(↑(Rel.cols (r.kids.getD 1 z8)).length:Int).toNat*(32:Nat)≤zf) (obO ((8:Nat)*(Rel.ids r).ht+(4:Nat)<m) (obO (zep w (Rel.ids r) (0:Int)) ((z5r m (z3y w r (0:Int) (some (0:Nat)) ([]))).bind (zb (zr8 m))))))))):=by kernel_rfl
theorem z14v (m:Nat) (w:Wld) (r:Rel) (v0:Int) (v1:Option Nat) (v2:List (List Val)) : z5r m (z3y w r v0 v1 v2)=cndO (decide (v0<(↑(z2x w r).length:Int))) (obO (0≤v0∧v0<(↑(z2x w r).length:Int)) ((zcp m (z52 w r v0 v1 v2 false (0:Int))).bind (zb (zni m)))) (some (.exit 0,(z3y w r v0 v1 v2))):=lpQ_ (by kernel_rfl)
theorem z1hy (m:Nat) (w:Wld) (r:Rel) (v0:Int) (v1:Option Nat) (v2:List (List Val)) : zr8 m (.exit 0) (z3y w r v0 v1 v2)=some (zue (v2)):=by kernel_rfl
theorem z10o (m:Nat) (w:Wld) (r:Rel) (v0:Int) (v1:Option Nat) (v2:List (List Val)) (v3:Bool) (v4:Int) : zcp m (z52 w r v0 v1 v2 v3 v4)=cndO (decide (v4<(↑(z70 w r).length:Int))) (obO (0≤v4∧v4<(↑(z70 w r).length:Int)) (obO ([(z2x w r).getD v0.toNat [],(z70 w r).getD v4.toNat []].flatten.length≤(1000000000:Nat)) (obO ((8:Nat)*htTs r.terms+(8:Nat)<m) (obO (okSo w r.terms (zj5 w r v0 v4)) (cndO (zdd w r.terms (zj5 w r v0 v4)) (obO ((v2.length+[z8v [(z2x w r).getD v0.toNat [],(z70 w r).getD v4.toNat []]].length)*(24:Nat)≤zf) (zcp m (z52 w r v0 v1 (v2++[z8v [(z2x w r).getD v0.toNat [],(z70 w r).getD v4.toNat []]]) true (IntKind.i64.wrap (v4+1))))) (zcp m (z52 w r v0 v1 v2 v3 (IntKind.i64.wrap (v4+1))))))))) (some (.exit 2,(z52 w r v0 v1 v2 v3 v4))):=(zbe (z87 11) z10n _).trans (by kernel_rfl)
theorem z1bs (m:Nat) (w:Wld) (r:Rel) (v0:Int) (v1:Option Nat) (v2:List (List Val)) (v3:Bool) (v4:Int) : zni m (.exit 2) (z52 w r v0 v1 v2 v3 v4)=cndO (!v3) (cndO (r.op == 6) (obO ([(z2x w r).getD v0.toNat [],List.replicate (↑(Rel.cols (r.kids.getD 1 z8)).length:Int).toNat zeroVal].flatten.length≤(1000000000:Nat)) (obO ((v2.length+[z8v [(z2x w r).getD v0.toNat [],List.replicate (↑(Rel.cols (r.kids.getD 1 z8)).length:Int).toNat zeroVal]].length)*(24:Nat)≤zf) (z5r m (z3y w r (IntKind.i64.wrap (v0+1)) none (v2++[z8v [(z2x w r).getD v0.toNat [],List.replicate (↑(Rel.cols (r.kids.getD 1 z8)).length:Int).toNat zeroVal]]))))) (z5r m (z3y w r (IntKind.i64.wrap (v0+1)) v1 v2))) (z5r m (z3y w r (IntKind.i64.wrap (v0+1)) v1 v2)):=by kernel_rfl
theorem z1ob (m:Nat) (w:Wld) (r:Rel) (_hw:WS .wld w) (_hr:WS .rel r) (hm:8*r.ht+6<m+1) (h:z1np w r) : z14u m w r=some (zue (zba w r)):=by
 obtain⟨v,hv⟩:=h;have e:zba w r=v:=by unfold zba;rw[hv];rfl
 rw[e];have ht:=Rel.ht_terms r;unfold z1xh z1at at hv;rw[z1x0];simp only[z7,Rel.ids_eq,decide_eq_true_eq];by_cases c : r.kids.length<2
 ·rw[if_pos c] at hv;obtain rfl:=yi hv;rw[if_pos (by omega)]
 rw[if_neg c] at hv;rw[if_neg (by omega)];split at hv
 ·rename_i hc;obtain⟨hE,hC⟩:=hc;obtain⟨right,hR,hv⟩:=y6.1 hv;obtain⟨l,hL,hv⟩:=y6.1 hv;obtain⟨s,hS,hv⟩:=y6.1 hv;obtain⟨rfl,hlen⟩:=zwp hv;have hrl:=zbt hR;have hll:=zbt hL;have e1:z2x w r=l:=z5q hL;have e2:z70 w r=right:=zsd hR;have ecc:∀ a b : List Val,z8v [a,b]=a++b:=fun a b=>by unfold z8v;simp
  have efl:∀ a b : List Val,[a,b].flatten.length=a.length+b.length:=fun a b=>by simp
  have inner:∀ (i:Nat) (fr:Option Nat) (a:List Val),l.getD i []=a→∀ (q:Rows) (j:Nat) (out:Rows) (met:Bool) (u:Rows),right.drop j=q→j≤right.length →
    zdc (fun x=>if x.length≤100000000 then nSo r.terms (zg w x) else none) (q.map (a++·))=some u→out.length+u.length≤100000000 →
    zcp m (z52 w r (i:Int) fr out met (j:Int))=some (.exit 2,z52 w r (i:Int) fr (out++u) (met || decide (0<u.length)) (right.length:Int)):=by
   intro i fr a ha q
   induction q with
   | nil =>
    intro j out met u hr hj hu ho;have hjl:right.length≤j:=by rw[← y1o];exact hr
    obtain rfl : j=right.length:=by omega
    simp only[y1l,zdc,y8] at hu;subst hu;rw[z10o,e2,z7,if_neg (by simp)];simp
   | cons b q ih =>
    intro j out met u hr hj hu ho;obtain⟨a1,a2,a3,hmem⟩:=z54 hr;have hb:right.getD j []=b:=a2 [];rw[yt] at hu;obtain⟨y,u',h1,h2,h3⟩:=z12o hu;split at h1
    ·rename_i hab;rw[ya] at hab;have e3:zj5 w r (i:Int) (j:Int)=a++b:=by unfold zj5;rw[e1,e2,y5,y5,ha,hb,ecc]
     rw[z10o,e1,e2,e3];simp only[z7,y5,ha,hb,ecc,efl];rw[if_pos (by simp;omega),z6 (by omega),z6 (by omega),z6 (by omega),z6 ⟨hE,y,h1⟩,zyb h1,z3p a1 (by omega)];cases y with
     | true =>
      rw[if_pos rfl] at h3 ⊢;subst h3;rw[yn] at ho;rw[z6 (by unfold zf;rw[yg];omega),ih (j+1) (out++[a++b]) true u' a3 (by omega) h2 (by rw[ya,yg];omega)];simp
     | false =>
      rw[if_neg (by simp)] at h3 ⊢;subst h3;exact ih (j+1) out met _ a3 (by omega) h2 ho
    ·simp at h1
  have outer:∀ (q:Rows) (i:Nat) (fr:Option Nat) (out:Rows) (s:Rows),l.drop i=q→i≤l.length →
    zwo (decide (r.op=6)) (List.replicate (r.kids.getD 1 z8).cols.length zeroVal) (fun x=>if x.length≤100000000 then nSo r.terms (zg w x) else none) right q=some s→out.length+s.length≤100000000 →
    (z5r m (z3y w r (i:Int) fr out)).bind (zb (zr8 m))=some (zue (out++s)):=by
   intro q
   induction q with
   | nil =>
    intro i fr out s hr hi hs ho;have hil:l.length≤i:=by rw[← y1o];exact hr
    simp only[zwo,y8] at hs;subst hs;have e:z5r m (z3y w r (i:Int) fr out)=some (.exit 0,z3y w r (i:Int) fr out):=by rw[z14v,e1,z7,if_neg (by simp;omega)]
    rw[ze e,z1hy,y15]
   | cons a q ih =>
    intro i fr out s hr hi hs ho;obtain⟨a1,a2,a3,hmem⟩:=z54 hr;have ha:l.getD i []=a:=a2 [];simp only[zwo,y6] at hs;obtain⟨u,hu,z,hz,s',hs',h3⟩:=hs;obtain rfl:=yi h3;rw[ya] at ho;have hzu:u.length≤z.length:=by
     split at hz
     ·rename_i hc;omega
     ·rw[yi hz];exact y7 _
    have e:z5r m (z3y w r (i:Int) fr out)=zni m (.exit 2) (z52 w r (i:Int) fr (out++u) (false || decide (0<u.length)) (right.length:Int)):=by
     rw[z14v,e1,z7,if_pos (by simp;omega),z6 (by omega)];exact ze (inner i fr a ha right 0 out false u rfl (yb _) hu (by omega))
    rw[e,z1bs,e1];simp only[z7,y5,ha,ecc,efl,y3m,z3p a1 (show l.length≤9223372036854775807 by omega),beq_iff_eq];by_cases d : u.length=0
    ·rw[if_pos (by simp [d])];obtain rfl:=y11 d;by_cases d6 : r.op=6
     ·rw[if_pos d6];rw[if_pos ⟨d,by simp [d6]⟩] at hz;split at hz
      ·rename_i hab;obtain rfl:=yi hz;rw[ya,y37] at hab;rw[yg] at ho;rw[z6 (by rw[y37];omega),z6 (by unfold zf;rw[yg,y15];omega),y15];rw[ih (i+1) none _ s' a3 (by omega) hs' (by rw[ya,yg];omega)];simp
      ·simp at hz
     ·rw[if_neg d6];rw[if_neg (fun e=>d6 (by simpa using e.2))] at hz;obtain rfl:=yi hz;rw[y15,ih (i+1) fr out s' a3 (by omega) hs' (by simpa using ho)];simp
    ·rw[if_neg (by rw[decide_eq_true (Nat.pos_of_ne_zero d)];decide)];rw[if_neg (fun e=>d e.1)] at hz;obtain rfl:=yi hz;rw[ih (i+1) fr (out++u) s' a3 (by omega) hs' (by rw[ya];omega),y12]
  rw[z6 (by omega),z6 (z2dz hR),z6 (by omega),z6 (by rw[y5];refine⟨by omega,by omega,?_⟩;unfold zf;omega),z6 (by omega),z6 (zqa hL)];have:=outer l 0 (some 0) [] s rfl (yb _) hS (by simpa using hlen);exact this
 ·simp at hv
theorem z1rq (m:Nat) (hG:z7a m) : FnOK 88 (zr6 (m+1)):=fnK2 zo zo (M:=(zco m)) rfl ⟨hG.2.2.2.2.1,z1wr,hG.2.2.2.1,trivial⟩ trivial trivial trivial trivial Tryz.func88 fun w r=>GiF.r fun w1 o=>z1ob m w r (wfA_ w1 0) (wfA_ w1 1) (obA_ o 0) (obA_ o 1)
def z71 (m:Nat) : Mc Un:=mcF_ [(91,z86 m),(139,za5 m),(140,z1ee),(137,zda),(67,z8l m),(141,z1ue)] [] [] [] []
def z2y : Nat→NS:=nsF_ [(3,{ ts:=bl 76 7340076,bs:=bl 76 12,nm:=[(.sl 5,304)],cs:=true }),(7,{ ts:=bl 76 7523533228,bs:=bl 76 140,nm:=[(.sl 8,305),(.sl 5,306)],cs:=true }),(11,{ ts:=bl 76 969596210604,bs:=bl 76 1164,nm:=[(.sl 11,307),(.sl 8,308),(.sl 5,309)],cs:=true })] true
def z1c (w:Wld) (r:Rel):=zm w (Rel.mk r.op r.table r.cols r.kids r.terms r.aggs r.keys r.limit r.skip r.all r.rows) (0:Int)
def znj (r:Rel) (v2:Int) (v5:List Val):=zec (Agg.mk (Agg.name (r.aggs.getD v2.toNat zn)) (Agg.distinct (r.aggs.getD v2.toNat zn)) (Agg.t (r.aggs.getD v2.toNat zn))) v5
def z9t (w:Wld) (r:Rel) (v0:Int) (v1:List (List Val)) : S Un:=(st 76 76 310 0 [(2,ax 2),(3,ax 3),(5,ao 304),(20,al .bunch (z16 w (z1c w r) r.terms)),(21,ai (↑(z16 w (z1c w r) r.terms).length:Int)),(22,ai v0)] [(2,bg .wld w),(3,bg .rel r)] [(304,some ⟨(0:Nat),Ty.row,v1,some (0:Nat),true⟩)])
def z65 (w:Wld) (r:Rel) (v0:Int) (v1:List (List Val)) (v2:Int) (v3:List Val) : S Un:=(st 76 76 310 0 [(2,ax 2),(3,ax 3),(5,ao 306),(7,ax 7),(8,ao 305),(20,al .bunch (z16 w (z1c w r) r.terms)),(21,ai (↑(z16 w (z1c w r) r.terms).length:Int)),(22,ai v0),(30,al .agg r.aggs),(31,ai (↑r.aggs.length:Int)),(32,ai v2)] [(2,bg .wld w),(3,bg .rel r),(7,some (false,encC Ty.bunch ((z16 w (z1c w r) r.terms).getD v0.toNat zk)))] [(305,some ⟨(0:Nat),Ty.val,v3,some (0:Nat),true⟩),(306,some ⟨(0:Nat),Ty.row,v1,some (0:Nat),true⟩)])
def z4i (w:Wld) (r:Rel) (v0:Int) (v2:Int) (v3:List Val) (v1:List (List Val)) (v4:Int) (v5:List Val) : S Un:=(st 76 76 310 0 [(2,ax 2),(3,ax 3),(5,ao 309),(7,ax 7),(8,ao 308),(10,ax 10),(11,ao 307),(20,al .bunch (z16 w (z1c w r) r.terms)),(21,ai (↑(z16 w (z1c w r) r.terms).length:Int)),(22,ai v0),(30,al .agg r.aggs),(31,ai (↑r.aggs.length:Int)),(32,ai v2),(37,AV.one (A.c (C.sl Ty.row ((z16 w (z1c w r) r.terms).getD v0.toNat zk).rows false))),(38,ai (↑((z16 w (z1c w r) r.terms).getD v0.toNat zk).rows.length:Int)),(39,ai v4)] [(2,bg .wld w),(3,bg .rel r),(7,some (false,encC Ty.bunch ((z16 w (z1c w r) r.terms).getD v0.toNat zk))),(10,some (false,encC Ty.agg (r.aggs.getD v2.toNat zn)))] [(307,some ⟨(0:Nat),Ty.val,v5,some (0:Nat),true⟩),(308,some ⟨(0:Nat),Ty.val,v3,some (0:Nat),true⟩),(309,some ⟨(0:Nat),Ty.row,v1,some (0:Nat),true⟩)])
def zcq (m:Nat) : S Un→Option (EX Un):=lpF_ (z71 m) z2y Tryz.f89 [1,1,0,1,2,2] 3
noncomputable def znk : Code:=sub (sub (zi Tryz.f89) [1,1,0,1,2,2]) [1,1,0,2,1,1,0,1,2,2]
def z9u (m:Nat) : S Un→Option (EX Un):=z1l (z2y 7) (fun s Q=>awf (z71 m) z2y znk s Q)
noncomputable def zwt : Code:=sub (sub (sub (zi Tryz.f89) [1,1,0,1,2,2]) [1,1,0,2,1,1,0,1,2,2]) [1,1,0,2,1,1,0,1,2,2]
def z8e (m:Nat) : S Un→Option (EX Un):=z1l (z2y 11) (fun s Q=>awf (z71 m) z2y zwt s Q)
def z10p (m:Nat) : Exit→S Un→Option (RF Un):=cxF_ (z71 m) z2y Tryz.f89 [1,1,0,1,2] [.m]
def z10q (m:Nat) : Exit→S Un→Option (EX Un):=ctxF (z71 m) z2y (sub (zi Tryz.f89) [1,1,0,1,2,2]) [1,1,0,2,1,1,0,1,2] (zby (z2y 3) (zcq m))
def zwu (m:Nat) : Exit→S Un→Option (EX Un):=ctxF (z71 m) z2y znk [1,1,0,2,1,1,0,1,2] (zby (z2y 7) (z9u m))
def z10r (m:Nat) (w:Wld) (r:Rel) : Option (RF Un):=fnF_ (z71 m) z2y Tryz.f89 6 [.m] [.d (.agg (enc Ty.wld w)),.d (.agg (enc Ty.rel r))]
theorem z1rr (m:Nat) (w:Wld) (r:Rel) : z10r m w r=obO ((8:Nat)*(Rel.ids r).ht+(4:Nat)<m) (obO (zep w (Rel.ids r) (0:Int)) (obO ((8:Nat)*htTs r.terms+(9:Nat)<m) (obO (z29p w (z1c w r) r.terms) ((zcq m (z9t w r (0:Int) ([]))).bind (zb (z10p m)))))):=by kernel_rfl
theorem z10s (m:Nat) (w:Wld) (r:Rel) (v0:Int) (v1:List (List Val)) : zcq m (z9t w r v0 v1)=cndO (decide (v0<(↑(z16 w (z1c w r) r.terms).length:Int))) (obO (0≤v0∧v0<(↑(z16 w (z1c w r) r.terms).length:Int)) (obO (((z16 w (z1c w r) r.terms).getD v0.toNat zk).key.length≤(1000000000:Nat)) ((z9u m (z65 w r v0 v1 (0:Int) (((z16 w (z1c w r) r.terms).getD v0.toNat zk).key))).bind (zb (z10q m))))) (some (.exit 0,(z9t w r v0 v1))):=lpQ_ (by kernel_rfl)
theorem z1bt (m:Nat) (w:Wld) (r:Rel) (v0:Int) (v1:List (List Val)) : z10p m (.exit 0) (z9t w r v0 v1)=some (zue (v1)):=by kernel_rfl
theorem z10t (m:Nat) (w:Wld) (r:Rel) (v0:Int) (v1:List (List Val)) (v2:Int) (v3:List Val) : z9u m (z65 w r v0 v1 v2 v3)=cndO (decide (v2<(↑r.aggs.length:Int))) (obO (0≤v2∧v2<(↑r.aggs.length:Int)) ((z8e m (z4i w r v0 v2 v3 v1 (0:Int) ([]))).bind (zb (zwu m)))) (some (.exit 2,(z65 w r v0 v1 v2 v3))):=(zbe (z2y 7) znk _).trans (by kernel_rfl)
theorem z1bu (m:Nat) (w:Wld) (r:Rel) (v0:Int) (v1:List (List Val)) (v2:Int) (v3:List Val) : z10q m (.exit 2) (z65 w r v0 v1 v2 v3)=obO ((v1.length+[v3].length)*(24:Nat)≤zf) (zcq m (z9t w r (IntKind.i64.wrap (v0+1)) (v1++[v3]))):=by kernel_rfl
theorem zwv (m:Nat) (w:Wld) (r:Rel) (v0:Int) (v2:Int) (v3:List Val) (v1:List (List Val)) (v4:Int) (v5:List Val) : z8e m (z4i w r v0 v2 v3 v1 v4 v5)=cndO (decide (v4<(↑((z16 w (z1c w r) r.terms).getD v0.toNat zk).rows.length:Int))) (obO (0≤v4∧v4<(↑((z16 w (z1c w r) r.terms).getD v0.toNat zk).rows.length:Int)) (cndO ((↑(Agg.t (r.aggs.getD v2.toNat zn)).length:Int) == (0:Int)) (obO ((v5.length+[zeroVal].length)*(32:Nat)≤zf) (z8e m (z4i w r v0 v2 v3 v1 (IntKind.i64.wrap (v4+1)) (v5++[zeroVal])))) (obO (w.env.length≤(100000000:Nat)) (obO ((0:Int)≤(0:Int)∧(0:Int)<(↑(Agg.t (r.aggs.getD v2.toNat zn)).length:Int)) (obO ((8:Nat)*(Term.ids ((Agg.t (r.aggs.getD v2.toNat zn)).getD 0 za)).ht+(7:Nat)<m) (obO (okT (zg w (((z16 w (z1c w r) r.terms).getD v0.toNat zk).rows.getD v4.toNat [])) (Term.ids ((Agg.t (r.aggs.getD v2.toNat zn)).getD 0 za))) (obO ((v5.length+[(z4h (zg w (((z16 w (z1c w r) r.terms).getD v0.toNat zk).rows.getD v4.toNat [])) (Term.ids ((Agg.t (r.aggs.getD v2.toNat zn)).getD 0 za)))].length)*(32:Nat)≤zf) (z8e m (z4i w r v0 v2 v3 v1 (IntKind.i64.wrap (v4+1)) (v5++[(z4h (zg w (((z16 w (z1c w r) r.terms).getD v0.toNat zk).rows.getD v4.toNat [])) (Term.ids ((Agg.t (r.aggs.getD v2.toNat zn)).getD 0 za)))])))))))))) (some (.exit 4,(z4i w r v0 v2 v3 v1 v4 v5))):=(zbe (z2y 11) zwt _).trans (by kernel_rfl)
theorem z19o (m:Nat) (w:Wld) (r:Rel) (v0:Int) (v2:Int) (v3:List Val) (v1:List (List Val)) (v4:Int) (v5:List Val) : zwu m (.exit 4) (z4i w r v0 v2 v3 v1 v4 v5)=obO (v5.length≤(400000:Nat)) (obO ((v3.length+[(znj r v2 v5)].length)*(32:Nat)≤zf) (z9u m (z65 w r v0 v1 (IntKind.i64.wrap (v2+1)) (v3++[(znj r v2 v5)])))):=by kernel_rfl
theorem z1hz (m:Nat) (w:Wld) (r:Rel) (_hw:WS .wld w) (hr:WS .rel r) (hm:8*r.ht+6<m+1) (h:z1rh w r) : z10r m w r=some (zue (zbs w r)):=by
 obtain⟨v,hv⟩:=h;have e:zbs w r=v:=by unfold zbs;rw[hv];rfl
 rw[e];have ht:=Rel.ht_terms r;unfold z1no grpO at hv;split at hv
 ·rename_i hna;obtain⟨l,hL,hv⟩:=y6.1 hv;obtain⟨bs,hB,hv⟩:=y6.1 hv;have hll:=zbt hL;obtain⟨⟨hE,hN,_⟩,hkey,hbl⟩:=z19b hB;have c1:z1c w r=l:=z5q hL;have cb:z16 w l r.terms=bs:=by unfold z16 nBun;rw[hB];rfl
  have hvl:=znc hv
  have L11:∀ (i k:Nat) (row:List Val) (o:Rows) (b:Bunch) (a:Agg) (vs:List Val),bs.getD i zk=b→r.aggs.getD k zn=a→a∈r.aggs→w.env.length≤100000000→mapQ (fun x=>nHd a.t (zg w x)) b.rows=some vs→vs.length≤400000 →
    z8e m (z4i w r (i:Int) (k:Int) row o (0:Int) [])=some (.exit 4,z4i w r (i:Int) (k:Int) row o (b.rows.length:Int) vs):=by
   intro i k row o b a vs hb ha ham hE hmp hvs;have hrl:=znc hmp;have hmem:=zuj hmp;have hat:htTs a.t<r.ht:=by have:=Rel.ht_agg ham;cases a;simp only[Agg.ht] at this;simp only[Agg.t_mk];omega
   obtain⟨lp,_⟩:=z1p (e:=.exit 4) (L:=z8e m) (st:=fun (z:List Val) q=>z4i w r (i:Int) (k:Int) row o q z) (l:=b.rows) (d:=[]) (g:=fun z x=>z++[if a.t.length=0 then zeroVal else z4h (zg w x) (a.t.getD 0 za)]) (fun q z=>z.length=q) (by omega)
    (fun z q x hi hx hI=>by
     have hI':z.length=q:=hI;have hxm:x∈b.rows:=by rw[← hx];exact z78 (by omega)
     obtain⟨y,hy⟩:=hmem x hxm;refine⟨by show (z++[_]).length=q+1;rw[ya,yg];omega,?_⟩;rw[zwv,c1,cb];simp only[z7,Term.ids_eq,y5,hb,ha,hx,beq_iff_eq,yg];rw[if_pos (by simp;omega),z6 (by omega)];by_cases d : a.t.length=0
     ·rw[if_pos (by omega),if_pos d,z6 (by unfold zf;omega)]
     ·rw[z198,if_neg d] at hy;have hk:(a.t.getD 0 za).ht≤htTs a.t:=zbf (z78 (by omega))
      rw[if_neg (by omega),if_neg d,z6 hE,z6 (by omega),z6 (by omega),z6 ⟨y,hy⟩,z6 (by unfold zf;omega)])
    (fun z _=>by rw[zwv,c1,cb];simp only[z7,y5,hb];rw[if_neg (by simp)]) [] rfl
   rw[zfp,y10,zuk (fun x=>if a.t.length=0 then zeroVal else z4h (zg w x) (a.t.getD 0 za)) hmp (fun x hx y hy=>by
    rw[z198] at hy;by_cases d : a.t.length=0
    ·rw[if_pos d] at hy ⊢;exact yi hy
    ·rw[if_neg d] at hy ⊢;exact z4z hy)] at lp
   exact lp
  have L7:∀ (i:Nat) (o:Rows) (b:Bunch) (vs:List Val),bs.getD i zk=b→b.key.length≤100000000→mapQ (fun a=>nA a w b.rows) r.aggs=some vs →
    z9u m (z65 w r (i:Int) o (0:Int) b.key)=some (.exit 2,z65 w r (i:Int) o (r.aggs.length:Int) (b.key++vs)):=by
   intro i o b vs hb hbk hmp;have hrl:=znc hmp;have hmem:=zuj hmp
   obtain⟨lp,_⟩:=z1p (e:=.exit 2) (L:=z9u m) (st:=fun (z:List Val) q=>z65 w r (i:Int) o q z) (l:=r.aggs) (d:=zn) (g:=fun z a=>z++[(nA a w b.rows).getD zeroVal]) (fun q z=>z.length=b.key.length+q) (by omega)
    (fun z q a hi ha hI=>by
     have hI':z.length=b.key.length+q:=hI;have ham:a∈r.aggs:=by rw[← ha];exact z78 (by omega)
     obtain⟨y,hy⟩:=hmem a ham;refine⟨by show (z++[_]).length=_;rw[ya,yg];omega,?_⟩;have hy0:=hy;rw[z2gw,if_pos hE] at hy;obtain⟨us,hu,hy⟩:=y6.1 hy;by_cases hul : us.length≤400000
     ·rw[if_pos hul] at hy;obtain rfl:=yi hy;have c2:znj r (q:Int) us=zec a us:=by
       show zec (Agg.ids (r.aggs.getD (q:Int).toNat zn)) us=_;rw[y5,ha];cases a;rfl
      rw[z10t,z7,if_pos (by simp;omega),z6 (by omega)];refine (ze (L11 i q z o b a us hb ha ham hE hu hul)).trans ?_;rw[z19o,c2,z6 hul,z6 (by unfold zf;rw[yg];omega),hy0];rfl
     ·rw[if_neg hul] at hy;simp at hy)
    (fun z _=>by rw[z10t,z7,if_neg (by simp)]) b.key rfl
   rw[zfp,zuk (fun a=>(nA a w b.rows).getD zeroVal) hmp (fun a ha y hy=>by rw[hy];rfl)] at lp;exact lp
  have hmem:=zuj hv
  obtain⟨lp,_⟩:=z1p (e:=.exit 0) (L:=zcq m) (st:=fun (o:Rows) q=>z9t w r q o) (l:=bs) (d:=zk) (g:=fun o b=>o++[(((nAs r.aggs w b.rows).bind fun vs=>some (b.key++vs))).getD []]) (fun q o=>o.length=q) (by omega)
   (fun o i b hi hb hI=>by
    have hI':o.length=i:=hI;have hbm:b∈bs:=by rw[← hb];exact z78 (by omega)
    obtain⟨y,hy⟩:=hmem b hbm;have hbk:=hkey b hbm;refine⟨by show (o++[_]).length=_;rw[ya,yg];omega,?_⟩;have hy0:=hy;obtain⟨vs,hvs,hy⟩:=y6.1 hy;obtain rfl:=yi hy;have hvs':nAs r.aggs w b.rows=some vs:=hvs;rw[z21t] at hvs';rw[z10s,c1,cb];simp only[z7,y5,hb];rw[if_pos (by simp;omega),z6 (by omega),z6 (by omega)];refine (ze (L7 i o b vs hb (by omega) hvs')).trans ?_;rw[z1bu,z6 (by unfold zf;rw[yg];omega),hy0]
    rfl)
   (fun o _=>by rw[z10s,c1,cb,z7,if_neg (by simp)]) [] rfl
  rw[zfp,y10,zuk (fun b=>(((nAs r.aggs w b.rows).bind fun vs=>some (b.key++vs))).getD []) hv (fun b hb y hy=>by rw[hy];rfl)] at lp;rw[z1rr,Rel.ids_eq,c1,z6 (by omega),z6 (zqa hL),z6 (by omega),z6 ⟨bs,hB⟩];refine (ze lp).trans ?_;rw[z1bt]
 ·simp at hv
theorem z1oc (m:Nat) (hG:z7a m) : FnOK 89 (znf (m+1)):=fnK2 zo zo (M:=(z71 m)) rfl ⟨hG.2.2.2.2.1,hG.2.2.2.2.2.2.2.2.2.1,z219,zp1,hG.2.1,z29k,trivial⟩ trivial trivial trivial trivial Tryz.func89 fun w r=>GiF.r fun w1 o=>z1hz m w r (wfA_ w1 0) (wfA_ w1 1) (obA_ o 0) (obA_ o 1)
def zp8 (m:Nat) : Mc Un:=mcF_ [(91,z86 m),(143,z19g),(90,zug),(85,zm4),(142,zqy)] [] [] [(144,zr2)] []
def zyd : Nat→NS:=nsF_ [(11,{ ts:=bl 64 481036337544,bs:=bl 64 8,nm:=[(.sl 7,256),(.sl 36,257),(.sl 8,258)],cs:=true })] true
def za6 (w:Wld) (r:Rel):=zgx [zm w (Rel.mk r.op r.table r.cols r.kids r.terms r.aggs r.keys r.limit r.skip r.all r.rows) (0:Int),zm w (Rel.mk r.op r.table r.cols r.kids r.terms r.aggs r.keys r.limit r.skip r.all r.rows) (1:Int)]
def zfy (w:Wld) (r:Rel):=zm w (Rel.mk r.op r.table r.cols r.kids r.terms r.aggs r.keys r.limit r.skip r.all r.rows) (1:Int)
def za7 (w:Wld) (r:Rel):=zm w (Rel.mk r.op r.table r.cols r.kids r.terms r.aggs r.keys r.limit r.skip r.all r.rows) (0:Int)
def z2r (r:Rel) (v0:Int) (v1:List (List Val)) (v2:Int) (v3:List (List Val)) (v4:List (List Val)) : S Un:=(st 64 64 259 0 [(3,ax 3),(7,ao 256),(8,ao 258),(36,ao 257),(37,ai v0),(38,ai v2)] [(3,bg .rel r)] [(256,some ⟨(0:Nat),Ty.row,v3,some (0:Nat),true⟩),(257,some ⟨(0:Nat),Ty.row,v1,some (0:Nat),true⟩),(258,some ⟨(0:Nat),Ty.row,v4,some (0:Nat),true⟩)])
def z3z (m:Nat) : S Un→Option (EX Un):=lpF_ (zp8 m) zyd Tryz.f92 [1,1,1,1,1,1,1,0,1,2,2] 11
def zaw (m:Nat) : Exit→S Un→Option (RF Un):=cxF_ (zp8 m) zyd Tryz.f92 [1,1,1,1,1,1,1,0,1,2] [.m]
def z19p (m:Nat) (w:Wld) (r:Rel) : Option (RF Un):=fnF_ (zp8 m) zyd Tryz.f92 3 [.m] [.d (.agg (enc Ty.wld w)),.d (.agg (enc Ty.rel r))]
theorem z22i (m:Nat) (w:Wld) (r:Rel) : z19p m w r=obO ((8:Nat)*(Rel.ids r).ht+(4:Nat)<m) (obO (zep w (Rel.ids r) (0:Int)) (obO ((8:Nat)*(Rel.ids r).ht+(4:Nat)<m) (obO (zep w (Rel.ids r) (1:Int)) (cndO (r.op == 9) (obO ([zm w (Rel.ids r) (0:Int),zm w (Rel.ids r) (1:Int)].flatten.length≤(1000000000:Nat)) (cndO (!r.all) (obO ((za6 w r).length≤(100000000:Nat)) (cndO (r.op == 9) (some (zue (z1u (za6 w r)))) (obO ((zfy w r).length≤(1000000000:Nat)) ((z3z m (z2r r (↑(z1u (za6 w r)).length:Int) (z1u (za6 w r)) (0:Int) (zm w (Rel.ids r) (1:Int)) ([]))).bind (zb (zaw m)))))) (cndO (r.op == 9) (some (zue (za6 w r))) (obO ((zfy w r).length≤(1000000000:Nat)) ((z3z m (z2r r (↑(za6 w r).length:Int) (zgx [zm w (Rel.ids r) (0:Int),zm w (Rel.ids r) (1:Int)]) (0:Int) (zm w (Rel.ids r) (1:Int)) ([]))).bind (zb (zaw m))))))) (cndO (!r.all) (obO ((za7 w r).length≤(100000000:Nat)) (cndO (r.op == 9) (some (zue (z1u (za7 w r)))) (obO ((zfy w r).length≤(1000000000:Nat)) ((z3z m (z2r r (↑(z1u (za7 w r)).length:Int) (z1u (za7 w r)) (0:Int) (zm w (Rel.ids r) (1:Int)) ([]))).bind (zb (zaw m)))))) (cndO (r.op == 9) (some (zue (za7 w r))) (obO ((zfy w r).length≤(1000000000:Nat)) ((z3z m (z2r r (↑(za7 w r).length:Int) (zm w (Rel.ids r) (0:Int)) (0:Int) (zm w (Rel.ids r) (1:Int)) ([]))).bind (zb (zaw m)))))))))):=by kernel_rfl
theorem z14w (m:Nat) (r:Rel) (v0:Int) (v1:List (List Val)) (v2:Int) (v3:List (List Val)) (v4:List (List Val)) : z3z m (z2r r v0 v1 v2 v3 v4)=cndO (decide (v2<v0)) (obO (0≤v2∧v2<(↑v1.length:Int)) (cndO (decide (zr v3 (v1.getD v2.toNat [])≥0)) (obO (0≤zr v3 (v1.getD v2.toNat [])∧zr v3 (v1.getD v2.toNat [])<IntKind.i64.wrap (zr v3 (v1.getD v2.toNat [])+1)∧IntKind.i64.wrap (zr v3 (v1.getD v2.toNat [])+1)≤(↑v3.length:Int)) (cndO (decide (zr v3 (v1.getD v2.toNat [])≥0) == (r.op == 10)) (obO ((v4.length+[v1.getD v2.toNat []].length)*(24:Nat)≤zf) (z3z m (z2r r v0 v1 (IntKind.i64.wrap (v2+1)) (List.take (zr v3 (v1.getD v2.toNat [])).toNat v3++List.drop (IntKind.i64.wrap (zr v3 (v1.getD v2.toNat [])+1)).toNat v3) (v4++[v1.getD v2.toNat []])))) (z3z m (z2r r v0 v1 (IntKind.i64.wrap (v2+1)) (List.take (zr v3 (v1.getD v2.toNat [])).toNat v3++List.drop (IntKind.i64.wrap (zr v3 (v1.getD v2.toNat [])+1)).toNat v3) v4)))) (cndO (decide (zr v3 (v1.getD v2.toNat [])≥0) == (r.op == 10)) (obO ((v4.length+[v1.getD v2.toNat []].length)*(24:Nat)≤zf) (z3z m (z2r r v0 v1 (IntKind.i64.wrap (v2+1)) v3 (v4++[v1.getD v2.toNat []])))) (z3z m (z2r r v0 v1 (IntKind.i64.wrap (v2+1)) v3 v4))))) (some (.exit 0,(z2r r v0 v1 v2 v3 v4))):=lpQ_ (by kernel_rfl)
theorem z1i0 (m:Nat) (r:Rel) (v0:Int) (v1:List (List Val)) (v2:Int) (v3:List (List Val)) (v4:List (List Val)) : zaw m (.exit 0) (z2r r v0 v1 v2 v3 v4)=some (zue (v4)):=by kernel_rfl
theorem z1rs (m:Nat) (w:Wld) (r:Rel) (_hw:WS .wld w) (_hr:WS .rel r) (hm:8*r.ht+6<m+1) (h:z1nq w r) : z19p m w r=some (zue (zbb w r)):=by
 obtain⟨v,hv⟩:=h;have e:zbb w r=v:=by unfold zbb;rw[hv];rfl
 rw[e];unfold nSet setO at hv;obtain⟨a,hA,hv⟩:=y6.1 hv;obtain⟨b,hB,hv⟩:=y6.1 hv;obtain⟨z,hz,hv⟩:=y6.1 hv;obtain rfl:=yi hv;have hal:=zbt hA;have hbl:=zbt hB;have e2:zfy w r=b:=zsd hB;have e3:za7 w r=a:=z5q hA;have e1:za6 w r=a++b:=by
  show zgx [zm w (Rel.ids r) 0,zm w (Rel.ids r) 1]=_;rw[Rel.ids_eq,z5q hA,zsd hB];unfold zgx;simp
 have hpl:∀ (x:List Val) (l:Rows),0≤zr l x→(zr l x).toNat<l.length∧((zr l x).toNat:Int)=zr l x:=fun x l h0=>by
  unfold zr at h0 ⊢;cases hf : l.findIdx? (fun y=>plc1 y x) with
  | none=>rw[hf] at h0;exact absurd h0 (by decide)
  | some i=>exact⟨by simpa using (y2k.1 hf).1,by simp⟩
 have loop:∀ (c:Rows),c.length≤100000000→∀ (q:Rows) (i:Nat) (left out:Rows),c.drop i=q→i≤c.length→left.length≤100000000→out.length≤i →
   (z3z m (z2r r (c.length:Int) c (i:Int) left out)).bind (zb (zaw m))=some (zue (out++setL (decide (r.op=10)) q left)):=by
  intro c hc q
  induction q with
  | nil =>
   intro i left out hr hi hlf ho;have hil:c.length≤i:=by rw[← y1o];exact hr
   have e:z3z m (z2r r (c.length:Int) c (i:Int) left out)=some (.exit 0,z2r r (c.length:Int) c (i:Int) left out):=by rw[z14w,z7,if_neg (by simp;omega)]
   rw[ze e,z1i0];simp only[setL,y15]
  | cons x q ih =>
   intro i left out hr hi hlf ho;obtain⟨a1,a2,a3,hmem⟩:=z54 hr;have hx:c.getD i []=x:=a2 [];have hb0:∀ p : Bool,(p == (r.op == 10))=true↔p=decide (r.op=10):=fun p=>by
    have : (r.op == 10)=decide (r.op=10):=by cases h : decide (r.op=10)<;>simp_all
    rw[this,beq_iff_eq]
   have hge:decide (zr left x≥0)=decide (0≤zr left x):=rfl;have hsl:=z14w m r (c.length:Int) c (i:Int) left out;simp only[z7,y5,hx,z3p a1 (show c.length≤9223372036854775807 by omega),hb0,hge] at hsl;rw[if_pos (by simp;omega),z6 (by omega)] at hsl;simp only[setL];by_cases d : 0≤zr left x
   ·obtain⟨p1,p2⟩:=hpl x left d;obtain⟨p,hp⟩ : ∃ p,p=(zr left x).toNat:=⟨_,rfl⟩;rw[← hp] at p1 p2;have hw1:IntKind.i64.wrap (zr left x+1)=((p+1:Nat):Int):=by rw[← p2];exact z1s (by omega)
    have hlt:(left.take p++left.drop (p+1)).length≤100000000:=by rw[ya,yw,yy];omega
    have he:left.eraseIdx p=left.take p++left.drop (p+1):=List.eraseIdx_eq_take_drop_succ _ _;rw[if_pos (by simpa using d),hw1,← p2,y5,y5,z6 (by omega)] at hsl;rw[if_pos d,← hp,he];have dd:decide (0≤(p:Int))=true:=by simp
    rw[dd] at hsl;rw[decide_eq_true d];by_cases d2 : true=decide (r.op=10)
    ·rw[if_pos d2,z6 (by unfold zf;rw[yg];omega)] at hsl;rw[if_pos d2,hsl,ih (i+1) _ (out++[x]) a3 (by omega) hlt (by rw[ya,yg];omega),y12]
    ·rw[if_neg d2] at hsl;rw[if_neg d2,hsl,ih (i+1) _ out a3 (by omega) hlt (by omega),y10]
   ·rw[if_neg (by simpa using d)] at hsl;rw[if_neg d];rw[decide_eq_false d] at hsl ⊢;by_cases d2 : false=decide (r.op=10)
    ·rw[if_pos d2,z6 (by unfold zf;rw[yg];omega)] at hsl;rw[if_pos d2,hsl,ih (i+1) _ (out++[x]) a3 (by omega) hlf (by rw[ya,yg];omega),y12]
    ·rw[if_neg d2] at hsl;rw[if_neg d2,hsl,ih (i+1) _ out a3 (by omega) hlf (by omega),y10]
 have hon:∀ l : Rows,(z1u l).length≤l.length:=fun l=>by
  have : ∀ (l o:Rows),(l.foldl (fun o x=>if zr o x<0 then o++[x] else o) o).length≤o.length+l.length:=by
   intro l
   induction l with
   | nil=>intro o;simp
   | cons x l ih =>
    intro o;rw[yr];refine y1f (ih _) ?_;split
    ·rw[ya,yg,yn];omega
    ·rw[yn];omega
  have h0:=this l [];rw[y1t,y17] at h0;exact h0
 have s9:∀ c : Rows,r.op=9→setE r.op r.all c b=if r.all=true then c else z1u c:=fun c h=>by unfold setE;rw[if_pos h]
 have s10:∀ c : Rows,r.op≠9→setE r.op r.all c b=setL (decide (r.op=10)) (if r.all=true then c else z1u c) b:=fun c h=>by unfold setE;rw[if_neg h]
 rw[z22i];simp only[z7,Rel.ids_eq,beq_iff_eq,e1,e2,e3,z5q hA,zsd hB];rw[z6 (by omega),z6 (zqa hA),z6 (by omega),z6 (z2dz hB)];by_cases c9 : r.op=9
 ·rw[if_pos c9] at hz;obtain⟨h1,h2⟩:=zwp hz;subst h1;rw[ya] at h2;rw[if_pos c9,z6 (by simp;omega),s9 _ c9];by_cases ca : r.all=true
  ·rw[if_neg (by simp [ca]),if_pos c9,if_pos ca]
  ·rw[if_pos (by simpa using ca),z6 (by rw[ya];omega),if_pos c9,if_neg ca]
 ·rw[if_neg c9] at hz;obtain rfl:=yi hz;rw[if_neg c9,s10 _ c9];by_cases ca : r.all=true
  ·rw[if_neg (by simp [ca]),if_neg c9,z6 (by omega),if_pos ca];have:=loop a (by omega) a 0 b [] rfl (yb _) hbl (yb _);exact this
  ·rw[if_pos (by simpa using ca),z6 (by omega),if_neg c9,z6 (by omega),if_neg ca];have h1:=hon a;have:=loop (z1u a) (by omega) (z1u a) 0 b [] rfl (yb _) hbl (yb _);exact this
theorem z1x1 (m:Nat) (hG:z7a m) : FnOK 92 (zuo (m+1)):=fnK2 zo zo (M:=(zp8 m)) rfl ⟨hG.2.2.2.2.1,z1wt,z14g,zqu,z107,trivial⟩ trivial trivial ⟨z1nz,trivial⟩ trivial Tryz.func92 fun w r=>GiF.r fun w1 o=>z1rs m w r (wfA_ w1 0) (wfA_ w1 1) (obA_ o 0) (obA_ o 1)
theorem z1bv (m:Nat) (hG:z7a m) : FnOK 139 (za5 (m+1)):=by
 intro args ob rs os h hob;unfold za5 at h;split at h
 ·simp only[y6,y8,yl] at h;obtain⟨w,e0,rows,e1,terms,e2,rfl,rfl,rfl⟩:=h;obtain rfl:=zo e0;obtain rfl:=zw e1;obtain rfl:=zw e2;have hm:8*htTs terms+9<m+1:=hob _ (ye (i:=0) rfl);obtain⟨bs,hbs⟩ : z29p w rows terms:=hob _ (ye (i:=1) rfl);have e:z16 w rows terms=bs:=by unfold z16;rw[hbs];rfl
  rw[e];refine⟨z1hu w rows terms bs hbs (fun x key hk=>?_),zh Tryz.func139 (by kernel_rfl) (by kernel_rfl)⟩;have hF:z64 m [.d (.agg (enc Ty.wld (zg w x))),.d (.v (.dat (U:=Un) Ty.term terms))]=some ([8*htTs terms+8<m,okTs (zg w x) terms],zr4 (z4y (zg w x) terms),[]):=by
   unfold z64;simp only[zyq,z1j2,ym];rfl
  have hC:=(hG.2.2.1 _ _ _ _ hF (fun p hp=>by
   simp only[yf,y2j,or_false] at hp;rcases hp with rfl | rfl
   ·omega
   ·exact⟨(z19b hbs).1.2.1,key,hk⟩)).1
  rw[zgy hk] at hC;exact Contract.data hC
 ·simp at h
theorem z32 : ∀ m,z7a m
  | 0 => ⟨fnZ2, fnZ2, by
        intro args ob rs os h hob;unfold z64 at h;split at h
        · simp only[y6,y8,yl] at h;obtain⟨_,_,_,_,rfl,_,_⟩:=h;exact absurd (hob _ (ye (i:=0) rfl)) (y14 _)
        · simp at h
      ,fnZ3,fnZ3,fnZ2,fnZ2,fnZ2,fnZ2,by
        intro args ob rs os h hob;unfold za5 at h;split at h
        · simp only[y6,y8,yl] at h;obtain⟨_,_,_,_,_,_,rfl,_,_⟩:=h;exact absurd (hob _ (ye (i:=0) rfl)) (y14 _)
        · simp at h
      ,fnZ2,fnZ2⟩
  | m+1=>⟨z1rk m (z32 m),z1rl m (z32 m),z1o8 m (z32 m),z22f m (z32 m),z1wy m (z32 m),z1wz m (z32 m),z1hw m (z32 m),z1br m (z32 m),z1rq m (z32 m),z1bv m (z32 m),z1oc m (z32 m),z1x1 m (z32 m)⟩
def z19q : FnC Un:=fnF2 (dS .wld) (dS .term) fun w t=>([okT w t],zx6 (z4h w t))
theorem z1x2 : FnOK 67 z19q:=fnA2 fun m=>(z32 m).2.1
def z1et : FnC Un:=fnF2 (dS .wld) (dS .rel) fun w r=>([okRl w r],zue (z9b w r))
theorem z22j : FnOK 45 z1et:=fnA2 fun m=>(z32 m).2.2.2.2.2.1
end
end B
namespace B
open Go Go.RowKit
set_option maxRecDepth 100000
noncomputable section
attribute [local irreducible] awp ctxK zx z1d retQ z1o awf ctxF z1l
def zye (r:List (List Val)) : RF Un:=([.c (.sl (U:=Un) Ty.row r false)],[])
def z19r (s:List (List Val)) : Option (RF Un):=fnF_ z1c5 z23e Tryz.f44 0 [.d] [.d (.v (.dat (U:=Un) Ty.row s))]
theorem z22k (s:List (List Val)) : z19r s=obO ((0:Int)≤(↑s.length:Int)∧(↑s.length:Int)=(↑s.length:Int)∧(↑s.length:Int)≤(↑s.length:Int)) (some (zye (List.take (↑s.length:Int).toNat s))):=by kernel_rfl
def z19s (s:List (List Val)) : List (List Val):=s
theorem z1rt (s:List (List Val)) (hs:WL .row s) : z19r s=some (zye (z19s s)):=by
 rw[z22k,z6 (by omega),y5,y36];rfl
def z1ev : FnC Un:=fnF1 (dL .row) fun s=>([],zye (z19s s))
theorem z22l : FnOK 44 z1ev:=fnK1 zw (M:=z1c5) rfl trivial trivial trivial trivial trivial Tryz.func44 fun s=>GiF.r fun w _=>z1rt s (wfA_ w 0)
def z1ew : Mc Un:=mcF_ [(45,z1et),(44,z1ev)] [] [] [] []
def z19t (r:Rel) (env:List (List Val)) (db:List Data) : Option (RF Un):=fnF_ z1ew z23e Tryz.f16 0 [.d] [.d (.agg (enc Ty.rel r)),.d (.v (.dat (U:=Un) Ty.row env)),.d (.v (.dat (U:=Un) Ty.data db))]
theorem z22m (r:Rel) (env:List (List Val)) (db:List Data) : z19t r env db=obO (okRl { env:=env,db:=db } (Rel.ids r)) (some (zye (z19s (z9b { env:=env,db:=db } (Rel.ids r))))):=by kernel_rfl
def z19u (r:Rel) (env:List (List Val)) (db:List Data) : List (List Val):=z9b ⟨env,db⟩ r
theorem z1ru (r:Rel) (env:List (List Val)) (db:List Data) (_hr:WS .rel r) (_he:WL .row env) (_hd:WL .data db) (h:okRl ⟨env,db⟩ r) : z19t r env db=some (zye (z19u r env db)):=by
 rw[z22m];simp only[Rel.ids_eq];rw[z6 h];rfl
def z1ex : FnC Un:=fnF3 (dS .rel) (dL .row) (dL .data) fun r env db=>([okRl ⟨env,db⟩ r],zye (z19u r env db))
theorem z22n : FnOK 16 z1ex:=fnK3 zo zw zw (M:=z1ew) rfl ⟨z22j,z22l,trivial⟩ trivial trivial trivial trivial Tryz.func16 fun r env db=>GiF.r fun w o=>z1ru r env db (wfA_ w 0) (wfA_ w 1) (wfA_ w 2) (obA_ o 0)
def z1ey : Mc Un:=mcF_ [(16,z1ex)] [] [] [] []
def z19v (r:Rel) (db:List Data) : Option (RF Un):=fnF_ z1ey z23e Tryz.f14 0 [.d] [.d (.agg (enc Ty.rel r)),.d (.v (.dat (U:=Un) Ty.data db))]
theorem z22o (r:Rel) (db:List Data) : z19v r db=obO (okRl { env:=[],db:=db } (Rel.ids r)) (some (zye (z19u (Rel.ids r) [] db))):=by kernel_rfl
def z66 (r:Rel) (db:List Data) : List (List Val):=z9b ⟨[],db⟩ r
theorem z1rv (r:Rel) (db:List Data) (_hr:WS .rel r) (_hd:WL .data db) (h:okRl ⟨[],db⟩ r) : z19v r db=some (zye (z66 r db)):=by
 rw[z22o];simp only[Rel.ids_eq];rw[z6 h];rfl
def zp9 : FnC Un:=fnF2 (dS .rel) (dL .data) fun r db=>([okRl ⟨[],db⟩ r],zye (z66 r db))
theorem z19w : FnOK 14 zp9:=fnK2 zo zw (M:=z1ey) rfl ⟨z22n,trivial⟩ trivial trivial trivial trivial Tryz.func14 fun r db=>GiF.r fun w o=>z1rv r db (wfA_ w 0) (wfA_ w 1) (obA_ o 0)
def z19x : Mc Un:=mcF_ [(67,z19q)] [] [] [] []
def z14x (t:Term) (env:List (List Val)) (db:List Data) : Option (RF Un):=fnF_ z19x z23e Tryz.f36 0 [.d] [.d (.agg (enc Ty.term t)),.d (.v (.dat (U:=Un) Ty.row env)),.d (.v (.dat (U:=Un) Ty.data db))]
theorem z1x3 (t:Term) (env:List (List Val)) (db:List Data) : z14x t env db=obO (okT { env:=env,db:=db } (Term.ids t)) (some (zx6 (z4h { env:=env,db:=db } (Term.ids t)))):=by kernel_rfl
def zh0 (t:Term) (env:List (List Val)) (db:List Data) : Val:=z4h ⟨env,db⟩ t
theorem z1od (t:Term) (env:List (List Val)) (db:List Data) (_ht:WS .term t) (_he:WL .row env) (_hd:WL .data db) (h:okT ⟨env,db⟩ t) : z14x t env db=some (zx6 (zh0 t env db)):=by
 rw[z1x3];simp only[Term.ids_eq];rw[z6 h];rfl
def zuu : FnC Un:=fnF3 (dS .term) (dL .row) (dL .data) fun t env db=>([okT ⟨env,db⟩ t],zx6 (zh0 t env db))
theorem z1x4 : FnOK 36 zuu:=fnK3 zo zw zw (M:=z19x) rfl ⟨z1x2,trivial⟩ trivial trivial trivial trivial Tryz.func36 fun t env db=>GiF.r fun w o=>z1od t env db (wfA_ w 0) (wfA_ w 1) (wfA_ w 2) (obA_ o 0)
end
end B
end Go.Proofs.YtjfpbchdcbhfgaaGreat
