/- Part 18 of the proof: Snaive5 Snaive6. -/
import Derived.Test.YtjfpbchdcbhfgaaGreatNth17
set_option linter.unusedVariables false
set_option linter.unusedSimpArgs false
namespace Go.Proofs.YtjfpbchdcbhfgaaGreat
namespace B
open Go Go.RowKit
set_option maxRecDepth 100000
noncomputable section
attribute [local irreducible] awp ctxK zu z1d retQ z1p awf ctxF z1o
def zsl (m:Nat) : FnC Un:=fnF2 (dS .wld) (dS .term) fun w t=>z2m (8*t.ht+6) m ([z1po w t],zw2 (z5y w t))
def zbe (m:Nat) : FnC Un:=fnF2 (dS .wld) (dS .term) fun w t=>z2m (8*t.ht+7) m ([okT w t],zys (z70 w t))
def z16b (r:List Val) : List (A Un):=[.c (.sl (U:=Un) Ty.val r false)]
def z1zc (_r:List Val) : List (Ob Un):=[]
def zk2 (r:List Val) : RF Un:=(z16b r,z1zc r)
def zaa (m:Nat) : FnC Un:=fnF2 (dS .wld) (dL .term) fun w l=>z2m (8*htTs l+8) m ([okTs w l],zk2 (z5m w l))
def zqm (m:Nat) : FnC Un:=fnF3 (dS .wld) (dL .term) (dL .val) fun w l x=>z2m (8*htTs l+8) m ([okSo w l x],z9f (ze6 w l x))
def z8g (m:Nat) : FnC Un:=fnF3 (dS .wld) (dS .rel) (dI .i64) fun w r n=>z2m (8*r.ht+4) m ([zfg w r n],zw2 (zo w r n))
def znv (m:Nat) : FnC Un:=fnF2 (dS .wld) (dS .rel) fun w r=>z2m (8*r.ht+7) m ([okRl w r],zw2 (z9s w r))
def znw (m:Nat) : FnC Un:=fnF2 (dS .wld) (dS .rel) fun w r=>z2m (8*r.ht+6) m ([z1jk w r],zw2 (zao w r))
def zkm (m:Nat) : FnC Un:=fnF2 (dS .wld) (dS .rel) fun w r=>z2m (8*r.ht+6) m ([z1ap w r],zw2 (z8z w r))
def zsm (m:Nat) : FnC Un:=fnF2 (dS .wld) (dS .rel) fun w r=>z2m (8*r.ht+6) m ([z1pq w r],zw2 (zc0 w r))
def z1q4 (r:List Bunch) : List (A Un):=[.c (.sl (U:=Un) Ty.bunch r false)]
def z1q5 (_r:List Bunch) : List (Ob Un):=[]
def zap (m:Nat) : FnC Un:=fun args=>match args with
 | [x0,x1,x2]=>(dS .wld x0).bind fun w=>(dL .row x1).bind fun rows=>(dL .term x2).bind fun terms=>some ([8*htTs terms+9<m,z2co w rows terms],z1q4 (z1b w rows terms),z1q5 (z1b w rows terms))
 | _=>none
def zou (m:Nat) : FnC Un:=fnF2 (dS .wld) (dS .rel) fun w r=>z2m (8*r.ht+6) m ([z1tp w r],zw2 (zci w r))
def zwc (m:Nat) : FnC Un:=fnF2 (dS .wld) (dS .rel) fun w r=>z2m (8*r.ht+6) m ([z1pr w r],zw2 (zc1 w r))
def z1ay (m:Nat) : Mc Un:=mcF_ [(45,znv m)] [] [] [] []
def z16c (m:Nat) (w:Wld) (t:Term) : Option (RF Un):=fnF_ (z1ay m) z269 Tryz.f118 0 [.m] [.d (.agg (enc Ty.wld w)),.d (.agg (enc Ty.term t))]
theorem z1zd (m:Nat) (w:Wld) (t:Term) : z16c m w t=cndO ((↑t.sub.length:Int) == (0:Int)) (some (zw2 ([]))) (obO ((0:Int)≤(0:Int)∧(0:Int)<(↑t.sub.length:Int)) (obO ((8:Nat)*(Rel.ids (t.sub.getD 0 za)).ht+(7:Nat)<m) (obO (okRl w (Rel.ids (t.sub.getD 0 za))) (some (zw2 (z9s w (Rel.ids (t.sub.getD 0 za)))))))):=by kernel_rfl
theorem Term.ht_kids (t:Term) : htTs t.kids<t.ht:=by cases t;simp only[Term.kids_mk,Term.ht];omega
theorem Rel.ht_terms (r:Rel) : htTs r.terms<r.ht:=by cases r;simp only[Rel.terms_mk,Rel.ht];omega
theorem zk3 {w:Wld} {t:Term} {l:Rows} (h:nSub t.sub w=some l) : z5y w t=l:=by unfold z5y;rw[h];rfl
theorem z8h {w:Wld} {r:Rel} {l:Rows} (h:nR r w=some l) : z9s w r=l:=by unfold z9s;rw[h];rfl
theorem zbf {w:Wld} {t:Term} {v:Val} (h:nT t w=some v) : z70 w t=v:=by unfold z70;rw[h];rfl
theorem zht {w:Wld} {t:List Term} {v:List Val} (h:nTs t w=some v) : z5m w t=v:=by unfold z5m;rw[h];rfl
theorem zzx {w:Wld} {t:List Term} {x:List Val} {b:Bool} (h:nSo t (zh w x)=some b) : ze6 w t x=b:=by unfold ze6;rw[h];rfl
theorem zwd {w:Wld} {r:Rel} {n:Nat} {l:Rows} (h:nKid r.kids n w=some l) : zo w r (n:Int)=l:=by unfold zo;rw[y5,h];rfl
theorem z5z {w:Wld} {r:Rel} {l:Rows} (h:nKid r.kids 0 w=some l) : zo w r (0:Int)=l:=zwd (n:=0) h
theorem zty {w:Wld} {r:Rel} {l:Rows} (h:nKid r.kids 1 w=some l) : zo w r (1:Int)=l:=zwd (n:=1) h
theorem zro {w:Wld} {r:Rel} {l:Rows} (h:nKid r.kids 0 w=some l) : zfg w r (0:Int):=⟨y29 _,l,h⟩
theorem z2h2 {w:Wld} {r:Rel} {l:Rows} (h:nKid r.kids 1 w=some l) : zfg w r (1:Int):=⟨by omega,l,h⟩
theorem z1q6 (m:Nat) (w:Wld) (t:Term) (_hw:WS .wld w) (_ht:WS .term t) (hm:8*t.ht+6<m+1) (h:z1po w t) : z16c m w t=some (zw2 (z5y w t)):=by
 obtain⟨l,hl⟩:=h;rw[zk3 hl];rw[z29j] at hl;rw[z1zd];simp only[z8,Rel.ids_eq,beq_iff_eq];by_cases h0 : t.sub.length=0
 ·rw[if_pos h0] at hl;obtain rfl:=yi hl;rw[if_pos (by omega)]
 ·rw[if_neg h0] at hl;have hs:(t.sub.getD 0 za).ht<t.ht:=Term.ht_sub (z61 (by omega));rw[if_neg (by omega),z6 (by omega),z6 (by omega),z6 ⟨l,hl⟩,z8h hl]
abbrev z7j (m:Nat) : Prop:=FnOK 118 (zsl m)∧FnOK 67 (zbe m)∧FnOK 121 (zaa m)∧FnOK 136 (zqm m)∧FnOK 91 (z8g m)∧FnOK 45 (znv m)∧FnOK 86 (znw m)∧FnOK 87 (zkm m)∧FnOK 88 (zsm m)∧FnOK 139 (zap m)∧FnOK 89 (zou m)∧FnOK 92 (zwc m)
theorem z1ts (m:Nat) (hG:z7j m) : FnOK 118 (zsl (m+1)):=fnK2 zq zq (M:=(z1ay m)) rfl ⟨hG.2.2.2.2.2.1,trivial⟩ trivial trivial trivial trivial Tryz.func118 fun w t=>GiF.r fun w1 o=>z1q6 m w t (wfA_ w1 0) (wfA_ w1 1) (obA_ o 0) (obA_ o 1)
def z1az (m:Nat) : Mc Un:=mcF_ [(117,z15n),(118,zsl m),(39,zdb),(67,zbe m),(119,z161),(121,zaa m),(120,zom)] [] [] [] []
def z16d (m:Nat) (w:Wld) (t:Term) : Option (RF Un):=fnF_ (z1az m) z269 Tryz.f67 0 [.d] [.d (.agg (enc Ty.wld w)),.d (.agg (enc Ty.term t))]
theorem z1ze (m:Nat) (w:Wld) (t:Term) : z16d m w t=cndO (t.op == 1) (obO ((Term.ids t).sz≤(2000000:Nat)) (obO (strT (Term.ids t)) (obO (z6y w.env) (some (zys (z3x (Term.ids t) w.env)))))) (cndO (t.op == 2) (obO ((Term.ids t).sz≤(2000000:Nat)) (obO (strT (Term.ids t)) (obO (z6y w.env) (some (zys (z3x (Term.ids t) w.env)))))) (cndO (t.op == 26) (obO ((8:Nat)*(Term.ids t).ht+(6:Nat)<m) (obO (z1po w (Term.ids t)) (cndO ((↑(z5y w (Term.ids t)).length:Int) == (1:Int)) (obO ((0:Int)≤(0:Int)∧(0:Int)<(↑(z5y w (Term.ids t)).length:Int)) (cndO (decide ((↑(List.length ((z5y w (Term.ids t)).getD 0 [])):Int) > (0:Int))) (obO ((0:Int)≤(0:Int)∧(0:Int)<(↑(z5y w (Term.ids t)).length:Int)) (obO ((0:Int)≤(0:Int)∧(0:Int)<(↑(List.length ((z5y w (Term.ids t)).getD 0 [])):Int)) (some (zys (List.getD ((z5y w (Term.ids t)).getD 0 []) 0 z7))))) (some (zys (z7))))) (some (zys (z7)))))) (cndO (t.op == 27) (obO ((8:Nat)*(Term.ids t).ht+(6:Nat)<m) (obO (z1po w (Term.ids t)) (some (zys (z2n (decide ((↑(z5y w (Term.ids t)).length:Int) > (0:Int)))))))) (cndO (t.op == 28) (cndO ((↑t.kids.length:Int) == (0:Int)) (some (zys (z7))) (obO ((0:Int)≤(0:Int)∧(0:Int)<(↑t.kids.length:Int)) (obO ((8:Nat)*(Term.ids (t.kids.getD 0 zb)).ht+(7:Nat)<m) (obO (okT w (Term.ids (t.kids.getD 0 zb))) (obO ((8:Nat)*(Term.ids t).ht+(6:Nat)<m) (obO (z1po w (Term.ids t)) (some (zys (ziy (z70 w (Term.ids (t.kids.getD 0 zb))) (z5y w (Term.ids t))))))))))) (obO ((8:Nat)*htTs t.kids+(8:Nat)<m) (obO (okTs w t.kids) (obO (txts (z5m w t.kids)) (some (zys (zr t.op t.name (z5m w t.kids))))))))))):=by kernel_rfl
theorem z1q7 (m:Nat) (w:Wld) (t:Term) (_hw:WS .wld w) (_ht:WS .term t) (hm:8*t.ht+7<m+1) (h:okT w t) : z16d m w t=some (zys (z70 w t)):=by
 obtain⟨v,hv⟩:=h;rw[zbf hv];rw[z1cf] at hv;rw[z1ze];simp only[z8,Term.ids_eq,beq_iff_eq,decide_eq_true_eq];have hkd:=Term.ht_kids t;by_cases c12 : t.op=1∨t.op=2
 ·rw[if_pos c12] at hv;obtain⟨⟨h1,h2,h3⟩,h4⟩:=chkQ_some.1 hv;obtain rfl:=yi h4;rcases c12 with c | c
  ·rw[if_pos c,z6 h1,z6 h2,z6 h3]
  ·rw[if_neg (by omega),if_pos c,z6 h1,z6 h2,z6 h3]
 rw[if_neg c12] at hv;rw[if_neg (fun e=>c12 (.inl e)),if_neg (fun e=>c12 (.inr e))];by_cases c3 : t.op=26
 ·rw[if_pos c3] at hv ⊢;obtain⟨l,hl,h4⟩:=y7.1 hv;obtain rfl:=yi h4;rw[z6 (by omega),z6 ⟨l,hl⟩,zk3 hl];by_cases d1 : l.length=1
  ·rw[if_pos (by omega),z6 (by omega)];by_cases d2 : 0<(l.getD 0 []).length
   ·rw[if_pos (by omega),z6 (by omega),z6 (by omega),if_pos ⟨d1,d2⟩]
   ·rw[if_neg (by omega),if_neg (fun e=>d2 e.2)]
  ·rw[if_neg (by omega),if_neg (fun e=>d1 e.1)]
 rw[if_neg c3] at hv ⊢;by_cases c4 : t.op=27
 ·rw[if_pos c4] at hv ⊢;obtain⟨l,hl,h4⟩:=y7.1 hv;obtain rfl:=yi h4;rw[z6 (by omega),z6 ⟨l,hl⟩,zk3 hl];have e:decide ((l.length:Int) > 0)=decide (0<l.length):=decide_eq_decide.2 (by omega);rw[e]
 rw[if_neg c4] at hv ⊢;by_cases c5 : t.op=28
 ·rw[if_pos c5] at hv ⊢;by_cases d : t.kids.length=0
  ·rw[if_pos d] at hv;obtain rfl:=yi hv;rw[if_pos (by omega)]
  ·rw[if_neg d] at hv;obtain⟨x,hx,h4⟩:=y7.1 hv;obtain⟨l,hl,h5⟩:=y7.1 h4;obtain rfl:=yi h5;rw[z1an,if_neg d] at hx;have hk:(t.kids.getD 0 zb).ht<t.ht:=Term.ht_kidD (by omega);rw[if_neg (by omega),z6 (by omega),z6 (by omega),z6 ⟨x,hx⟩,z6 (by omega),z6 ⟨l,hl⟩,zbf hx,zk3 hl]
 rw[if_neg c5] at hv ⊢;split at hv
 ·rename_i hk;obtain⟨l,hl,h4⟩:=y7.1 hv;obtain⟨h5,h6⟩:=chkQ_some.1 h4;obtain rfl:=yi h6;rw[z6 (by omega),z6 ⟨by omega,l,hl⟩,zht hl,z6 h5]
 ·simp at hv
theorem z1tt (m:Nat) (hG:z7j m) : FnOK 67 (zbe (m+1)):=fnK2 zq zq (M:=(z1az m)) rfl ⟨z1sx,hG.1,zs7,hG.2.1,z1tg,hG.2.2.1,zxy,trivial⟩ trivial trivial trivial trivial Tryz.func67 fun w t=>GiF.r fun w1 o=>z1q7 m w t (wfA_ w1 0) (wfA_ w1 1) (obA_ o 0) (obA_ o 1)
def zk4 (m:Nat) : Mc Un:=mcF_ [(67,zbe m)] [] [] [] []
def zso : Nat→NS:=nsF_ [(3,{ ts:=bl 26 14372,bs:=bl 26 4,nm:=[(.sl 5,104)],cs:=true })] true
def z4h (w:Wld) (l:List Term) (v0:Int) (v1:List Val) : S Un:=(st 26 26 105 0 [(2,ax 2),(5,ao 104),(11,al .term l),(12,ai (↑l.length:Int)),(13,ai v0)] [(2,bg .wld w)] [(104,some ⟨(0:Nat),Ty.val,v1,some (0:Nat),true⟩)])
def z7k (m:Nat) : S Un→Option (EX Un):=lpF_ (zk4 m) zso Tryz.f121 [1,1,0,1,2,2] 3
def zov (m:Nat) : Exit→S Un→Option (RF Un):=cxF_ (zk4 m) zso Tryz.f121 [1,1,0,1,2] [.d]
def z124 (m:Nat) (w:Wld) (l:List Term) : Option (RF Un):=fnF_ (zk4 m) zso Tryz.f121 1 [.d] [.d (.agg (enc Ty.wld w)),.d (.v (.dat (U:=Un) Ty.term l))]
theorem z1tu (m:Nat) (w:Wld) (l:List Term) : z124 m w l=obO ((0:Int)≤(↑l.length:Int)∧(↑l.length:Int)≤(↑l.length:Int)∧(↑l.length:Int).toNat*(32:Nat)≤zi) ((z7k m (z4h w l (0:Int) (List.replicate (↑l.length:Int).toNat z7))).bind (zd (zov m))):=by kernel_rfl
theorem z125 (m:Nat) (w:Wld) (l:List Term) (v0:Int) (v1:List Val) : z7k m (z4h w l v0 v1)=cndO (decide (v0<(↑l.length:Int))) (obO (0≤v0∧v0<(↑l.length:Int)) (obO ((8:Nat)*(Term.ids (l.getD v0.toNat zb)).ht+(7:Nat)<m) (obO (okT w (Term.ids (l.getD v0.toNat zb))) (obO (0≤v0∧v0<(↑v1.length:Int)) (obO ((0:Nat)≤v0.toNat) (z7k m (z4h w l (IntKind.i64.wrap (v0+1)) (v1.set v0.toNat (z70 w (Term.ids (l.getD v0.toNat zb))))))))))) (some (.exit 0,(z4h w l v0 v1))):=lpQ_ (by kernel_rfl)
theorem z1dd (m:Nat) (w:Wld) (l:List Term) (v0:Int) (v1:List Val) : zov m (.exit 0) (z4h w l v0 v1)=some (zk2 (v1)):=by kernel_rfl
theorem z1x1 {α β:Type} {f:α→Option β} : ∀ {l:List α} {s:List β} (i:Nat),mapQ f l=some s→mapQ f (l.drop i)=some (s.drop i)
 | _,_,0,h=>h
 | [],s,i+1,h=>by simp only[mapQ,y8] at h;subst h;simp [mapQ]
 | x::l,s,i+1,h=>by
  obtain⟨y,r,h1,h2,rfl⟩:=zrk h;exact z1x1 i h2
theorem z1jt (m:Nat) (w:Wld) (l:List Term) (_hw:WS .wld w) (hl:WL .term l) (hm:8*htTs l+8<m+1) (h:okTs w l) : z124 m w l=some (zk2 (z5m w l)):=by
 obtain⟨hlen,s,hs⟩:=h;rw[zht hs];rw[z1ao] at hs;have hsl:=zor hs;have key:∀ (r:List Term) (i:Nat) (q:List Val),l.drop i=r→i≤l.length→q.length=l.length→q.take i=s.take i→(z7k m (z4h w l (i:Int) q)).bind (zd (zov m))=some (zk2 s):=by
  intro r
  induction r with
  | nil =>
   intro i q hr hi hq ht;have hil:l.length≤i:=by rw[← y1n];exact hr
   have e:z7k m (z4h w l (i:Int) q)=some (.exit 0,z4h w l (i:Int) q):=by rw[z125,z8,if_neg (by simp;omega)]
   rw[zg e,z1dd];rw[y34 (by omega),y34 (by omega)] at ht;rw[ht]
  | cons x r ih =>
   intro i q hr hi hq ht;obtain⟨a1,a2,a3,hmem⟩:=z39 hr;have hx:l.getD i zb=x:=a2 zb;have hd:=z1x1 i hs;rw[hr] at hd;obtain⟨y,s',h1,h2,h3⟩:=zrk hd;have hht:=zc6 hmem;have e:z7k m (z4h w l (i:Int) q)=z7k m (z4h w l ((i+1:Nat):Int) (q.set i y)):=by
    rw[z125];simp only[z8,Term.ids_eq,y5,hx];rw[if_pos (by simp;omega),z6 (by omega),z6 (by omega),z6 ⟨y,h1⟩,z6 (by omega),z6 (by omega),z40 a1 hl.len,zbf h1]
   rw[e];refine ih (i+1) (q.set i y) a3 (by omega) (by rw[y1r];exact hq) ?_;have hsi:s[i]? = some y:=by
    have:=congrArg (fun z=>z[0]?) h3;simpa using this
   rw[y3p,y3p,List.take_set_of_le (y6 _),ht,hsi,y1c (by omega)]
 rw[z1tu,z6 (by rw[y5];refine⟨by omega,by omega,?_⟩;unfold zi;omega)];have:=key l 0 (List.replicate (l.length:Int).toNat z7) rfl (yb _) (by simp) rfl;exact this
theorem z1q8 (m:Nat) (hG:z7j m) : FnOK 121 (zaa (m+1)):=fnK2 zq z10 (M:=(zk4 m)) rfl ⟨hG.2.1,trivial⟩ trivial trivial trivial trivial Tryz.func121 fun w l=>GiF.r fun w1 o=>z1jt m w l (wfA_ w1 0) (wfA_ w1 1) (obA_ o 0) (obA_ o 1)
def ztz (m:Nat) : Mc Un:=mcF_ [(137,ze5),(67,zbe m),(161,ze2)] [] [] [] []
def z14a : Nat→NS:=nsF_ [(3,{ ts:=bl 25 57536,bs:=bl 25 128,nm:=[],cs:=true })] true
def z3z (w:Wld) (l:List Term) (x:List Val) (v0:Int) : S Un:=(st 25 25 100 0 [(6,ab false),(7,ax 7),(13,al .term l),(14,ai (↑l.length:Int)),(15,ai v0)] [(7,some (false,encC Ty.wld (zh w x)))] [])
def z9v (m:Nat) : S Un→Option (EX Un):=lpF_ (ztz m) z14a Tryz.f136 [1,1,0,1,2,2] 3
def zqo (m:Nat) : Exit→S Un→Option (RF Un):=cxF_ (ztz m) z14a Tryz.f136 [1,1,0,1,2] [.d]
def z1gj (m:Nat) (w:Wld) (l:List Term) (x:List Val) : Option (RF Un):=fnF_ (ztz m) z14a Tryz.f136 0 [.d] [.d (.agg (enc Ty.wld w)),.d (.v (.dat (U:=Un) Ty.term l)),.d (.v (.dat (U:=Un) Ty.val x))]
theorem z28f (m:Nat) (w:Wld) (l:List Term) (x:List Val) : z1gj m w l x=obO (w.env.length≤(100000000:Nat)) ((z9v m (z3z w l x (0:Int))).bind (zd (zqo m))):=by kernel_rfl
theorem zzy (m:Nat) (w:Wld) (l:List Term) (x:List Val) (v0:Int) : z9v m (z3z w l x v0)=cndO (decide (v0<(↑l.length:Int))) (obO (0≤v0∧v0<(↑l.length:Int)) (obO ((8:Nat)*(Term.ids (l.getD v0.toNat zb)).ht+(7:Nat)<m) (obO (okT (zh w x) (Term.ids (l.getD v0.toNat zb))) (cndO (z1e (z70 (zh w x) (Term.ids (l.getD v0.toNat zb))) != 2) (some (.ret,(z3z w l x v0))) (z9v m (z3z w l x (IntKind.i64.wrap (v0+1)))))))) (some (.exit 0,(z3z w l x v0))):=lpQ_ (by kernel_rfl)
theorem z1q9 (m:Nat) (w:Wld) (l:List Term) (x:List Val) (v0:Int) : zqo m .ret (z3z w l x v0)=some (z9f (false)):=by kernel_rfl
theorem z1tv (m:Nat) (w:Wld) (l:List Term) (x:List Val) (v0:Int) : zqo m (.exit 0) (z3z w l x v0)=some (z9f (true)):=by kernel_rfl
theorem z1zf (m:Nat) (w:Wld) (l:List Term) (x:List Val) (_hw:WS .wld w) (hl:WL .term l) (_hx:WL .val x) (hm:8*htTs l+8<m+1) (h:okSo w l x) : z1gj m w l x=some (z9f (ze6 w l x)):=by
 obtain⟨hE,b,hb⟩:=h;rw[zzx hb];have key:∀ (r:List Term) (i:Nat) (b:Bool),l.drop i=r→i≤l.length→nSo r (zh w x)=some b→(z9v m (z3z w l x (i:Int))).bind (zd (zqo m))=some (z9f b):=by
  intro r
  induction r with
  | nil =>
   intro i b hr hi hs;have hil:l.length≤i:=by rw[← y1n];exact hr
   have e:z9v m (z3z w l x (i:Int))=some (.exit 0,z3z w l x (i:Int)):=by rw[zzy,z8,if_neg (by simp;omega)]
   rw[zg e,z1tv];simp only[nSo,y8] at hs;rw[hs]
  | cons t r ih =>
   intro i b hr hi hs;obtain⟨a1,a2,a3,hmem⟩:=z39 hr;have ht:l.getD i zb=t:=a2 zb;have hht:=zc6 hmem;simp only[nSo,y7] at hs;obtain⟨v,hv,hs⟩:=hs;by_cases c : z1e v=2
   ·rw[if_pos c] at hs;have e:z9v m (z3z w l x (i:Int))=z9v m (z3z w l x ((i+1:Nat):Int)):=by
     rw[zzy];simp only[z8,Term.ids_eq,y5,ht];rw[if_pos (by simp;omega),z6 (by omega),z6 (by omega),z6 ⟨v,hv⟩,zbf hv,if_neg (by rw[c];decide),z40 a1 hl.len]
    rw[e];exact ih (i+1) b a3 (by omega) hs
   ·rw[if_neg c] at hs;obtain rfl:=yi hs;have e:z9v m (z3z w l x (i:Int))=some (.ret,z3z w l x (i:Int)):=by
     rw[zzy];simp only[z8,Term.ids_eq,y5,ht];rw[if_pos (by simp;omega),z6 (by omega),z6 (by omega),z6 ⟨v,hv⟩,zbf hv,if_pos (by simpa using c)]
    rw[zg e,z1q9]
 rw[z28f,z6 hE];exact key l 0 b rfl (yb _) hb
theorem z254 (m:Nat) (hG:z7j m) : FnOK 136 (zqm (m+1)):=fnK3 zq z10 z10 (M:=(ztz m)) rfl ⟨zqj,hG.2.1,zit,trivial⟩ trivial trivial trivial trivial Tryz.func136 fun w l x=>GiF.r fun w1 o=>z1zf m w l x (wfA_ w1 0) (wfA_ w1 1) (wfA_ w1 2) (obA_ o 0) (obA_ o 1)
def z1b0 (m:Nat) (w:Wld) (r:Rel) (n:Int) : Option (RF Un):=fnF_ (z1ay m) z269 Tryz.f91 0 [.m] [.d (.agg (enc Ty.wld w)),.d (.agg (enc Ty.rel r)),.d (.v (.s (.int .i64 n)))]
theorem z255 (m:Nat) (w:Wld) (r:Rel) (n:Int) : z1b0 m w r n=cndO (decide (n≥(↑r.kids.length:Int))) (some (zw2 ([]))) (obO (0≤n∧n<(↑r.kids.length:Int)) (obO ((8:Nat)*(Rel.ids (r.kids.getD n.toNat za)).ht+(7:Nat)<m) (obO (okRl w (Rel.ids (r.kids.getD n.toNat za))) (some (zw2 (z9s w (Rel.ids (r.kids.getD n.toNat za)))))))):=by kernel_rfl
theorem z1tw (m:Nat) (w:Wld) (r:Rel) (n:Int) (_hw:WS .wld w) (_hr:WS .rel r) (_hn:WI n) (hm:8*r.ht+4<m+1) (h:zfg w r n) : z1b0 m w r n=some (zw2 (zo w r n)):=by
 obtain⟨h0,l,hl⟩:=h;obtain⟨k,rfl⟩ : ∃ k : Nat,n=k:=⟨n.toNat,(y3v h0).symm⟩;rw[y5] at hl;rw[zwd hl];rw[zud] at hl;rw[z255];simp only[z8,Rel.ids_eq,decide_eq_true_eq,y5];by_cases c : k<r.kids.length
 ·rw[if_pos c] at hl;have hk:(r.kids.getD k za).ht<r.ht:=Rel.ht_kid (z61 c);rw[if_neg (by omega),z6 (by omega),z6 (by omega),z6 ⟨l,hl⟩,z8h hl]
 ·rw[if_neg c] at hl;obtain rfl:=yi hl;rw[if_pos (by omega)]
theorem z1zg (m:Nat) (hG:z7j m) : FnOK 91 (z8g (m+1)):=fnK3 zq zq z1c (M:=(z1ay m)) rfl ⟨hG.2.2.2.2.2.1,trivial⟩ trivial trivial trivial trivial Tryz.func91 fun w r n=>GiF.r fun w1 o=>z1tw m w r n (wfA_ w1 0) (wfA_ w1 1) (wfA_ w1 2) (obA_ o 0) (obA_ o 1)
def z1gl (m:Nat) : Mc Un:=mcF_ [(84,z162),(85,znj),(86,znw m),(87,zkm m),(88,zsm m),(89,zou m),(91,z8g m),(90,zw4),(92,zwc m)] [] [] [(93,znq),(94,znr)] []
def z1b1 (m:Nat) (w:Wld) (r:Rel) : Option (RF Un):=fnF_ (z1gl m) z269 Tryz.f45 0 [.m] [.d (.agg (enc Ty.wld w)),.d (.agg (enc Ty.rel r))]
theorem z256 (m:Nat) (w:Wld) (r:Rel) : z1b1 m w r=cndO (r.op == 1) (obO (dbOK w.db) (some (zw2 (z6k w r.table)))) (cndO (r.op == 2) (obO (r.rows.length≤(1000000000:Nat)) (some (zw2 (r.rows)))) (cndO (r.op == 3) (obO ((8:Nat)*(Rel.ids r).ht+(6:Nat)<m) (obO (z1jk w (Rel.ids r)) (some (zw2 (zao w (Rel.ids r)))))) (cndO (r.op == 4) (obO ((8:Nat)*(Rel.ids r).ht+(6:Nat)<m) (obO (z1ap w (Rel.ids r)) (some (zw2 (z8z w (Rel.ids r)))))) (cndO (r.op == 5) (obO ((8:Nat)*(Rel.ids r).ht+(6:Nat)<m) (obO (z1pq w (Rel.ids r)) (some (zw2 (zc0 w (Rel.ids r)))))) (cndO (r.op == 6) (obO ((8:Nat)*(Rel.ids r).ht+(6:Nat)<m) (obO (z1pq w (Rel.ids r)) (some (zw2 (zc0 w (Rel.ids r)))))) (cndO (r.op == 7) (obO ((8:Nat)*(Rel.ids r).ht+(6:Nat)<m) (obO (z1tp w (Rel.ids r)) (some (zw2 (zci w (Rel.ids r)))))) (cndO (r.op == 8) (obO ((8:Nat)*(Rel.ids r).ht+(4:Nat)<m) (obO (zfg w (Rel.ids r) (0:Int)) (obO ((zo w (Rel.ids r) (0:Int)).length≤(100000000:Nat)) (some (zw2 (z1x (zo w (Rel.ids r) (0:Int)))))))) (cndO (r.op == 9) (obO ((8:Nat)*(Rel.ids r).ht+(6:Nat)<m) (obO (z1pr w (Rel.ids r)) (some (zw2 (zc1 w (Rel.ids r)))))) (cndO (r.op == 10) (obO ((8:Nat)*(Rel.ids r).ht+(6:Nat)<m) (obO (z1pr w (Rel.ids r)) (some (zw2 (zc1 w (Rel.ids r)))))) (cndO (r.op == 11) (obO ((8:Nat)*(Rel.ids r).ht+(6:Nat)<m) (obO (z1pr w (Rel.ids r)) (some (zw2 (zc1 w (Rel.ids r)))))) (cndO (r.op == 12) (obO ((8:Nat)*(Rel.ids r).ht+(4:Nat)<m) (obO (zfg w (Rel.ids r) (0:Int)) (obO ((zo w (Rel.ids r) (0:Int)).length≤(100000000:Nat)) (some (zw2 (z54 (zo w (Rel.ids r) (0:Int)) r.keys)))))) (cndO (r.op == 13) (obO ((8:Nat)*(Rel.ids r).ht+(4:Nat)<m) (obO (zfg w (Rel.ids r) (0:Int)) (obO ((zo w (Rel.ids r) (0:Int)).length≤(100000000:Nat)) (some (zw2 (z3o (zo w (Rel.ids r) (0:Int)) r.limit r.skip)))))) (some (zw2 ([]))))))))))))))):=by kernel_rfl
theorem z1tx (m:Nat) (w:Wld) (r:Rel) (_hw:WS .wld w) (_hr:WS .rel r) (hm:8*r.ht+7<m+1) (h:okRl w r) : z1b1 m w r=some (zw2 (z9s w r)):=by
 obtain⟨v,hv⟩:=h;rw[z8h hv];rw[z1cg,y7] at hv;obtain⟨s,hs,hc⟩:=hv;obtain⟨rfl,hlen⟩:=zyc hc;clear hc;rw[z256];simp only[z8,Rel.ids_eq,beq_iff_eq];by_cases c1 : r.op=1
 ·rw[if_pos c1] at hs ⊢;obtain⟨h1,h2⟩:=chkQ_some.1 hs;rw[z6 h1,yi h2]
 rw[if_neg c1] at hs ⊢;by_cases c2 : r.op=2
 ·rw[if_pos c2] at hs ⊢;obtain rfl:=yi hs;rw[z6 (by omega)]
 rw[if_neg c2] at hs ⊢;by_cases c3 : r.op=3
 ·rw[if_pos c3] at hs ⊢;have e:zao w r=s:=by unfold zao z1ch;rw[hs];rfl
  rw[z6 (by omega),z6 ⟨s,hs⟩,e]
 rw[if_neg c3] at hs ⊢;by_cases c4 : r.op=4
 ·rw[if_pos c4] at hs ⊢;have e:z8z w r=s:=by unfold z8z z146;rw[hs];rfl
  rw[z6 (by omega),z6 ⟨s,hs⟩,e]
 rw[if_neg c4] at hs ⊢;by_cases c5 : r.op=5∨r.op=6
 ·rw[if_pos c5] at hs;have e:zc0 w r=s:=by unfold zc0 z1zy;rw[hs];rfl
  rcases c5 with c | c
  ·rw[if_pos c,z6 (by omega),z6 ⟨s,hs⟩,e]
  ·rw[if_neg (by omega),if_pos c,z6 (by omega),z6 ⟨s,hs⟩,e]
 rw[if_neg c5] at hs;rw[if_neg (fun e=>c5 (.inl e)),if_neg (fun e=>c5 (.inr e))];by_cases c7 : r.op=7
 ·rw[if_pos c7] at hs ⊢;have e:zci w r=s:=by unfold zci z1pp;rw[hs];rfl
  rw[z6 (by omega),z6 ⟨s,hs⟩,e]
 rw[if_neg c7] at hs ⊢;by_cases c8 : r.op=8
 ·rw[if_pos c8] at hs ⊢;obtain⟨l,hl,h4⟩:=y7.1 hs;have hk:=zcj hl;rw[z6 (by omega),z6 (zro hl),z5z hl,z6 hk,yi h4]
 rw[if_neg c8] at hs ⊢;by_cases c9 : r.op=9∨r.op=10∨r.op=11
 ·rw[if_pos c9] at hs;have e:zc1 w r=s:=by unfold zc1 nSet;rw[hs];rfl
  rcases c9 with c | c | c
  ·rw[if_pos c,z6 (by omega),z6 ⟨s,hs⟩,e]
  ·rw[if_neg (by omega),if_pos c,z6 (by omega),z6 ⟨s,hs⟩,e]
  ·rw[if_neg (by omega),if_neg (by omega),if_pos c,z6 (by omega),z6 ⟨s,hs⟩,e]
 rw[if_neg c9] at hs;rw[if_neg (fun e=>c9 (.inl e)),if_neg (fun e=>c9 (.inr (.inl e))),if_neg (fun e=>c9 (.inr (.inr e)))];by_cases c12 : r.op=12
 ·rw[if_pos c12] at hs ⊢;obtain⟨l,hl,h4⟩:=y7.1 hs;have hk:=zcj hl;rw[z6 (by omega),z6 (zro hl),z5z hl,z6 hk,yi h4]
 rw[if_neg c12] at hs ⊢;by_cases c13 : r.op=13
 ·rw[if_pos c13] at hs ⊢;obtain⟨l,hl,h4⟩:=y7.1 hs;have hk:=zcj hl;rw[z6 (by omega),z6 (zro hl),z5z hl,z6 hk,yi h4]
 rw[if_neg c13] at hs ⊢;rw[yi hs]
theorem z1zh (m:Nat) (hG:z7j m) : FnOK 45 (znv (m+1)):=fnK2 zq zq (M:=(z1gl m)) rfl ⟨z1ti,zsc,hG.2.2.2.2.2.2.1,hG.2.2.2.2.2.2.2.1,hG.2.2.2.2.2.2.2.2.1,hG.2.2.2.2.2.2.2.2.2.2.1,hG.2.2.2.2.1,z160,hG.2.2.2.2.2.2.2.2.2.2.2,trivial⟩ trivial trivial ⟨z1d9,z1dc,trivial⟩ trivial Tryz.func45 fun w r=>GiF.r fun w1 o=>z1tx m w r (wfA_ w1 0) (wfA_ w1 1) (obA_ o 0) (obA_ o 1)
def zhu (m:Nat) : Mc Un:=mcF_ [(91,z8g m),(136,zqm m)] [] [] [] []
def zow : Nat→NS:=nsF_ [(3,{ ts:=bl 27 7212,bs:=bl 27 12,nm:=[(.sl 10,108),(.sl 5,109)],cs:=true })] true
def z71 (w:Wld) (r:Rel) (v0:Int) (v1:List (List Val)) : S Un:=(st 27 27 110 0 [(2,ax 2),(3,ax 3),(5,ao 109),(10,ao 108),(11,ai (↑(zo w (Rel.ids r) (0:Int)).length:Int)),(12,ai v0)] [(2,bg .wld w),(3,bg .rel r)] [(108,some ⟨(0:Nat),Ty.row,zo w (Rel.ids r) (0:Int),some (0:Nat),true⟩),(109,some ⟨(0:Nat),Ty.row,v1,some (0:Nat),true⟩)])
def zc2 (m:Nat) : S Un→Option (EX Un):=lpF_ (zhu m) zow Tryz.f86 [1,1,0,1,2,2] 3
def zyd (m:Nat) : Exit→S Un→Option (RF Un):=cxF_ (zhu m) zow Tryz.f86 [1,1,0,1,2] [.m]
def zye (m:Nat) (w:Wld) (r:Rel) : Option (RF Un):=fnF_ (zhu m) zow Tryz.f86 2 [.m] [.d (.agg (enc Ty.wld w)),.d (.agg (enc Ty.rel r))]
theorem z1qa (m:Nat) (w:Wld) (r:Rel) : zye m w r=obO ((8:Nat)*(Rel.ids r).ht+(4:Nat)<m) (obO (zfg w (Rel.ids r) (0:Int)) ((zc2 m (z71 w r (0:Int) ([]))).bind (zd (zyd m)))):=by kernel_rfl
theorem zyf (m:Nat) (w:Wld) (r:Rel) (v0:Int) (v1:List (List Val)) : zc2 m (z71 w r v0 v1)=cndO (decide (v0<(↑(zo w (Rel.ids r) (0:Int)).length:Int))) (obO (0≤v0∧v0<(↑(zo w (Rel.ids r) (0:Int)).length:Int)) (obO ((8:Nat)*htTs r.terms+(8:Nat)<m) (obO (okSo w r.terms ((zo w (Rel.ids r) (0:Int)).getD v0.toNat [])) (cndO (ze6 w r.terms ((zo w (Rel.ids r) (0:Int)).getD v0.toNat [])) (obO ((v1.length+[(zo w (Rel.ids r) (0:Int)).getD v0.toNat []].length)*(24:Nat)≤zi) (zc2 m (z71 w r (IntKind.i64.wrap (v0+1)) (v1++[(zo w (Rel.ids r) (0:Int)).getD v0.toNat []])))) (zc2 m (z71 w r (IntKind.i64.wrap (v0+1)) v1)))))) (some (.exit 0,(z71 w r v0 v1))):=lpQ_ (by kernel_rfl)
theorem z1b2 (m:Nat) (w:Wld) (r:Rel) (v0:Int) (v1:List (List Val)) : zyd m (.exit 0) (z71 w r v0 v1)=some (zw2 (v1)):=by kernel_rfl
theorem z1de (m:Nat) (w:Wld) (r:Rel) (_hw:WS .wld w) (_hr:WS .rel r) (hm:8*r.ht+6<m+1) (h:z1jk w r) : zye m w r=some (zw2 (zao w r)):=by
 obtain⟨v,hv⟩:=h;have e:zao w r=v:=by unfold zao;rw[hv];rfl
 rw[e];unfold z1ch filO at hv;split at hv
 ·rename_i hE;obtain⟨l,hl,hf⟩:=y7.1 hv;have hll:=zcj hl;have ht:=Rel.ht_terms r;have hmem:=z1ww hf
  obtain⟨lp,_⟩:=z1q (e:=.exit 0) (L:=zc2 m) (st:=fun (o:Rows) i=>z71 w r i o) (l:=l) (d:=[]) (g:=fun o x=>if ze6 w r.terms x=true then o++[x] else o) (fun i o=>o.length≤i) (by omega)
   (fun o i x hi hx hI=>by
    have hI':o.length≤i:=hI;have hxm:x∈l:=by rw[← hx];exact z61 (by omega)
    obtain⟨b,hb⟩:=hmem x hxm;rw[zyf];simp only[z8,Rel.ids_eq,z5z hl,hi,decide_true,if_true,and_true,y5,hx];rw[z6 (by omega),z6 (by omega),z6 ⟨hE,b,hb⟩];by_cases hp : ze6 w r.terms x=true
    ·rw[if_pos hp,if_pos hp,z6 (by unfold zi;rw[ye];omega)];exact⟨by show (o++[x]).length≤i+1;rw[ya,ye];omega,rfl⟩
    ·rw[if_neg hp,if_neg hp]
     exact⟨by show o.length≤i+1;omega,rfl⟩)
   (fun o _=>by rw[zyf];simp only[z8,Rel.ids_eq,z5z hl];rw[if_neg (by simp)]) [] (y6 _)
  have hfo:=z1ps (ze6 w r.terms) [] hf (fun x hx b hb=>zzx hb);rw[y10] at hfo;rw[z1qa,Rel.ids_eq,z6 (by omega),z6 (zro hl)];refine (zg lp).trans ?_;rw[z1b2,hfo]
 ·simp at hv
theorem z1ju (m:Nat) (hG:z7j m) : FnOK 86 (znw (m+1)):=fnK2 zq zq (M:=(zhu m)) rfl ⟨hG.2.2.2.2.1,hG.2.2.2.1,trivial⟩ trivial trivial trivial trivial Tryz.func86 fun w r=>GiF.r fun w1 o=>z1de m w r (wfA_ w1 0) (wfA_ w1 1) (obA_ o 0) (obA_ o 1)
def zfh (m:Nat) : Mc Un:=mcF_ [(91,z8g m),(137,ze5),(121,zaa m)] [] [] [] []
def ze8 (m:Nat) : S Un→Option (EX Un):=lpF_ (zfh m) zow Tryz.f87 [1,1,0,1,2,2] 3
def zwe (m:Nat) : Exit→S Un→Option (RF Un):=cxF_ (zfh m) zow Tryz.f87 [1,1,0,1,2] [.m]
def zwf (m:Nat) (w:Wld) (r:Rel) : Option (RF Un):=fnF_ (zfh m) zow Tryz.f87 2 [.m] [.d (.agg (enc Ty.wld w)),.d (.agg (enc Ty.rel r))]
theorem z1jv (m:Nat) (w:Wld) (r:Rel) : zwf m w r=obO ((8:Nat)*(Rel.ids r).ht+(4:Nat)<m) (obO (zfg w (Rel.ids r) (0:Int)) ((ze8 m (z71 w r (0:Int) ([]))).bind (zd (zwe m)))):=by kernel_rfl
theorem zwg (m:Nat) (w:Wld) (r:Rel) (v0:Int) (v1:List (List Val)) : ze8 m (z71 w r v0 v1)=cndO (decide (v0<(↑(zo w (Rel.ids r) (0:Int)).length:Int))) (obO (0≤v0∧v0<(↑(zo w (Rel.ids r) (0:Int)).length:Int)) (obO (w.env.length≤(100000000:Nat)) (obO ((8:Nat)*htTs r.terms+(8:Nat)<m) (obO (okTs (zh w ((zo w (Rel.ids r) (0:Int)).getD v0.toNat [])) r.terms) (obO ((v1.length+[z5m (zh w ((zo w (Rel.ids r) (0:Int)).getD v0.toNat [])) r.terms].length)*(24:Nat)≤zi) (ze8 m (z71 w r (IntKind.i64.wrap (v0+1)) (v1++[z5m (zh w ((zo w (Rel.ids r) (0:Int)).getD v0.toNat [])) r.terms])))))))) (some (.exit 0,(z71 w r v0 v1))):=lpQ_ (by kernel_rfl)
theorem z16j (m:Nat) (w:Wld) (r:Rel) (v0:Int) (v1:List (List Val)) : zwe m (.exit 0) (z71 w r v0 v1)=some (zw2 (v1)):=by kernel_rfl
theorem z1b3 (m:Nat) (w:Wld) (r:Rel) (_hw:WS .wld w) (_hr:WS .rel r) (hm:8*r.ht+6<m+1) (h:z1ap w r) : zwf m w r=some (zw2 (z8z w r)):=by
 obtain⟨v,hv⟩:=h;have e:z8z w r=v:=by unfold z8z;rw[hv];rfl
 rw[e];unfold z146 z1cd at hv;split at hv
 ·rename_i hE;obtain⟨l,hl,hf⟩:=y7.1 hv;have hll:=zcj hl;have ht:=Rel.ht_terms r;have hmem:=zw7 hf
  obtain⟨lp,_⟩:=z1q (e:=.exit 0) (L:=ze8 m) (st:=fun (o:Rows) i=>z71 w r i o) (l:=l) (d:=[]) (g:=fun o x=>o++[z5m (zh w x) r.terms]) (fun i o=>o.length=i) (by omega)
   (fun o i x hi hx hI=>by
    have hI':o.length=i:=hI;have hxm:x∈l:=by rw[← hx];exact z61 (by omega)
    obtain⟨b,hb⟩:=hmem x hxm;refine⟨by show (o++[_]).length=i+1;rw[ya,ye];omega,?_⟩;rw[zwg];simp only[z8,Rel.ids_eq,z5z hl,hi,decide_true,if_true,and_true,y5,hx]
    rw[z6 (by omega),z6 hE.1,z6 (by omega),z6 ⟨hE.2,b,hb⟩,z6 (by unfold zi;rw[ye];omega)])
   (fun o _=>by rw[zwg];simp only[z8,Rel.ids_eq,z5z hl];rw[if_neg (by simp)]) [] rfl
  rw[zgf,y10,zw8 (fun x=>z5m (zh w x) r.terms) hf (fun x hx y hy=>zht hy)] at lp;rw[z1jv,Rel.ids_eq,z6 (by omega),z6 (zro hl)];refine (zg lp).trans ?_;rw[z16j]
 ·simp at hv
theorem z1df (m:Nat) (hG:z7j m) : FnOK 87 (zkm (m+1)):=fnK2 zq zq (M:=(zfh m)) rfl ⟨hG.2.2.2.2.1,zqj,hG.2.2.1,trivial⟩ trivial trivial trivial trivial Tryz.func87 fun w r=>GiF.r fun w1 o=>z1b3 m w r (wfA_ w1 0) (wfA_ w1 1) (obA_ o 0) (obA_ o 1)
def zdi (m:Nat) : Mc Un:=mcF_ [(91,z8g m),(138,z1av),(136,zqm m)] [] [] [] []
def z8i : Nat→NS:=nsF_ [(7,{ ts:=bl 72 7516193004,bs:=bl 72 12,nm:=[(.sl 5,288),(.sl 6,289),(.sl 30,290),(.sl 7,291)],cs:=true }),(11,{ ts:=bl 72 488552531692,bs:=bl 72 12,nm:=[(.sl 5,292),(.sl 6,293),(.sl 30,294),(.sl 7,295)],cs:=true })] true
def z37 (w:Wld) (r:Rel):=zo w (Rel.mk r.op r.table r.cols r.kids r.terms r.aggs r.keys r.limit r.skip r.all r.rows) (0:Int)
def z7a (w:Wld) (r:Rel):=zo w (Rel.mk r.op r.table r.cols r.kids r.terms r.aggs r.keys r.limit r.skip r.all r.rows) (1:Int)
def zk5 (w:Wld) (r:Rel) (v0:Int) (v4:Int):=z9b [(z37 w r).getD v0.toNat [],(z7a w r).getD v4.toNat []]
def z49 (w:Wld) (r:Rel) (v0:Int) (v1:Option Nat) (v2:List (List Val)) : S Un:=(st 72 72 296 0 [(2,ax 2),(3,ax 3),(5,ao 288),(6,ao 289),(7,ao 291),(30,ao 290),(31,ai (↑(z37 w r).length:Int)),(32,ai v0)] [(2,bg .wld w),(3,bg .rel r)] [(288,some ⟨(0:Nat),Ty.row,zo w (Rel.ids r) (1:Int),some (0:Nat),true⟩),(289,some ⟨(0:Nat),Ty.val,List.replicate (↑(Rel.cols (r.kids.getD 1 za)).length:Int).toNat z7,v1,true⟩),(290,some ⟨(0:Nat),Ty.row,zo w (Rel.ids r) (0:Int),some (0:Nat),true⟩),(291,some ⟨(0:Nat),Ty.row,v2,some (0:Nat),true⟩)])
def z57 (w:Wld) (r:Rel) (v0:Int) (v1:Option Nat) (v2:List (List Val)) (v3:Bool) (v4:Int) : S Un:=(st 72 72 296 0 [(2,ax 2),(3,ax 3),(5,ao 292),(6,ao 293),(7,ao 295),(9,al .val ((z37 w r).getD v0.toNat [])),(10,ab v3),(30,ao 294),(31,ai (↑(z37 w r).length:Int)),(32,ai v0),(36,ao 292),(37,ai (↑(z7a w r).length:Int)),(38,ai v4)] [(2,bg .wld w),(3,bg .rel r)] [(292,some ⟨(0:Nat),Ty.row,zo w (Rel.ids r) (1:Int),some (0:Nat),true⟩),(293,some ⟨(0:Nat),Ty.val,List.replicate (↑(Rel.cols (r.kids.getD 1 za)).length:Int).toNat z7,v1,true⟩),(294,some ⟨(0:Nat),Ty.row,zo w (Rel.ids r) (0:Int),some (0:Nat),true⟩),(295,some ⟨(0:Nat),Ty.row,v2,some (0:Nat),true⟩)])
def z60 (m:Nat) : S Un→Option (EX Un):=lpF_ (zdi m) z8i Tryz.f88 [1,1,1,1,1,0,1,2,2] 7
noncomputable def z126 : Code:=sub (sub (ze Tryz.f88) [1,1,1,1,1,0,1,2,2]) [1,1,0,2,1,1,0,1,2,2]
def zdj (m:Nat) : S Un→Option (EX Un):=z1o (z8i 11) (fun s Q=>awf (zdi m) z8i z126 s Q)
def zsp (m:Nat) : Exit→S Un→Option (RF Un):=cxF_ (zdi m) z8i Tryz.f88 [1,1,1,1,1,0,1,2] [.m]
def zox (m:Nat) : Exit→S Un→Option (EX Un):=ctxF (zdi m) z8i (sub (ze Tryz.f88) [1,1,1,1,1,0,1,2,2]) [1,1,0,2,1,1,0,1,2] (zcp (z8i 7) (z60 m))
def z16e (m:Nat) (w:Wld) (r:Rel) : Option (RF Un):=fnF_ (zdi m) z8i Tryz.f88 8 [.m] [.d (.agg (enc Ty.wld w)),.d (.agg (enc Ty.rel r))]
theorem z1zi (m:Nat) (w:Wld) (r:Rel) : z16e m w r=cndO (decide ((↑r.kids.length:Int)<(2:Int))) (some (zw2 ([]))) (obO ((8:Nat)*(Rel.ids r).ht+(4:Nat)<m) (obO (zfg w (Rel.ids r) (1:Int)) (obO ((0:Int)≤(1:Int)∧(1:Int)<(↑r.kids.length:Int)) (obO ((0:Int)≤(↑(Rel.cols (r.kids.getD 1 za)).length:Int)∧(↑(Rel.cols (r.kids.getD 1 za)).length:Int)≤(↑(Rel.cols (r.kids.getD 1 za)).length:Int)∧(↑(Rel.cols (r.kids.getD 1 za)).length:Int).toNat*(32:Nat)≤zi) (obO ((8:Nat)*(Rel.ids r).ht+(4:Nat)<m) (obO (zfg w (Rel.ids r) (0:Int)) ((z60 m (z49 w r (0:Int) (some (0:Nat)) ([]))).bind (zd (zsp m))))))))):=by kernel_rfl
theorem z16f (m:Nat) (w:Wld) (r:Rel) (v0:Int) (v1:Option Nat) (v2:List (List Val)) : z60 m (z49 w r v0 v1 v2)=cndO (decide (v0<(↑(z37 w r).length:Int))) (obO (0≤v0∧v0<(↑(z37 w r).length:Int)) ((zdj m (z57 w r v0 v1 v2 false (0:Int))).bind (zd (zox m)))) (some (.exit 0,(z49 w r v0 v1 v2))):=lpQ_ (by kernel_rfl)
theorem z1jw (m:Nat) (w:Wld) (r:Rel) (v0:Int) (v1:Option Nat) (v2:List (List Val)) : zsp m (.exit 0) (z49 w r v0 v1 v2)=some (zw2 (v2)):=by kernel_rfl
theorem z127 (m:Nat) (w:Wld) (r:Rel) (v0:Int) (v1:Option Nat) (v2:List (List Val)) (v3:Bool) (v4:Int) : zdj m (z57 w r v0 v1 v2 v3 v4)=cndO (decide (v4<(↑(z7a w r).length:Int))) (obO (0≤v4∧v4<(↑(z7a w r).length:Int)) (obO ([(z37 w r).getD v0.toNat [],(z7a w r).getD v4.toNat []].flatten.length≤(1000000000:Nat)) (obO ((8:Nat)*htTs r.terms+(8:Nat)<m) (obO (okSo w r.terms (zk5 w r v0 v4)) (cndO (ze6 w r.terms (zk5 w r v0 v4)) (obO ((v2.length+[z9b [(z37 w r).getD v0.toNat [],(z7a w r).getD v4.toNat []]].length)*(24:Nat)≤zi) (zdj m (z57 w r v0 v1 (v2++[z9b [(z37 w r).getD v0.toNat [],(z7a w r).getD v4.toNat []]]) true (IntKind.i64.wrap (v4+1))))) (zdj m (z57 w r v0 v1 v2 v3 (IntKind.i64.wrap (v4+1))))))))) (some (.exit 2,(z57 w r v0 v1 v2 v3 v4))):=(zc5 (z8i 11) z126 _).trans (by kernel_rfl)
theorem z1dg (m:Nat) (w:Wld) (r:Rel) (v0:Int) (v1:Option Nat) (v2:List (List Val)) (v3:Bool) (v4:Int) : zox m (.exit 2) (z57 w r v0 v1 v2 v3 v4)=cndO (!v3) (cndO (r.op == 6) (obO ([(z37 w r).getD v0.toNat [],List.replicate (↑(Rel.cols (r.kids.getD 1 za)).length:Int).toNat z7].flatten.length≤(1000000000:Nat)) (obO ((v2.length+[z9b [(z37 w r).getD v0.toNat [],List.replicate (↑(Rel.cols (r.kids.getD 1 za)).length:Int).toNat z7]].length)*(24:Nat)≤zi) (z60 m (z49 w r (IntKind.i64.wrap (v0+1)) none (v2++[z9b [(z37 w r).getD v0.toNat [],List.replicate (↑(Rel.cols (r.kids.getD 1 za)).length:Int).toNat z7]]))))) (z60 m (z49 w r (IntKind.i64.wrap (v0+1)) v1 v2))) (z60 m (z49 w r (IntKind.i64.wrap (v0+1)) v1 v2)):=by kernel_rfl
theorem z1qb (m:Nat) (w:Wld) (r:Rel) (_hw:WS .wld w) (_hr:WS .rel r) (hm:8*r.ht+6<m+1) (h:z1pq w r) : z16e m w r=some (zw2 (zc0 w r)):=by
 obtain⟨v,hv⟩:=h;have e:zc0 w r=v:=by unfold zc0;rw[hv];rfl
 rw[e];have ht:=Rel.ht_terms r;unfold z1zy z1ce at hv;rw[z1zi];simp only[z8,Rel.ids_eq,decide_eq_true_eq];by_cases c : r.kids.length<2
 ·rw[if_pos c] at hv;obtain rfl:=yi hv;rw[if_pos (by omega)]
 rw[if_neg c] at hv;rw[if_neg (by omega)];split at hv
 ·rename_i hc;obtain⟨hE,hC⟩:=hc;obtain⟨right,hR,hv⟩:=y7.1 hv;obtain⟨l,hL,hv⟩:=y7.1 hv;obtain⟨s,hS,hv⟩:=y7.1 hv;obtain⟨rfl,hlen⟩:=zyc hv;have hrl:=zcj hR;have hll:=zcj hL;have e1:z37 w r=l:=z5z hL;have e2:z7a w r=right:=zty hR;have ecc:∀ a b : List Val,z9b [a,b]=a++b:=fun a b=>by unfold z9b;simp
  have efl:∀ a b : List Val,[a,b].flatten.length=a.length+b.length:=fun a b=>by simp
  have inner:∀ (i:Nat) (fr:Option Nat) (a:List Val),l.getD i []=a→∀ (q:Rows) (j:Nat) (out:Rows) (met:Bool) (u:Rows),right.drop j=q→j≤right.length →
    zbz (fun x=>if x.length≤100000000 then nSo r.terms (zh w x) else none) (q.map (a++·))=some u→out.length+u.length≤100000000 →
    zdj m (z57 w r (i:Int) fr out met (j:Int))=some (.exit 2,z57 w r (i:Int) fr (out++u) (met || decide (0<u.length)) (right.length:Int)):=by
   intro i fr a ha q
   induction q with
   | nil =>
    intro j out met u hr hj hu ho;have hjl:right.length≤j:=by rw[← y1n];exact hr
    obtain rfl : j=right.length:=by omega
    simp only[y1k,zbz,y8] at hu;subst hu;rw[z127,e2,z8,if_neg (by simp)];simp
   | cons b q ih =>
    intro j out met u hr hj hu ho;obtain⟨a1,a2,a3,hmem⟩:=z39 hr;have hb:right.getD j []=b:=a2 [];rw[yu] at hu;obtain⟨y,u',h1,h2,h3⟩:=z147 hu;split at h1
    ·rename_i hab;rw[ya] at hab;have e3:zk5 w r (i:Int) (j:Int)=a++b:=by unfold zk5;rw[e1,e2,y5,y5,ha,hb,ecc]
     rw[z127,e1,e2,e3];simp only[z8,y5,ha,hb,ecc,efl];rw[if_pos (by simp;omega),z6 (by omega),z6 (by omega),z6 (by omega),z6 ⟨hE,y,h1⟩,zzx h1,z40 a1 (by omega)];cases y with
     | true =>
      rw[if_pos rfl] at h3 ⊢;subst h3;rw[yq] at ho;rw[z6 (by unfold zi;rw[ye];omega),ih (j+1) (out++[a++b]) true u' a3 (by omega) h2 (by rw[ya,ye];omega)];simp
     | false =>
      rw[if_neg (by simp)] at h3 ⊢;subst h3;exact ih (j+1) out met _ a3 (by omega) h2 ho
    ·simp at h1
  have outer:∀ (q:Rows) (i:Nat) (fr:Option Nat) (out:Rows) (s:Rows),l.drop i=q→i≤l.length →
    zyb (decide (r.op=6)) (List.replicate (r.kids.getD 1 za).cols.length z7) (fun x=>if x.length≤100000000 then nSo r.terms (zh w x) else none) right q=some s→out.length+s.length≤100000000 →
    (z60 m (z49 w r (i:Int) fr out)).bind (zd (zsp m))=some (zw2 (out++s)):=by
   intro q
   induction q with
   | nil =>
    intro i fr out s hr hi hs ho;have hil:l.length≤i:=by rw[← y1n];exact hr
    simp only[zyb,y8] at hs;subst hs;have e:z60 m (z49 w r (i:Int) fr out)=some (.exit 0,z49 w r (i:Int) fr out):=by rw[z16f,e1,z8,if_neg (by simp;omega)]
    rw[zg e,z1jw,y14]
   | cons a q ih =>
    intro i fr out s hr hi hs ho;obtain⟨a1,a2,a3,hmem⟩:=z39 hr;have ha:l.getD i []=a:=a2 [];simp only[zyb,y7] at hs;obtain⟨u,hu,z,hz,s',hs',h3⟩:=hs;obtain rfl:=yi h3;rw[ya] at ho;have hzu:u.length≤z.length:=by
     split at hz
     ·rename_i hc;omega
     ·rw[yi hz];exact y6 _
    have e:z60 m (z49 w r (i:Int) fr out)=zox m (.exit 2) (z57 w r (i:Int) fr (out++u) (false || decide (0<u.length)) (right.length:Int)):=by
     rw[z16f,e1,z8,if_pos (by simp;omega),z6 (by omega)];exact zg (inner i fr a ha right 0 out false u rfl (yb _) hu (by omega))
    rw[e,z1dg,e1];simp only[z8,y5,ha,ecc,efl,y3n,z40 a1 (show l.length≤9223372036854775807 by omega),beq_iff_eq];by_cases d : u.length=0
    ·rw[if_pos (by simp [d])];obtain rfl:=y11 d;by_cases d6 : r.op=6
     ·rw[if_pos d6];rw[if_pos ⟨d,by simp [d6]⟩] at hz;split at hz
      ·rename_i hab;obtain rfl:=yi hz;rw[ya,y38] at hab;rw[ye] at ho;rw[z6 (by rw[y38];omega),z6 (by unfold zi;rw[ye,y14];omega),y14];rw[ih (i+1) none _ s' a3 (by omega) hs' (by rw[ya,ye];omega)];simp
      ·simp at hz
     ·rw[if_neg d6];rw[if_neg (fun e=>d6 (by simpa using e.2))] at hz;obtain rfl:=yi hz;rw[y14,ih (i+1) fr out s' a3 (by omega) hs' (by simpa using ho)];simp
    ·rw[if_neg (by rw[decide_eq_true (Nat.pos_of_ne_zero d)];decide)];rw[if_neg (fun e=>d e.1)] at hz;obtain rfl:=yi hz;rw[ih (i+1) fr (out++u) s' a3 (by omega) hs' (by rw[ya];omega),y12]
  rw[z6 (by omega),z6 (z2h2 hR),z6 (by omega),z6 (by rw[y5];refine⟨by omega,by omega,?_⟩;unfold zi;omega),z6 (by omega),z6 (zro hL)];have:=outer l 0 (some 0) [] s rfl (yb _) hS (by simpa using hlen);exact this
 ·simp at hv
theorem z1ty (m:Nat) (hG:z7j m) : FnOK 88 (zsm (m+1)):=fnK2 zq zq (M:=(zdi m)) rfl ⟨hG.2.2.2.2.1,z1z8,hG.2.2.2.1,trivial⟩ trivial trivial trivial trivial Tryz.func88 fun w r=>GiF.r fun w1 o=>z1qb m w r (wfA_ w1 0) (wfA_ w1 1) (obA_ o 0) (obA_ o 1)
def z7b (m:Nat) : Mc Un:=mcF_ [(91,z8g m),(139,zap m),(140,z1g7),(137,ze5),(67,zbe m),(141,z1wn)] [] [] [] []
def z38 : Nat→NS:=nsF_ [(3,{ ts:=bl 76 7340076,bs:=bl 76 12,nm:=[(.sl 5,304)],cs:=true }),(7,{ ts:=bl 76 7523533228,bs:=bl 76 140,nm:=[(.sl 8,305),(.sl 5,306)],cs:=true }),(11,{ ts:=bl 76 969596210604,bs:=bl 76 1164,nm:=[(.sl 11,307),(.sl 8,308),(.sl 5,309)],cs:=true })] true
def z1k (w:Wld) (r:Rel):=zo w (Rel.mk r.op r.table r.cols r.kids r.terms r.aggs r.keys r.limit r.skip r.all r.rows) (0:Int)
def zoy (r:Rel) (v2:Int) (v5:List Val):=zdf (Agg.mk (Agg.name (r.aggs.getD v2.toNat zp)) (Agg.distinct (r.aggs.getD v2.toNat zp)) (Agg.t (r.aggs.getD v2.toNat zp))) v5
def zab (w:Wld) (r:Rel) (v0:Int) (v1:List (List Val)) : S Un:=(st 76 76 310 0 [(2,ax 2),(3,ax 3),(5,ao 304),(20,al .bunch (z1b w (z1k w r) r.terms)),(21,ai (↑(z1b w (z1k w r) r.terms).length:Int)),(22,ai v0)] [(2,bg .wld w),(3,bg .rel r)] [(304,some ⟨(0:Nat),Ty.row,v1,some (0:Nat),true⟩)])
def z6c (w:Wld) (r:Rel) (v0:Int) (v1:List (List Val)) (v2:Int) (v3:List Val) : S Un:=(st 76 76 310 0 [(2,ax 2),(3,ax 3),(5,ao 306),(7,ax 7),(8,ao 305),(20,al .bunch (z1b w (z1k w r) r.terms)),(21,ai (↑(z1b w (z1k w r) r.terms).length:Int)),(22,ai v0),(30,al .agg r.aggs),(31,ai (↑r.aggs.length:Int)),(32,ai v2)] [(2,bg .wld w),(3,bg .rel r),(7,some (false,encC Ty.bunch ((z1b w (z1k w r) r.terms).getD v0.toNat zm)))] [(305,some ⟨(0:Nat),Ty.val,v3,some (0:Nat),true⟩),(306,some ⟨(0:Nat),Ty.row,v1,some (0:Nat),true⟩)])
def z4p (w:Wld) (r:Rel) (v0:Int) (v2:Int) (v3:List Val) (v1:List (List Val)) (v4:Int) (v5:List Val) : S Un:=(st 76 76 310 0 [(2,ax 2),(3,ax 3),(5,ao 309),(7,ax 7),(8,ao 308),(10,ax 10),(11,ao 307),(20,al .bunch (z1b w (z1k w r) r.terms)),(21,ai (↑(z1b w (z1k w r) r.terms).length:Int)),(22,ai v0),(30,al .agg r.aggs),(31,ai (↑r.aggs.length:Int)),(32,ai v2),(37,AV.one (A.c (C.sl Ty.row ((z1b w (z1k w r) r.terms).getD v0.toNat zm).rows false))),(38,ai (↑((z1b w (z1k w r) r.terms).getD v0.toNat zm).rows.length:Int)),(39,ai v4)] [(2,bg .wld w),(3,bg .rel r),(7,some (false,encC Ty.bunch ((z1b w (z1k w r) r.terms).getD v0.toNat zm))),(10,some (false,encC Ty.agg (r.aggs.getD v2.toNat zp)))] [(307,some ⟨(0:Nat),Ty.val,v5,some (0:Nat),true⟩),(308,some ⟨(0:Nat),Ty.val,v3,some (0:Nat),true⟩),(309,some ⟨(0:Nat),Ty.row,v1,some (0:Nat),true⟩)])
def zdk (m:Nat) : S Un→Option (EX Un):=lpF_ (z7b m) z38 Tryz.f89 [1,1,0,1,2,2] 3
noncomputable def zoz : Code:=sub (sub (ze Tryz.f89) [1,1,0,1,2,2]) [1,1,0,2,1,1,0,1,2,2]
def zac (m:Nat) : S Un→Option (EX Un):=z1o (z38 7) (fun s Q=>awf (z7b m) z38 zoz s Q)
noncomputable def zyg : Code:=sub (sub (sub (ze Tryz.f89) [1,1,0,1,2,2]) [1,1,0,2,1,1,0,1,2,2]) [1,1,0,2,1,1,0,1,2,2]
def z8q (m:Nat) : S Un→Option (EX Un):=z1o (z38 11) (fun s Q=>awf (z7b m) z38 zyg s Q)
def z128 (m:Nat) : Exit→S Un→Option (RF Un):=cxF_ (z7b m) z38 Tryz.f89 [1,1,0,1,2] [.m]
def z129 (m:Nat) : Exit→S Un→Option (EX Un):=ctxF (z7b m) z38 (sub (ze Tryz.f89) [1,1,0,1,2,2]) [1,1,0,2,1,1,0,1,2] (zcp (z38 3) (zdk m))
def zyh (m:Nat) : Exit→S Un→Option (EX Un):=ctxF (z7b m) z38 zoz [1,1,0,2,1,1,0,1,2] (zcp (z38 7) (zac m))
def z12a (m:Nat) (w:Wld) (r:Rel) : Option (RF Un):=fnF_ (z7b m) z38 Tryz.f89 6 [.m] [.d (.agg (enc Ty.wld w)),.d (.agg (enc Ty.rel r))]
theorem z1tz (m:Nat) (w:Wld) (r:Rel) : z12a m w r=obO ((8:Nat)*(Rel.ids r).ht+(4:Nat)<m) (obO (zfg w (Rel.ids r) (0:Int)) (obO ((8:Nat)*htTs r.terms+(9:Nat)<m) (obO (z2co w (z1k w r) r.terms) ((zdk m (zab w r (0:Int) ([]))).bind (zd (z128 m)))))):=by kernel_rfl
theorem z12b (m:Nat) (w:Wld) (r:Rel) (v0:Int) (v1:List (List Val)) : zdk m (zab w r v0 v1)=cndO (decide (v0<(↑(z1b w (z1k w r) r.terms).length:Int))) (obO (0≤v0∧v0<(↑(z1b w (z1k w r) r.terms).length:Int)) (obO (((z1b w (z1k w r) r.terms).getD v0.toNat zm).key.length≤(1000000000:Nat)) ((zac m (z6c w r v0 v1 (0:Int) (((z1b w (z1k w r) r.terms).getD v0.toNat zm).key))).bind (zd (z129 m))))) (some (.exit 0,(zab w r v0 v1))):=lpQ_ (by kernel_rfl)
theorem z1dh (m:Nat) (w:Wld) (r:Rel) (v0:Int) (v1:List (List Val)) : z128 m (.exit 0) (zab w r v0 v1)=some (zw2 (v1)):=by kernel_rfl
theorem z12c (m:Nat) (w:Wld) (r:Rel) (v0:Int) (v1:List (List Val)) (v2:Int) (v3:List Val) : zac m (z6c w r v0 v1 v2 v3)=cndO (decide (v2<(↑r.aggs.length:Int))) (obO (0≤v2∧v2<(↑r.aggs.length:Int)) ((z8q m (z4p w r v0 v2 v3 v1 (0:Int) ([]))).bind (zd (zyh m)))) (some (.exit 2,(z6c w r v0 v1 v2 v3))):=(zc5 (z38 7) zoz _).trans (by kernel_rfl)
theorem z1di (m:Nat) (w:Wld) (r:Rel) (v0:Int) (v1:List (List Val)) (v2:Int) (v3:List Val) : z129 m (.exit 2) (z6c w r v0 v1 v2 v3)=obO ((v1.length+[v3].length)*(24:Nat)≤zi) (zdk m (zab w r (IntKind.i64.wrap (v0+1)) (v1++[v3]))):=by kernel_rfl
theorem zyi (m:Nat) (w:Wld) (r:Rel) (v0:Int) (v2:Int) (v3:List Val) (v1:List (List Val)) (v4:Int) (v5:List Val) : z8q m (z4p w r v0 v2 v3 v1 v4 v5)=cndO (decide (v4<(↑((z1b w (z1k w r) r.terms).getD v0.toNat zm).rows.length:Int))) (obO (0≤v4∧v4<(↑((z1b w (z1k w r) r.terms).getD v0.toNat zm).rows.length:Int)) (cndO ((↑(Agg.t (r.aggs.getD v2.toNat zp)).length:Int) == (0:Int)) (obO ((v5.length+[z7].length)*(32:Nat)≤zi) (z8q m (z4p w r v0 v2 v3 v1 (IntKind.i64.wrap (v4+1)) (v5++[z7])))) (obO (w.env.length≤(100000000:Nat)) (obO ((0:Int)≤(0:Int)∧(0:Int)<(↑(Agg.t (r.aggs.getD v2.toNat zp)).length:Int)) (obO ((8:Nat)*(Term.ids ((Agg.t (r.aggs.getD v2.toNat zp)).getD 0 zb)).ht+(7:Nat)<m) (obO (okT (zh w (((z1b w (z1k w r) r.terms).getD v0.toNat zm).rows.getD v4.toNat [])) (Term.ids ((Agg.t (r.aggs.getD v2.toNat zp)).getD 0 zb))) (obO ((v5.length+[(z70 (zh w (((z1b w (z1k w r) r.terms).getD v0.toNat zm).rows.getD v4.toNat [])) (Term.ids ((Agg.t (r.aggs.getD v2.toNat zp)).getD 0 zb)))].length)*(32:Nat)≤zi) (z8q m (z4p w r v0 v2 v3 v1 (IntKind.i64.wrap (v4+1)) (v5++[(z70 (zh w (((z1b w (z1k w r) r.terms).getD v0.toNat zm).rows.getD v4.toNat [])) (Term.ids ((Agg.t (r.aggs.getD v2.toNat zp)).getD 0 zb)))])))))))))) (some (.exit 4,(z4p w r v0 v2 v3 v1 v4 v5))):=(zc5 (z38 11) zyg _).trans (by kernel_rfl)
theorem z1b4 (m:Nat) (w:Wld) (r:Rel) (v0:Int) (v2:Int) (v3:List Val) (v1:List (List Val)) (v4:Int) (v5:List Val) : zyh m (.exit 4) (z4p w r v0 v2 v3 v1 v4 v5)=obO (v5.length≤(400000:Nat)) (obO ((v3.length+[(zoy r v2 v5)].length)*(32:Nat)≤zi) (zac m (z6c w r v0 v1 (IntKind.i64.wrap (v2+1)) (v3++[(zoy r v2 v5)])))):=by kernel_rfl
theorem z1jx (m:Nat) (w:Wld) (r:Rel) (_hw:WS .wld w) (hr:WS .rel r) (hm:8*r.ht+6<m+1) (h:z1tp w r) : z12a m w r=some (zw2 (zci w r)):=by
 obtain⟨v,hv⟩:=h;have e:zci w r=v:=by unfold zci;rw[hv];rfl
 rw[e];have ht:=Rel.ht_terms r;unfold z1pp grpO at hv;split at hv
 ·rename_i hna;obtain⟨l,hL,hv⟩:=y7.1 hv;obtain⟨bs,hB,hv⟩:=y7.1 hv;have hll:=zcj hL;obtain⟨⟨hE,hN,_⟩,hkey,hbl⟩:=z1ar hB;have c1:z1k w r=l:=z5z hL;have cb:z1b w l r.terms=bs:=by unfold z1b nBun;rw[hB];rfl
  have hvl:=zor hv
  have L11:∀ (i k:Nat) (row:List Val) (o:Rows) (b:Bunch) (a:Agg) (vs:List Val),bs.getD i zm=b→r.aggs.getD k zp=a→a∈r.aggs→w.env.length≤100000000→mapQ (fun x=>nHd a.t (zh w x)) b.rows=some vs→vs.length≤400000 →
    z8q m (z4p w r (i:Int) (k:Int) row o (0:Int) [])=some (.exit 4,z4p w r (i:Int) (k:Int) row o (b.rows.length:Int) vs):=by
   intro i k row o b a vs hb ha ham hE hmp hvs;have hrl:=zor hmp;have hmem:=zw7 hmp;have hat:htTs a.t<r.ht:=by have:=Rel.ht_agg ham;cases a;simp only[Agg.ht] at this;simp only[Agg.t_mk];omega
   obtain⟨lp,_⟩:=z1q (e:=.exit 4) (L:=z8q m) (st:=fun (z:List Val) q=>z4p w r (i:Int) (k:Int) row o q z) (l:=b.rows) (d:=[]) (g:=fun z x=>z++[if a.t.length=0 then z7 else z70 (zh w x) (a.t.getD 0 zb)]) (fun q z=>z.length=q) (by omega)
    (fun z q x hi hx hI=>by
     have hI':z.length=q:=hI;have hxm:x∈b.rows:=by rw[← hx];exact z61 (by omega)
     obtain⟨y,hy⟩:=hmem x hxm;refine⟨by show (z++[_]).length=q+1;rw[ya,ye];omega,?_⟩;rw[zyi,c1,cb];simp only[z8,Term.ids_eq,y5,hb,ha,hx,beq_iff_eq,ye];rw[if_pos (by simp;omega),z6 (by omega)];by_cases d : a.t.length=0
     ·rw[if_pos (by omega),if_pos d,z6 (by unfold zi;omega)]
     ·rw[z1an,if_neg d] at hy;have hk:(a.t.getD 0 zb).ht≤htTs a.t:=zc6 (z61 (by omega))
      rw[if_neg (by omega),if_neg d,z6 hE,z6 (by omega),z6 (by omega),z6 ⟨y,hy⟩,z6 (by unfold zi;omega)])
    (fun z _=>by rw[zyi,c1,cb];simp only[z8,y5,hb];rw[if_neg (by simp)]) [] rfl
   rw[zgf,y10,zw8 (fun x=>if a.t.length=0 then z7 else z70 (zh w x) (a.t.getD 0 zb)) hmp (fun x hx y hy=>by
    rw[z1an] at hy;by_cases d : a.t.length=0
    ·rw[if_pos d] at hy ⊢;exact yi hy
    ·rw[if_neg d] at hy ⊢;exact zbf hy)] at lp
   exact lp
  have L7:∀ (i:Nat) (o:Rows) (b:Bunch) (vs:List Val),bs.getD i zm=b→b.key.length≤100000000→mapQ (fun a=>nA a w b.rows) r.aggs=some vs →
    zac m (z6c w r (i:Int) o (0:Int) b.key)=some (.exit 2,z6c w r (i:Int) o (r.aggs.length:Int) (b.key++vs)):=by
   intro i o b vs hb hbk hmp;have hrl:=zor hmp;have hmem:=zw7 hmp
   obtain⟨lp,_⟩:=z1q (e:=.exit 2) (L:=zac m) (st:=fun (z:List Val) q=>z6c w r (i:Int) o q z) (l:=r.aggs) (d:=zp) (g:=fun z a=>z++[(nA a w b.rows).getD z7]) (fun q z=>z.length=b.key.length+q) (by omega)
    (fun z q a hi ha hI=>by
     have hI':z.length=b.key.length+q:=hI;have ham:a∈r.aggs:=by rw[← ha];exact z61 (by omega)
     obtain⟨y,hy⟩:=hmem a ham;refine⟨by show (z++[_]).length=_;rw[ya,ye];omega,?_⟩;have hy0:=hy;rw[z2k4,if_pos hE] at hy;obtain⟨us,hu,hy⟩:=y7.1 hy;by_cases hul : us.length≤400000
     ·rw[if_pos hul] at hy;obtain rfl:=yi hy;have c2:zoy r (q:Int) us=zdf a us:=by
       show zdf (Agg.ids (r.aggs.getD (q:Int).toNat zp)) us=_;rw[y5,ha];cases a;rfl
      rw[z12c,z8,if_pos (by simp;omega),z6 (by omega)];refine (zg (L11 i q z o b a us hb ha ham hE hu hul)).trans ?_;rw[z1b4,c2,z6 hul,z6 (by unfold zi;rw[ye];omega),hy0];rfl
     ·rw[if_neg hul] at hy;simp at hy)
    (fun z _=>by rw[z12c,z8,if_neg (by simp)]) b.key rfl
   rw[zgf,zw8 (fun a=>(nA a w b.rows).getD z7) hmp (fun a ha y hy=>by rw[hy];rfl)] at lp;exact lp
  have hmem:=zw7 hv
  obtain⟨lp,_⟩:=z1q (e:=.exit 0) (L:=zdk m) (st:=fun (o:Rows) q=>zab w r q o) (l:=bs) (d:=zm) (g:=fun o b=>o++[(((nAs r.aggs w b.rows).bind fun vs=>some (b.key++vs))).getD []]) (fun q o=>o.length=q) (by omega)
   (fun o i b hi hb hI=>by
    have hI':o.length=i:=hI;have hbm:b∈bs:=by rw[← hb];exact z61 (by omega)
    obtain⟨y,hy⟩:=hmem b hbm;have hbk:=hkey b hbm;refine⟨by show (o++[_]).length=_;rw[ya,ye];omega,?_⟩;have hy0:=hy;obtain⟨vs,hvs,hy⟩:=y7.1 hy;obtain rfl:=yi hy;have hvs':nAs r.aggs w b.rows=some vs:=hvs;rw[z24i] at hvs';rw[z12b,c1,cb];simp only[z8,y5,hb];rw[if_pos (by simp;omega),z6 (by omega),z6 (by omega)];refine (zg (L7 i o b vs hb (by omega) hvs')).trans ?_;rw[z1di,z6 (by unfold zi;rw[ye];omega),hy0]
    rfl)
   (fun o _=>by rw[z12b,c1,cb,z8,if_neg (by simp)]) [] rfl
  rw[zgf,y10,zw8 (fun b=>(((nAs r.aggs w b.rows).bind fun vs=>some (b.key++vs))).getD []) hv (fun b hb y hy=>by rw[hy];rfl)] at lp;rw[z1tz,Rel.ids_eq,c1,z6 (by omega),z6 (zro hL),z6 (by omega),z6 ⟨bs,hB⟩];refine (zg lp).trans ?_;rw[z1dh]
 ·simp at hv
theorem z1qc (m:Nat) (hG:z7j m) : FnOK 89 (zou (m+1)):=fnK2 zq zq (M:=(z7b m)) rfl ⟨hG.2.2.2.2.1,hG.2.2.2.2.2.2.2.2.2.1,z23y,zqj,hG.2.1,z2cj,trivial⟩ trivial trivial trivial trivial Tryz.func89 fun w r=>GiF.r fun w1 o=>z1jx m w r (wfA_ w1 0) (wfA_ w1 1) (obA_ o 0) (obA_ o 1)
def zqp (m:Nat) : Mc Un:=mcF_ [(91,z8g m),(143,z1aw),(90,zw4),(85,znj),(142,zsg)] [] [] [(144,zsk)] []
def zzz : Nat→NS:=nsF_ [(11,{ ts:=bl 64 481036337544,bs:=bl 64 8,nm:=[(.sl 7,256),(.sl 36,257),(.sl 8,258)],cs:=true })] true
def zaq (w:Wld) (r:Rel):=zhs [zo w (Rel.mk r.op r.table r.cols r.kids r.terms r.aggs r.keys r.limit r.skip r.all r.rows) (0:Int),zo w (Rel.mk r.op r.table r.cols r.kids r.terms r.aggs r.keys r.limit r.skip r.all r.rows) (1:Int)]
def zgo (w:Wld) (r:Rel):=zo w (Rel.mk r.op r.table r.cols r.kids r.terms r.aggs r.keys r.limit r.skip r.all r.rows) (1:Int)
def zar (w:Wld) (r:Rel):=zo w (Rel.mk r.op r.table r.cols r.kids r.terms r.aggs r.keys r.limit r.skip r.all r.rows) (0:Int)
def z30 (r:Rel) (v0:Int) (v1:List (List Val)) (v2:Int) (v3:List (List Val)) (v4:List (List Val)) : S Un:=(st 64 64 259 0 [(3,ax 3),(7,ao 256),(8,ao 258),(36,ao 257),(37,ai v0),(38,ai v2)] [(3,bg .rel r)] [(256,some ⟨(0:Nat),Ty.row,v3,some (0:Nat),true⟩),(257,some ⟨(0:Nat),Ty.row,v1,some (0:Nat),true⟩),(258,some ⟨(0:Nat),Ty.row,v4,some (0:Nat),true⟩)])
def z4a (m:Nat) : S Un→Option (EX Un):=lpF_ (zqp m) zzz Tryz.f92 [1,1,1,1,1,1,1,0,1,2,2] 11
def zbg (m:Nat) : Exit→S Un→Option (RF Un):=cxF_ (zqp m) zzz Tryz.f92 [1,1,1,1,1,1,1,0,1,2] [.m]
def z1b5 (m:Nat) (w:Wld) (r:Rel) : Option (RF Un):=fnF_ (zqp m) zzz Tryz.f92 3 [.m] [.d (.agg (enc Ty.wld w)),.d (.agg (enc Ty.rel r))]
theorem z257 (m:Nat) (w:Wld) (r:Rel) : z1b5 m w r=obO ((8:Nat)*(Rel.ids r).ht+(4:Nat)<m) (obO (zfg w (Rel.ids r) (0:Int)) (obO ((8:Nat)*(Rel.ids r).ht+(4:Nat)<m) (obO (zfg w (Rel.ids r) (1:Int)) (cndO (r.op == 9) (obO ([zo w (Rel.ids r) (0:Int),zo w (Rel.ids r) (1:Int)].flatten.length≤(1000000000:Nat)) (cndO (!r.all) (obO ((zaq w r).length≤(100000000:Nat)) (cndO (r.op == 9) (some (zw2 (z1x (zaq w r)))) (obO ((zgo w r).length≤(1000000000:Nat)) ((z4a m (z30 r (↑(z1x (zaq w r)).length:Int) (z1x (zaq w r)) (0:Int) (zo w (Rel.ids r) (1:Int)) ([]))).bind (zd (zbg m)))))) (cndO (r.op == 9) (some (zw2 (zaq w r))) (obO ((zgo w r).length≤(1000000000:Nat)) ((z4a m (z30 r (↑(zaq w r).length:Int) (zhs [zo w (Rel.ids r) (0:Int),zo w (Rel.ids r) (1:Int)]) (0:Int) (zo w (Rel.ids r) (1:Int)) ([]))).bind (zd (zbg m))))))) (cndO (!r.all) (obO ((zar w r).length≤(100000000:Nat)) (cndO (r.op == 9) (some (zw2 (z1x (zar w r)))) (obO ((zgo w r).length≤(1000000000:Nat)) ((z4a m (z30 r (↑(z1x (zar w r)).length:Int) (z1x (zar w r)) (0:Int) (zo w (Rel.ids r) (1:Int)) ([]))).bind (zd (zbg m)))))) (cndO (r.op == 9) (some (zw2 (zar w r))) (obO ((zgo w r).length≤(1000000000:Nat)) ((z4a m (z30 r (↑(zar w r).length:Int) (zo w (Rel.ids r) (0:Int)) (0:Int) (zo w (Rel.ids r) (1:Int)) ([]))).bind (zd (zbg m)))))))))):=by kernel_rfl
theorem z16g (m:Nat) (r:Rel) (v0:Int) (v1:List (List Val)) (v2:Int) (v3:List (List Val)) (v4:List (List Val)) : z4a m (z30 r v0 v1 v2 v3 v4)=cndO (decide (v2<v0)) (obO (0≤v2∧v2<(↑v1.length:Int)) (cndO (decide (zx v3 (v1.getD v2.toNat [])≥0)) (obO (0≤zx v3 (v1.getD v2.toNat [])∧zx v3 (v1.getD v2.toNat [])<IntKind.i64.wrap (zx v3 (v1.getD v2.toNat [])+1)∧IntKind.i64.wrap (zx v3 (v1.getD v2.toNat [])+1)≤(↑v3.length:Int)) (cndO (decide (zx v3 (v1.getD v2.toNat [])≥0) == (r.op == 10)) (obO ((v4.length+[v1.getD v2.toNat []].length)*(24:Nat)≤zi) (z4a m (z30 r v0 v1 (IntKind.i64.wrap (v2+1)) (List.take (zx v3 (v1.getD v2.toNat [])).toNat v3++List.drop (IntKind.i64.wrap (zx v3 (v1.getD v2.toNat [])+1)).toNat v3) (v4++[v1.getD v2.toNat []])))) (z4a m (z30 r v0 v1 (IntKind.i64.wrap (v2+1)) (List.take (zx v3 (v1.getD v2.toNat [])).toNat v3++List.drop (IntKind.i64.wrap (zx v3 (v1.getD v2.toNat [])+1)).toNat v3) v4)))) (cndO (decide (zx v3 (v1.getD v2.toNat [])≥0) == (r.op == 10)) (obO ((v4.length+[v1.getD v2.toNat []].length)*(24:Nat)≤zi) (z4a m (z30 r v0 v1 (IntKind.i64.wrap (v2+1)) v3 (v4++[v1.getD v2.toNat []])))) (z4a m (z30 r v0 v1 (IntKind.i64.wrap (v2+1)) v3 v4))))) (some (.exit 0,(z30 r v0 v1 v2 v3 v4))):=lpQ_ (by kernel_rfl)
theorem z1jy (m:Nat) (r:Rel) (v0:Int) (v1:List (List Val)) (v2:Int) (v3:List (List Val)) (v4:List (List Val)) : zbg m (.exit 0) (z30 r v0 v1 v2 v3 v4)=some (zw2 (v4)):=by kernel_rfl
theorem z1u0 (m:Nat) (w:Wld) (r:Rel) (_hw:WS .wld w) (_hr:WS .rel r) (hm:8*r.ht+6<m+1) (h:z1pr w r) : z1b5 m w r=some (zw2 (zc1 w r)):=by
 obtain⟨v,hv⟩:=h;have e:zc1 w r=v:=by unfold zc1;rw[hv];rfl
 rw[e];unfold nSet setO at hv;obtain⟨a,hA,hv⟩:=y7.1 hv;obtain⟨b,hB,hv⟩:=y7.1 hv;obtain⟨z,hz,hv⟩:=y7.1 hv;obtain rfl:=yi hv;have hal:=zcj hA;have hbl:=zcj hB;have e2:zgo w r=b:=zty hB;have e3:zar w r=a:=z5z hA;have e1:zaq w r=a++b:=by
  show zhs [zo w (Rel.ids r) 0,zo w (Rel.ids r) 1]=_;rw[Rel.ids_eq,z5z hA,zty hB];unfold zhs;simp
 have hpl:∀ (x:List Val) (l:Rows),0≤zx l x→(zx l x).toNat<l.length∧((zx l x).toNat:Int)=zx l x:=fun x l h0=>by
  unfold zx at h0 ⊢;cases hf : l.findIdx? (fun y=>plc1 y x) with
  | none=>rw[hf] at h0;exact absurd h0 (by decide)
  | some i=>exact⟨by simpa using (y2n.1 hf).1,by simp⟩
 have loop:∀ (c:Rows),c.length≤100000000→∀ (q:Rows) (i:Nat) (left out:Rows),c.drop i=q→i≤c.length→left.length≤100000000→out.length≤i →
   (z4a m (z30 r (c.length:Int) c (i:Int) left out)).bind (zd (zbg m))=some (zw2 (out++setL (decide (r.op=10)) q left)):=by
  intro c hc q
  induction q with
  | nil =>
   intro i left out hr hi hlf ho;have hil:c.length≤i:=by rw[← y1n];exact hr
   have e:z4a m (z30 r (c.length:Int) c (i:Int) left out)=some (.exit 0,z30 r (c.length:Int) c (i:Int) left out):=by rw[z16g,z8,if_neg (by simp;omega)]
   rw[zg e,z1jy];simp only[setL,y14]
  | cons x q ih =>
   intro i left out hr hi hlf ho;obtain⟨a1,a2,a3,hmem⟩:=z39 hr;have hx:c.getD i []=x:=a2 [];have hb0:∀ p : Bool,(p == (r.op == 10))=true↔p=decide (r.op=10):=fun p=>by
    have : (r.op == 10)=decide (r.op=10):=by cases h : decide (r.op=10)<;>simp_all
    rw[this,beq_iff_eq]
   have hge:decide (zx left x≥0)=decide (0≤zx left x):=rfl;have hsl:=z16g m r (c.length:Int) c (i:Int) left out;simp only[z8,y5,hx,z40 a1 (show c.length≤9223372036854775807 by omega),hb0,hge] at hsl;rw[if_pos (by simp;omega),z6 (by omega)] at hsl;simp only[setL];by_cases d : 0≤zx left x
   ·obtain⟨p1,p2⟩:=hpl x left d;obtain⟨p,hp⟩ : ∃ p,p=(zx left x).toNat:=⟨_,rfl⟩;rw[← hp] at p1 p2;have hw1:IntKind.i64.wrap (zx left x+1)=((p+1:Nat):Int):=by rw[← p2];exact z1j (by omega)
    have hlt:(left.take p++left.drop (p+1)).length≤100000000:=by rw[ya,yw,yx];omega
    have he:left.eraseIdx p=left.take p++left.drop (p+1):=List.eraseIdx_eq_take_drop_succ _ _;rw[if_pos (by simpa using d),hw1,← p2,y5,y5,z6 (by omega)] at hsl;rw[if_pos d,← hp,he];have dd:decide (0≤(p:Int))=true:=by simp
    rw[dd] at hsl;rw[decide_eq_true d];by_cases d2 : true=decide (r.op=10)
    ·rw[if_pos d2,z6 (by unfold zi;rw[ye];omega)] at hsl;rw[if_pos d2,hsl,ih (i+1) _ (out++[x]) a3 (by omega) hlt (by rw[ya,ye];omega),y12]
    ·rw[if_neg d2] at hsl;rw[if_neg d2,hsl,ih (i+1) _ out a3 (by omega) hlt (by omega),y10]
   ·rw[if_neg (by simpa using d)] at hsl;rw[if_neg d];rw[decide_eq_false d] at hsl ⊢;by_cases d2 : false=decide (r.op=10)
    ·rw[if_pos d2,z6 (by unfold zi;rw[ye];omega)] at hsl;rw[if_pos d2,hsl,ih (i+1) _ (out++[x]) a3 (by omega) hlf (by rw[ya,ye];omega),y12]
    ·rw[if_neg d2] at hsl;rw[if_neg d2,hsl,ih (i+1) _ out a3 (by omega) hlf (by omega),y10]
 have hon:∀ l : Rows,(z1x l).length≤l.length:=fun l=>by
  have : ∀ (l o:Rows),(l.foldl (fun o x=>if zx o x<0 then o++[x] else o) o).length≤o.length+l.length:=by
   intro l
   induction l with
   | nil=>intro o;simp
   | cons x l ih =>
    intro o;rw[yr];refine y1h (ih _) ?_;split
    ·rw[ya,ye,yq];omega
    ·rw[yq];omega
  have h0:=this l [];rw[y1a,y16] at h0;exact h0
 have s9:∀ c : Rows,r.op=9→setE r.op r.all c b=if r.all=true then c else z1x c:=fun c h=>by unfold setE;rw[if_pos h]
 have s10:∀ c : Rows,r.op≠9→setE r.op r.all c b=setL (decide (r.op=10)) (if r.all=true then c else z1x c) b:=fun c h=>by unfold setE;rw[if_neg h]
 rw[z257];simp only[z8,Rel.ids_eq,beq_iff_eq,e1,e2,e3,z5z hA,zty hB];rw[z6 (by omega),z6 (zro hA),z6 (by omega),z6 (z2h2 hB)];by_cases c9 : r.op=9
 ·rw[if_pos c9] at hz;obtain⟨h1,h2⟩:=zyc hz;subst h1;rw[ya] at h2;rw[if_pos c9,z6 (by simp;omega),s9 _ c9];by_cases ca : r.all=true
  ·rw[if_neg (by simp [ca]),if_pos c9,if_pos ca]
  ·rw[if_pos (by simpa using ca),z6 (by rw[ya];omega),if_pos c9,if_neg ca]
 ·rw[if_neg c9] at hz;obtain rfl:=yi hz;rw[if_neg c9,s10 _ c9];by_cases ca : r.all=true
  ·rw[if_neg (by simp [ca]),if_neg c9,z6 (by omega),if_pos ca];have:=loop a (by omega) a 0 b [] rfl (yb _) hbl (yb _);exact this
  ·rw[if_pos (by simpa using ca),z6 (by omega),if_neg c9,z6 (by omega),if_neg ca];have h1:=hon a;have:=loop (z1x a) (by omega) (z1x a) 0 b [] rfl (yb _) hbl (yb _);exact this
theorem z1zj (m:Nat) (hG:z7j m) : FnOK 92 (zwc (m+1)):=fnK2 zq zq (M:=(zqp m)) rfl ⟨hG.2.2.2.2.1,z1za,z160,zsc,z11q,trivial⟩ trivial trivial ⟨z1pz,trivial⟩ trivial Tryz.func92 fun w r=>GiF.r fun w1 o=>z1u0 m w r (wfA_ w1 0) (wfA_ w1 1) (obA_ o 0) (obA_ o 1)
theorem z1dj (m:Nat) (hG:z7j m) : FnOK 139 (zap (m+1)):=by
 intro args ob rs os h hob;unfold zap at h;split at h
 ·simp only[y7,y8,ym] at h;obtain⟨w,e0,rows,e1,terms,e2,rfl,rfl,rfl⟩:=h;obtain rfl:=zq e0;obtain rfl:=z10 e1;obtain rfl:=z10 e2;have hm:8*htTs terms+9<m+1:=hob _ (yh (i:=0) rfl);obtain⟨bs,hbs⟩ : z2co w rows terms:=hob _ (yh (i:=1) rfl);have e:z1b w rows terms=bs:=by unfold z1b;rw[hbs];rfl
  rw[e];refine⟨z1js w rows terms bs hbs (fun x key hk=>?_),zl Tryz.func139 (by kernel_rfl) (by kernel_rfl)⟩;have hF:zaa m [.d (.agg (enc Ty.wld (zh w x))),.d (.v (.dat (U:=Un) Ty.term terms))]=some ([8*htTs terms+8<m,okTs (zh w x) terms],z16b (z5m (zh w x) terms),[]):=by
   unfold zaa fnF2;simp only[zun,z1kz,yk];rfl
  have hC:=(hG.2.2.1 _ _ _ _ hF (fun p hp=>by
   simp only[yf,y2l,or_false] at hp;rcases hp with rfl | rfl
   ·omega
   ·exact⟨(z1ar hbs).1.2.1,key,hk⟩)).1
  rw[zht hk] at hC;exact Contract.data hC
 ·simp at h
theorem z3t : ∀ m,z7j m
  | 0 => ⟨fnZ2, fnZ2, fnZ2, fnZ3, fnZ3, fnZ2, fnZ2, fnZ2, fnZ2, by
        intro args ob rs os h hob;unfold zap at h;split at h
        · simp only[y7,y8,ym] at h;obtain⟨_,_,_,_,_,_,rfl,_,_⟩:=h;exact absurd (hob _ (yh (i:=0) rfl)) (y17 _)
        · simp at h
      ,fnZ2,fnZ2⟩
  | m+1=>⟨z1ts m (z3t m),z1tt m (z3t m),z1q8 m (z3t m),z254 m (z3t m),z1zg m (z3t m),z1zh m (z3t m),z1ju m (z3t m),z1df m (z3t m),z1ty m (z3t m),z1dj m (z3t m),z1qc m (z3t m),z1zj m (z3t m)⟩
def z1gm : FnC Un:=fnF2 (dS .wld) (dS .rel) fun w r=>([okRl w r],zw2 (z9s w r))
theorem z258 : FnOK 45 z1gm:=fnA2 fun m=>(z3t m).2.2.2.2.2.1
end
end B
namespace B
open Go Go.RowKit
set_option maxRecDepth 100000
noncomputable section
attribute [local irreducible] awp ctxK zu z1d retQ z1p awf ctxF z1o
def z100 (r:List (List Val)) : RF Un:=([.c (.sl (U:=Un) Ty.row r false)],[])
def z1b6 (s:List (List Val)) : Option (RF Un):=fnF_ z1du z269 Tryz.f44 0 [.d] [.d (.v (.dat (U:=Un) Ty.row s))]
theorem z259 (s:List (List Val)) : z1b6 s=obO ((0:Int)≤(↑s.length:Int)∧(↑s.length:Int)=(↑s.length:Int)∧(↑s.length:Int)≤(↑s.length:Int)) (some (z100 (List.take (↑s.length:Int).toNat s))):=by kernel_rfl
def z1b7 (s:List (List Val)) : List (List Val):=s
theorem z1u1 (s:List (List Val)) (hs:WL .row s) : z1b6 s=some (z100 (z1b7 s)):=by
 rw[z259,z6 (by omega),y5,y3k];rfl
def z1go : FnC Un:=fnF1 (dL .row) fun s=>([],z100 (z1b7 s))
theorem z25a : FnOK 44 z1go:=fnK1 z10 (M:=z1du) rfl trivial trivial trivial trivial trivial Tryz.func44 fun s=>GiF.r fun w _=>z1u1 s (wfA_ w 0)
def z1gp : Mc Un:=mcF_ [(45,z1gm),(44,z1go)] [] [] [] []
def z1b8 (r:Rel) (env:List (List Val)) (db:List Data) : Option (RF Un):=fnF_ z1gp z269 Tryz.f16 0 [.d] [.d (.agg (enc Ty.rel r)),.d (.v (.dat (U:=Un) Ty.row env)),.d (.v (.dat (U:=Un) Ty.data db))]
theorem z25b (r:Rel) (env:List (List Val)) (db:List Data) : z1b8 r env db=obO (okRl { env:=env,db:=db } (Rel.ids r)) (some (z100 (z1b7 (z9s { env:=env,db:=db } (Rel.ids r))))):=by kernel_rfl
def z1b9 (r:Rel) (env:List (List Val)) (db:List Data) : List (List Val):=z9s ⟨env,db⟩ r
theorem z1u2 (r:Rel) (env:List (List Val)) (db:List Data) (_hr:WS .rel r) (_he:WL .row env) (_hd:WL .data db) (h:okRl ⟨env,db⟩ r) : z1b8 r env db=some (z100 (z1b9 r env db)):=by
 rw[z25b];simp only[Rel.ids_eq];rw[z6 h];rfl
def z1gq : FnC Un:=fnF3 (dS .rel) (dL .row) (dL .data) fun r env db=>([okRl ⟨env,db⟩ r],z100 (z1b9 r env db))
theorem z25c : FnOK 16 z1gq:=fnK3 zq z10 z10 (M:=z1gp) rfl ⟨z258,z25a,trivial⟩ trivial trivial trivial trivial Tryz.func16 fun r env db=>GiF.r fun w o=>z1u2 r env db (wfA_ w 0) (wfA_ w 1) (wfA_ w 2) (obA_ o 0)
def z1gr : Mc Un:=mcF_ [(16,z1gq)] [] [] [] []
def z1ba (r:Rel) (db:List Data) : Option (RF Un):=fnF_ z1gr z269 Tryz.f14 0 [.d] [.d (.agg (enc Ty.rel r)),.d (.v (.dat (U:=Un) Ty.data db))]
theorem z25d (r:Rel) (db:List Data) : z1ba r db=obO (okRl { env:=[],db:=db } (Rel.ids r)) (some (z100 (z1b9 (Rel.ids r) [] db))):=by kernel_rfl
def z2c (r:Rel) (db:List Data) : List (List Val):=z9s ⟨[],db⟩ r
theorem z1u3 (r:Rel) (db:List Data) (_hr:WS .rel r) (_hd:WL .data db) (h:okRl ⟨[],db⟩ r) : z1ba r db=some (z100 (z2c r db)):=by
 rw[z25d];simp only[Rel.ids_eq];rw[z6 h];rfl
def z103 : FnC Un:=fnF2 (dS .rel) (dL .data) fun r db=>([okRl ⟨[],db⟩ r],z100 (z2c r db))
theorem z1bb : FnOK 14 z103:=fnK2 zq z10 (M:=z1gr) rfl ⟨z25c,trivial⟩ trivial trivial trivial trivial Tryz.func14 fun r db=>GiF.r fun w o=>z1u3 r db (wfA_ w 0) (wfA_ w 1) (obA_ o 0)
end
end B
end Go.Proofs.YtjfpbchdcbhfgaaGreat
