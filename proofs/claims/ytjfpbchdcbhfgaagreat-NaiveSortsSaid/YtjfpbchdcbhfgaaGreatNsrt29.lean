/- Part 29 of the proof: Snaive5. -/
import Derived.Test.YtjfpbchdcbhfgaaGreatNsrt28
namespace Go.Proofs.YtjfpbchdcbhfgaaGreat.B
open Go Go.RowKit
set_option maxRecDepth 100000
set_option linter.unusedVariables false
noncomputable section
attribute [local irreducible] awp ctxK z12 z1o retQ z2i awf ctxF zt
def z130 (r:List (List Val)) : List (A Un):=[.c (.ob 0 0)]
def z131 (r:List (List Val)) : List (Ob Un):=[⟨0,Ty.row,r,some 0,true⟩]
def z2c (m:Nat) : FnC Un:=fun args=>match args with
 | [x0,x1]=>(dS .wld x0).bind fun w=>(dS .term x1).bind fun t=>some ([8*t.ht+6<m,z1dx w t],z130 (z5a w t),z131 (z5a w t))
 | _=>none
def z132 (r:Val) : List (A Un):=[.agg (encC Ty.val r)]
def z133 (_r:Val) : List (Ob Un):=[]
def z1b (m:Nat) : FnC Un:=fun args=>match args with
 | [x0,x1]=>(dS .wld x0).bind fun w=>(dS .term x1).bind fun t=>some ([8*t.ht+7<m,okT w t],z132 (z62 w t),z133 (z62 w t))
 | _=>none
def zmw (r:List Val) : List (A Un):=[.c (.sl (U:=Un) Ty.val r false)]
def zzl (_r:List Val) : List (Ob Un):=[]
def z1e (m:Nat) : FnC Un:=fun args=>match args with
 | [x0,x1]=>(dS .wld x0).bind fun w=>(dL .term x1).bind fun l=>some ([8*htTs l+8<m,okTs w l],zmw (z55 w l),zzl (z55 w l))
 | _=>none
def z1eb (r:Bool) : List (A Un):=[.c (.s (.bool r))]
def z1ec (_r:Bool) : List (Ob Un):=[]
def z2k (m:Nat) : FnC Un:=fun args=>match args with
 | [x0,x1,x2]=>(dS .wld x0).bind fun w=>(dL .term x1).bind fun l=>(dL .val x2).bind fun x=>some ([8*htTs l+8<m,okSo w l x],z1eb (zb4 w l x),z1ec (zb4 w l x))
 | _=>none
def z16r (r:List (List Val)) : List (A Un):=[.c (.ob 0 0)]
def z16s (r:List (List Val)) : List (Ob Un):=[⟨0,Ty.row,r,some 0,true⟩]
def z17 (m:Nat) : FnC Un:=fun args=>match args with
 | [x0,x1,x2]=>(dS .wld x0).bind fun w=>(dS .rel x1).bind fun r=>(dI .i64 x2).bind fun n=>some ([8*r.ht+4<m,zdr w r n],z16r (zm w r n),z16s (zm w r n))
 | _=>none
def zt4 (r:List (List Val)) : List (A Un):=[.c (.ob 0 0)]
def zt5 (r:List (List Val)) : List (Ob Un):=[⟨0,Ty.row,r,some 0,true⟩]
def z1s (m:Nat) : FnC Un:=fun args=>match args with
 | [x0,x1]=>(dS .wld x0).bind fun w=>(dS .rel x1).bind fun r=>some ([8*r.ht+7<m,okRl w r],zt4 (z75 w r),zt5 (z75 w r))
 | _=>none
def zvq (r:List (List Val)) : List (A Un):=[.c (.ob 0 0)]
def zvr (r:List (List Val)) : List (Ob Un):=[⟨0,Ty.row,r,some 0,true⟩]
def z1q (m:Nat) : FnC Un:=fun args=>match args with
 | [x0,x1]=>(dS .wld x0).bind fun w=>(dS .rel x1).bind fun r=>some ([8*r.ht+6<m,z1a2 w r],zvq (z80 w r),zvr (z80 w r))
 | _=>none
def zru (r:List (List Val)) : List (A Un):=[.c (.ob 0 0)]
def zrv (r:List (List Val)) : List (Ob Un):=[⟨0,Ty.row,r,some 0,true⟩]
def z1l (m:Nat) : FnC Un:=fun args=>match args with
 | [x0,x1]=>(dS .wld x0).bind fun w=>(dS .rel x1).bind fun r=>some ([8*r.ht+6<m,z12q w r],zru (z76 w r),zrv (z76 w r))
 | _=>none
def z134 (r:List (List Val)) : List (A Un):=[.c (.ob 0 0)]
def z135 (r:List (List Val)) : List (Ob Un):=[⟨0,Ty.row,r,some 0,true⟩]
def z2d (m:Nat) : FnC Un:=fun args=>match args with
 | [x0,x1]=>(dS .wld x0).bind fun w=>(dS .rel x1).bind fun r=>some ([8*r.ht+6<m,z1dz w r],z134 (z8m w r),z135 (z8m w r))
 | _=>none
def z1ed (r:List Bunch) : List (A Un):=[.c (.sl (U:=Un) Ty.bunch r false)]
def z1ee (_r:List Bunch) : List (Ob Un):=[]
def z1m (m:Nat) : FnC Un:=fun args=>match args with
 | [x0,x1,x2]=>(dS .wld x0).bind fun w=>(dL .row x1).bind fun rows=>(dL .term x2).bind fun terms=>some ([8*htTs terms+9<m,z1x2 w rows terms],z1ed (z19 w rows terms),z1ee (z19 w rows terms))
 | _=>none
def zzm (r:List (List Val)) : List (A Un):=[.c (.ob 0 0)]
def zzn (r:List (List Val)) : List (Ob Un):=[⟨0,Ty.row,r,some 0,true⟩]
def z1w (m:Nat) : FnC Un:=fun args=>match args with
 | [x0,x1]=>(dS .wld x0).bind fun w=>(dS .rel x1).bind fun r=>some ([8*r.ht+6<m,z1hq w r],zzm (z8u w r),zzn (z8u w r))
 | _=>none
def z16t (r:List (List Val)) : List (A Un):=[.c (.ob 0 0)]
def z16u (r:List (List Val)) : List (Ob Un):=[⟨0,Ty.row,r,some 0,true⟩]
def z2m (m:Nat) : FnC Un:=fun args=>match args with
 | [x0,x1]=>(dS .wld x0).bind fun w=>(dS .rel x1).bind fun r=>some ([8*r.ht+6<m,z1e0 w r],z16t (z8v w r),z16u (z8v w r))
 | _=>none
def zpo (m:Nat) : Mc Un:=mach (tbl [(45,z1s m)]) (tbl []) (tbl []) (tbl []) (tbl [])
def zpp (r:List (List Val)) : RF Un:=(z130 r,z131 r)
def z136 : Nat→NS:=fun l=>(look l []).getD ⟨[],[],[],[],[],true⟩
def zzo (m:Nat) (w:Wld) (t:Term) : Option (RF Un):=awf (zpo m) z136 (z8 Tryz.f118) (zg Tryz.f118.ntmps 0 [.d (.agg (enc Ty.wld w)),.d (.agg (enc Ty.term t))]) (retF (zpo m) Tryz.f118.results.toList [.m])
theorem z1mq (m:Nat) (w:Wld) (t:Term) : zzo m w t=cndO ((↑t.sub.length:Int) == (0:Int)) (some (zpp ([]))) (obO ((0:Int)≤(0:Int)∧(0:Int)<(↑t.sub.length:Int)) (obO ((8:Nat)*(Rel.ids (t.sub.getD 0 zi)).ht+(7:Nat)<m) (obO (okRl w (Rel.ids (t.sub.getD 0 zi))) (some (zpp (z75 w (Rel.ids (t.sub.getD 0 zi)))))))):=by kernel_rfl
theorem Term.ht_kids (t:Term) : htTs t.kids<t.ht:=by cases t;simp only[Term.kids_mk,Term.ht];omega
theorem Rel.ht_terms (r:Rel) : htTs r.terms<r.ht:=by cases r;simp only[Rel.terms_mk,Rel.ht];omega
theorem zgy {w:Wld} {t:Term} {l:Rows} (h:nSub t.sub w=some l) : z5a w t=l:=by unfold z5a;rw[h];rfl
theorem z9h {w:Wld} {r:Rel} {l:Rows} (h:nR r w=some l) : z75 w r=l:=by unfold z75;rw[h];rfl
theorem zad {w:Wld} {t:Term} {v:Val} (h:nT t w=some v) : z62 w t=v:=by unfold z62;rw[h];rfl
theorem zf7 {w:Wld} {t:List Term} {v:List Val} (h:nTs t w=some v) : z55 w t=v:=by unfold z55;rw[h];rfl
theorem zt6 {w:Wld} {t:List Term} {x:List Val} {b:Bool} (h:nSo t (zp w x)=some b) : zb4 w t x=b:=by unfold zb4;rw[h];rfl
theorem zpq {w:Wld} {r:Rel} {n:Nat} {l:Rows} (h:nKid r.kids n w=some l) : zm w r (n:Int)=l:=by unfold zm;rw[Int.toNat_natCast,h];rfl
theorem z63 {w:Wld} {r:Rel} {l:Rows} (h:nKid r.kids 0 w=some l) : zm w r (0:Int)=l:=zpq (n:=0) h
theorem znp {w:Wld} {r:Rel} {l:Rows} (h:nKid r.kids 1 w=some l) : zm w r (1:Int)=l:=zpq (n:=1) h
theorem zm9 {w:Wld} {r:Rel} {l:Rows} (h:nKid r.kids 0 w=some l) : zdr w r (0:Int):=⟨Int.le_refl _,l,h⟩
theorem z204 {w:Wld} {r:Rel} {l:Rows} (h:nKid r.kids 1 w=some l) : zdr w r (1:Int):=⟨by omega,l,h⟩
theorem z1ef (m:Nat) (w:Wld) (t:Term) (_hw:WS .wld w) (_ht:WS .term t) (hm:8*t.ht+6<m+1) (h:z1dx w t) : zzo m w t=some (zpp (z5a w t)):=by
 obtain⟨l,hl⟩:=h
 rw[zgy hl]
 rw[z23t] at hl
 rw[z1mq]
 simp only[za,Rel.ids_eq,beq_iff_eq]
 by_cases h0 : t.sub.length=0
 ·rw[if_pos h0] at hl
  obtain rfl:=Option.some.inj hl
  rw[if_pos (by omega)]
 ·rw[if_neg h0] at hl
  have hs:(t.sub.getD 0 zi).ht<t.ht:=Term.ht_sub (z9f (by omega))
  rw[if_neg (by omega),z6 (by omega),z6 (by omega),z6 ⟨l,hl⟩,z9h hl]
theorem z1hs (m:Nat) (haq:FnOK 118 (z2c m)) (hao:FnOK 67 (z1b m)) (hah:FnOK 121 (z1e m)) (haz:FnOK 136 (z2k m)) (hay:FnOK 91 (z17 m)) (hau:FnOK 45 (z1s m)) (hae:FnOK 86 (z1q m)) (hac:FnOK 87 (z1l m)) (har:FnOK 88 (z2d m)) (haa:FnOK 139 (z1m m)) (haf:FnOK 89 (z1w m)) (haw:FnOK 92 (z2m m)) : FnOK 118 (z2c (m+1)):=by
 intro args ob rs os h hob
 unfold z2c at h
 split at h
 ·simp only[Option.bind_eq_some_iff,Option.some.injEq,Prod.mk.injEq] at h
  obtain⟨w,e0,t,e1,rfl,rfl,rfl⟩:=h
  obtain rfl:=z18 e0
  obtain rfl:=z18 e1
  exact⟨zd (M:=(zpo m)) rfl (zf (l1:=[(45,z1s m)]) (l2:=[]) (l3:=[]) (l4:=[]) (l5:=[]) ⟨hau,trivial⟩ trivial trivial trivial trivial) Tryz.func118 (by kernel_rfl) z136 0 [.m] (fun hwf=>(z1ef m w t (ze hwf (a:=.d (.agg (enc Ty.wld w))) (List.mem_of_getElem? (i:=0) rfl)) (ze hwf (a:=.d (.agg (enc Ty.term t))) (List.mem_of_getElem? (i:=1) rfl)) (hob _ (List.mem_of_getElem? (i:=0) rfl)) (hob _ (List.mem_of_getElem? (i:=1) rfl)))),zb Tryz.func118 (by kernel_rfl) (by kernel_rfl)⟩
 ·simp at h
def zpr (m:Nat) : Mc Un:=mach (tbl [(117,zgo),(118,z2c m),(39,z7w),(67,z1b m),(119,zgs),(121,z1e m),(120,z94)]) (tbl []) (tbl []) (tbl []) (tbl [])
def z5u (r:Val) : RF Un:=(z132 r,z133 r)
def z137 : Nat→NS:=fun l=>(look l []).getD ⟨[],[],[],[],[],true⟩
def zzp (m:Nat) (w:Wld) (t:Term) : Option (RF Un):=awf (zpr m) z137 (z8 Tryz.f67) (zg Tryz.f67.ntmps 0 [.d (.agg (enc Ty.wld w)),.d (.agg (enc Ty.term t))]) (retF (zpr m) Tryz.f67.results.toList [.d])
theorem z1mr (m:Nat) (w:Wld) (t:Term) : zzp m w t=cndO (t.op == 1) (obO ((Term.ids t).sz≤(2000000:Nat)) (obO (strT (Term.ids t)) (obO (zex w.env) (some (z5u (z3d (Term.ids t) w.env)))))) (cndO (t.op == 2) (obO ((Term.ids t).sz≤(2000000:Nat)) (obO (strT (Term.ids t)) (obO (zex w.env) (some (z5u (z3d (Term.ids t) w.env)))))) (cndO (t.op == 26) (obO ((8:Nat)*(Term.ids t).ht+(6:Nat)<m) (obO (z1dx w (Term.ids t)) (cndO ((↑(z5a w (Term.ids t)).length:Int) == (1:Int)) (obO ((0:Int)≤(0:Int)∧(0:Int)<(↑(z5a w (Term.ids t)).length:Int)) (cndO (decide ((↑(List.length ((z5a w (Term.ids t)).getD 0 [])):Int) > (0:Int))) (obO ((0:Int)≤(0:Int)∧(0:Int)<(↑(z5a w (Term.ids t)).length:Int)) (obO ((0:Int)≤(0:Int)∧(0:Int)<(↑(List.length ((z5a w (Term.ids t)).getD 0 [])):Int)) (some (z5u (List.getD ((z5a w (Term.ids t)).getD 0 []) 0 z7))))) (some (z5u (z7))))) (some (z5u (z7)))))) (cndO (t.op == 27) (obO ((8:Nat)*(Term.ids t).ht+(6:Nat)<m) (obO (z1dx w (Term.ids t)) (some (z5u (z2z (decide ((↑(z5a w (Term.ids t)).length:Int) > (0:Int)))))))) (cndO (t.op == 28) (cndO ((↑t.kids.length:Int) == (0:Int)) (some (z5u (z7))) (obO ((0:Int)≤(0:Int)∧(0:Int)<(↑t.kids.length:Int)) (obO ((8:Nat)*(Term.ids (t.kids.getD 0 z1h)).ht+(7:Nat)<m) (obO (okT w (Term.ids (t.kids.getD 0 z1h))) (obO ((8:Nat)*(Term.ids t).ht+(6:Nat)<m) (obO (z1dx w (Term.ids t)) (some (z5u (zd9 (z62 w (Term.ids (t.kids.getD 0 z1h))) (z5a w (Term.ids t))))))))))) (obO ((8:Nat)*htTs t.kids+(8:Nat)<m) (obO (okTs w t.kids) (obO (txts (z55 w t.kids)) (some (z5u (z1x t.op t.name (z55 w t.kids))))))))))):=by kernel_rfl
theorem z1eg (m:Nat) (w:Wld) (t:Term) (_hw:WS .wld w) (_ht:WS .term t) (hm:8*t.ht+7<m+1) (h:okT w t) : zzp m w t=some (z5u (z62 w t)):=by
 obtain⟨v,hv⟩:=h
 rw[zad hv]
 rw[z1nl] at hv
 rw[z1mr]
 simp only[za,Term.ids_eq,beq_iff_eq,decide_eq_true_eq]
 have hkd:=Term.ht_kids t
 by_cases c12 : t.op=1∨t.op=2
 ·rw[if_pos c12] at hv
  obtain⟨⟨h1,h2,h3⟩,h4⟩:=chkQ_some.1 hv
  obtain rfl:=Option.some.inj h4
  rcases c12 with c | c
  ·rw[if_pos c,z6 h1,z6 h2,z6 h3]
  ·rw[if_neg (by omega),if_pos c,z6 h1,z6 h2,z6 h3]
 rw[if_neg c12] at hv
 rw[if_neg (fun e=>c12 (.inl e)),if_neg (fun e=>c12 (.inr e))]
 by_cases c3 : t.op=26
 ·rw[if_pos c3] at hv ⊢
  obtain⟨l,hl,h4⟩:=Option.bind_eq_some_iff.1 hv
  obtain rfl:=Option.some.inj h4
  rw[z6 (by omega),z6 ⟨l,hl⟩,zgy hl]
  by_cases d1 : l.length=1
  ·rw[if_pos (by omega),z6 (by omega)]
   by_cases d2 : 0<(l.getD 0 []).length
   ·rw[if_pos (by omega),z6 (by omega),z6 (by omega),if_pos ⟨d1,d2⟩]
   ·rw[if_neg (by omega),if_neg (fun e=>d2 e.2)]
  ·rw[if_neg (by omega),if_neg (fun e=>d1 e.1)]
 rw[if_neg c3] at hv ⊢
 by_cases c4 : t.op=27
 ·rw[if_pos c4] at hv ⊢
  obtain⟨l,hl,h4⟩:=Option.bind_eq_some_iff.1 hv
  obtain rfl:=Option.some.inj h4
  rw[z6 (by omega),z6 ⟨l,hl⟩,zgy hl]
  have e:decide ((l.length:Int) > 0)=decide (0<l.length):=decide_eq_decide.2 (by omega)
  rw[e]
 rw[if_neg c4] at hv ⊢
 by_cases c5 : t.op=28
 ·rw[if_pos c5] at hv ⊢
  by_cases d : t.kids.length=0
  ·rw[if_pos d] at hv
   obtain rfl:=Option.some.inj hv
   rw[if_pos (by omega)]
  ·rw[if_neg d] at hv
   obtain⟨x,hx,h4⟩:=Option.bind_eq_some_iff.1 hv
   obtain⟨l,hl,h5⟩:=Option.bind_eq_some_iff.1 h4
   obtain rfl:=Option.some.inj h5
   rw[z1qs,if_neg d] at hx
   have hk:(t.kids.getD 0 z1h).ht<t.ht:=Term.ht_kidD (by omega)
   rw[if_neg (by omega),z6 (by omega),z6 (by omega),z6 ⟨x,hx⟩,z6 (by omega),z6 ⟨l,hl⟩,zad hx,zgy hl]
 rw[if_neg c5] at hv ⊢
 split at hv
 ·rename_i hk
  obtain⟨l,hl,h4⟩:=Option.bind_eq_some_iff.1 hv
  obtain⟨h5,h6⟩:=chkQ_some.1 h4
  obtain rfl:=Option.some.inj h6
  rw[z6 (by omega),z6 ⟨by omega,l,hl⟩,zf7 hl,z6 h5]
 ·simp at hv
theorem z1ht (m:Nat) (haq:FnOK 118 (z2c m)) (hao:FnOK 67 (z1b m)) (hah:FnOK 121 (z1e m)) (haz:FnOK 136 (z2k m)) (hay:FnOK 91 (z17 m)) (hau:FnOK 45 (z1s m)) (hae:FnOK 86 (z1q m)) (hac:FnOK 87 (z1l m)) (har:FnOK 88 (z2d m)) (haa:FnOK 139 (z1m m)) (haf:FnOK 89 (z1w m)) (haw:FnOK 92 (z2m m)) : FnOK 67 (z1b (m+1)):=by
 intro args ob rs os h hob
 unfold z1b at h
 split at h
 ·simp only[Option.bind_eq_some_iff,Option.some.injEq,Prod.mk.injEq] at h
  obtain⟨w,e0,t,e1,rfl,rfl,rfl⟩:=h
  obtain rfl:=z18 e0
  obtain rfl:=z18 e1
  exact⟨zd (M:=(zpr m)) rfl (zf (l1:=[(117,zgo),(118,z2c m),(39,z7w),(67,z1b m),(119,zgs),(121,z1e m),(120,z94)]) (l2:=[]) (l3:=[]) (l4:=[]) (l5:=[]) ⟨z1gy,haq,zmm,hao,z1hh,hah,zrc,trivial⟩ trivial trivial trivial trivial) Tryz.func67 (by kernel_rfl) z137 0 [.d] (fun hwf=>(z1eg m w t (ze hwf (a:=.d (.agg (enc Ty.wld w))) (List.mem_of_getElem? (i:=0) rfl)) (ze hwf (a:=.d (.agg (enc Ty.term t))) (List.mem_of_getElem? (i:=1) rfl)) (hob _ (List.mem_of_getElem? (i:=0) rfl)) (hob _ (List.mem_of_getElem? (i:=1) rfl)))),zb Tryz.func67 (by kernel_rfl) (by kernel_rfl)⟩
 ·simp at h
def zae (m:Nat) : Mc Un:=mach (tbl [(67,z1b m)]) (tbl []) (tbl []) (tbl []) (tbl [])
def zmx (r:List Val) : RF Un:=(zmw r,zzl r)
def zaf : Nat→NS:=fun l=>(look l [(3,{ ts:=bl 26 14372,bs:=bl 26 4,nm:=[(.sl 5,104)],cs:=true })]).getD ⟨[],[],[],[],[],true⟩
def z4i (w:Wld) (l:List Term) (v0:Int) (v1:List Val) : S Un:=(st 26 26 105 0 [(2,ax 2),(5,ao 104),(11,al .term l),(12,ai (↑l.length:Int)),(13,ai v0)] [(2,bg .wld w)] [(104,some ⟨(0:Nat),Ty.val,v1,some (0:Nat),true⟩)])
noncomputable def zvs : Code:=sub (z8 Tryz.f121) [1,1,0,1,2,2]
def z7e (m:Nat) : S Un→Option (EX Un):=zt (zaf 3) (fun s Q=>awf (zae m) zaf zvs s Q)
def zk7 (m:Nat) : Exit→S Un→Option (RF Un):=ctxF (zae m) zaf (z8 Tryz.f121) [1,1,0,1,2] (retF (zae m) Tryz.f121.results.toList [.d])
def zvt (m:Nat) (w:Wld) (l:List Term) : Option (RF Un):=awf (zae m) zaf (z8 Tryz.f121) (zg Tryz.f121.ntmps 1 [.d (.agg (enc Ty.wld w)),.d (.v (.dat (U:=Un) Ty.term l))]) (retF (zae m) Tryz.f121.results.toList [.d])
theorem z1hu (m:Nat) (w:Wld) (l:List Term) : zvt m w l=obO ((0:Int)≤(↑l.length:Int)∧(↑l.length:Int)≤(↑l.length:Int)∧(↑l.length:Int).toNat*(32:Nat)≤zw) ((z7e m (z4i w l (0:Int) (List.replicate (↑l.length:Int).toNat z7))).bind (zx (zk7 m))):=by kernel_rfl
theorem zvu (m:Nat) (w:Wld) (l:List Term) (v0:Int) (v1:List Val) : z7e m (z4i w l v0 v1)=cndO (decide (v0<(↑l.length:Int))) (obO (0≤v0∧v0<(↑l.length:Int)) (obO ((8:Nat)*(Term.ids (l.getD v0.toNat z1h)).ht+(7:Nat)<m) (obO (okT w (Term.ids (l.getD v0.toNat z1h))) (obO (0≤v0∧v0<(↑v1.length:Int)) (obO ((0:Nat)≤v0.toNat) (z7e m (z4i w l (IntKind.i64.wrap (v0+1)) (v1.set v0.toNat (z62 w (Term.ids (l.getD v0.toNat z1h))))))))))) (some (.exit 0,(z4i w l v0 v1))):=(z11 (zaf 3) zvs _).trans (by kernel_rfl)
theorem z14z (m:Nat) (w:Wld) (l:List Term) (v0:Int) (v1:List Val) : zk7 m (.exit 0) (z4i w l v0 v1)=some (zmx (v1)):=by kernel_rfl
theorem z1lb {α β:Type} {f:α→Option β} : ∀ {l:List α} {s:List β} (i:Nat),mapQ f l=some s→mapQ f (l.drop i)=some (s.drop i)
 | _,_,0,h=>h
 | [],s,i+1,h=>by simp only[mapQ,Option.some.injEq] at h;subst h;simp [mapQ]
 | x::l,s,i+1,h=>by
  obtain⟨y,r,h1,h2,rfl⟩:=zm7 h
  exact z1lb i h2
theorem z1a8 (m:Nat) (w:Wld) (l:List Term) (_hw:WS .wld w) (hl:WL .term l) (hm:8*htTs l+8<m+1) (h:okTs w l) : zvt m w l=some (zmx (z55 w l)):=by
 obtain⟨hlen,s,hs⟩:=h
 rw[zf7 hs]
 rw[z1qt] at hs
 have hsl:=zk6 hs
 have key:∀ (r:List Term) (i:Nat) (q:List Val),l.drop i=r→i≤l.length→q.length=l.length→q.take i=s.take i→(z7e m (z4i w l (i:Int) q)).bind (zx (zk7 m))=some (zmx s):=by
  intro r
  induction r with
  | nil =>
   intro i q hr hi hq ht
   have hil:l.length≤i:=by rw[← List.drop_eq_nil_iff];exact hr
   have e:z7e m (z4i w l (i:Int) q)=some (.exit 0,z4i w l (i:Int) q):=by rw[zvu,za,if_neg (by simp;omega)]
   rw[zn e,z14z]
   rw[List.take_of_length_le (by omega),List.take_of_length_le (by omega)] at ht
   rw[ht]
  | cons x r ih =>
   intro i q hr hi hq ht
   obtain⟨a1,a2,a3,hmem⟩:=z31 hr
   have hx:l.getD i z1h=x:=a2 z1h
   have hd:=z1lb i hs
   rw[hr] at hd
   obtain⟨y,s',h1,h2,h3⟩:=zm7 hd
   have hht:=zk2 hmem
   have e:z7e m (z4i w l (i:Int) q)=z7e m (z4i w l ((i+1:Nat):Int) (q.set i y)):=by
    rw[zvu]
    simp only[za,Term.ids_eq,Int.toNat_natCast,hx]
    rw[if_pos (by simp;omega),z6 (by omega),z6 (by omega),z6 ⟨y,h1⟩,z6 (by omega),z6 (by omega),z4v a1 hl.len,zad h1]
   rw[e]
   refine ih (i+1) (q.set i y) a3 (by omega) (by rw[List.length_set];exact hq) ?_
   have hsi:s[i]? = some y:=by
    have:=congrArg (fun z=>z[0]?) h3
    simpa using this
   rw[List.take_add_one,List.take_add_one,List.take_set_of_le (Nat.le_refl _),ht,hsi,List.getElem?_set_self (by omega)]
 rw[z1hu,z6 (by rw[Int.toNat_natCast];refine⟨by omega,by omega,?_⟩;unfold zw;omega)]
 have:=key l 0 (List.replicate (l.length:Int).toNat z7) rfl (Nat.zero_le _) (by simp) rfl
 exact this
theorem z1eh (m:Nat) (haq:FnOK 118 (z2c m)) (hao:FnOK 67 (z1b m)) (hah:FnOK 121 (z1e m)) (haz:FnOK 136 (z2k m)) (hay:FnOK 91 (z17 m)) (hau:FnOK 45 (z1s m)) (hae:FnOK 86 (z1q m)) (hac:FnOK 87 (z1l m)) (har:FnOK 88 (z2d m)) (haa:FnOK 139 (z1m m)) (haf:FnOK 89 (z1w m)) (haw:FnOK 92 (z2m m)) : FnOK 121 (z1e (m+1)):=by
 intro args ob rs os h hob
 unfold z1e at h
 split at h
 ·simp only[Option.bind_eq_some_iff,Option.some.injEq,Prod.mk.injEq] at h
  obtain⟨w,e0,l,e1,rfl,rfl,rfl⟩:=h
  obtain rfl:=z18 e0
  obtain rfl:=z1i e1
  exact⟨zd (M:=(zae m)) rfl (zf (l1:=[(67,z1b m)]) (l2:=[]) (l3:=[]) (l4:=[]) (l5:=[]) ⟨hao,trivial⟩ trivial trivial trivial trivial) Tryz.func121 (by kernel_rfl) zaf 1 [.d] (fun hwf=>(z1a8 m w l (ze hwf (a:=.d (.agg (enc Ty.wld w))) (List.mem_of_getElem? (i:=0) rfl)) (ze hwf (a:=.d (.v (.dat (U:=Un) Ty.term l))) (List.mem_of_getElem? (i:=1) rfl)) (hob _ (List.mem_of_getElem? (i:=0) rfl)) (hob _ (List.mem_of_getElem? (i:=1) rfl)))),zb Tryz.func121 (by kernel_rfl) (by kernel_rfl)⟩
 ·simp at h
def zf8 (m:Nat) : Mc Un:=mach (tbl [(137,z7n),(67,z1b m),(161,z60)]) (tbl []) (tbl []) (tbl []) (tbl [])
def znq (r:Bool) : RF Un:=(z1eb r,z1ec r)
def zf9 : Nat→NS:=fun l=>(look l [(3,{ ts:=bl 25 57536,bs:=bl 25 128,nm:=[],cs:=true })]).getD ⟨[],[],[],[],[],true⟩
def z40 (w:Wld) (l:List Term) (x:List Val) (v0:Int) : S Un:=(st 25 25 100 0 [(6,ab false),(7,ax 7),(13,al .term l),(14,ai (↑l.length:Int)),(15,ai v0)] [(7,some (false,encC Ty.wld (zp w x)))] [])
noncomputable def z16v : Code:=sub (z8 Tryz.f136) [1,1,0,1,2,2]
def z8x (m:Nat) : S Un→Option (EX Un):=zt (zf9 3) (fun s Q=>awf (zf8 m) zf9 z16v s Q)
def zl4 (m:Nat) : Exit→S Un→Option (RF Un):=ctxF (zf8 m) zf9 (z8 Tryz.f136) [1,1,0,1,2] (retF (zf8 m) Tryz.f136.results.toList [.d])
def z16w (m:Nat) (w:Wld) (l:List Term) (x:List Val) : Option (RF Un):=awf (zf8 m) zf9 (z8 Tryz.f136) (zg Tryz.f136.ntmps 0 [.d (.agg (enc Ty.wld w)),.d (.v (.dat (U:=Un) Ty.term l)),.d (.v (.dat (U:=Un) Ty.val x))]) (retF (zf8 m) Tryz.f136.results.toList [.d])
theorem z1td (m:Nat) (w:Wld) (l:List Term) (x:List Val) : z16w m w l x=obO (w.env.length≤(100000000:Nat)) ((z8x m (z40 w l x (0:Int))).bind (zx (zl4 m))):=by kernel_rfl
theorem zt7 (m:Nat) (w:Wld) (l:List Term) (x:List Val) (v0:Int) : z8x m (z40 w l x v0)=cndO (decide (v0<(↑l.length:Int))) (obO (0≤v0∧v0<(↑l.length:Int)) (obO ((8:Nat)*(Term.ids (l.getD v0.toNat z1h)).ht+(7:Nat)<m) (obO (okT (zp w x) (Term.ids (l.getD v0.toNat z1h))) (cndO (z3e (z62 (zp w x) (Term.ids (l.getD v0.toNat z1h))) != 2) (some (.ret,(z40 w l x v0))) (z8x m (z40 w l x (IntKind.i64.wrap (v0+1)))))))) (some (.exit 0,(z40 w l x v0))):=(z11 (zf9 3) z16v _).trans (by kernel_rfl)
theorem z1ei (m:Nat) (w:Wld) (l:List Term) (x:List Val) (v0:Int) : zl4 m .ret (z40 w l x v0)=some (znq (false)):=by kernel_rfl
theorem z1hv (m:Nat) (w:Wld) (l:List Term) (x:List Val) (v0:Int) : zl4 m (.exit 0) (z40 w l x v0)=some (znq (true)):=by kernel_rfl
theorem z1ms (m:Nat) (w:Wld) (l:List Term) (x:List Val) (_hw:WS .wld w) (hl:WL .term l) (_hx:WL .val x) (hm:8*htTs l+8<m+1) (h:okSo w l x) : z16w m w l x=some (znq (zb4 w l x)):=by
 obtain⟨hE,b,hb⟩:=h
 rw[zt6 hb]
 have key:∀ (r:List Term) (i:Nat) (b:Bool),l.drop i=r→i≤l.length→nSo r (zp w x)=some b→(z8x m (z40 w l x (i:Int))).bind (zx (zl4 m))=some (znq b):=by
  intro r
  induction r with
  | nil =>
   intro i b hr hi hs
   have hil:l.length≤i:=by rw[← List.drop_eq_nil_iff];exact hr
   have e:z8x m (z40 w l x (i:Int))=some (.exit 0,z40 w l x (i:Int)):=by rw[zt7,za,if_neg (by simp;omega)]
   rw[zn e,z1hv]
   simp only[nSo,Option.some.injEq] at hs
   rw[hs]
  | cons t r ih =>
   intro i b hr hi hs
   obtain⟨a1,a2,a3,hmem⟩:=z31 hr
   have ht:l.getD i z1h=t:=a2 z1h
   have hht:=zk2 hmem
   simp only[nSo,Option.bind_eq_some_iff] at hs
   obtain⟨v,hv,hs⟩:=hs
   by_cases c : z3e v=2
   ·rw[if_pos c] at hs
    have e:z8x m (z40 w l x (i:Int))=z8x m (z40 w l x ((i+1:Nat):Int)):=by
     rw[zt7]
     simp only[za,Term.ids_eq,Int.toNat_natCast,ht]
     rw[if_pos (by simp;omega),z6 (by omega),z6 (by omega),z6 ⟨v,hv⟩,zad hv,if_neg (by rw[c];decide),z4v a1 hl.len]
    rw[e]
    exact ih (i+1) b a3 (by omega) hs
   ·rw[if_neg c] at hs
    obtain rfl:=Option.some.inj hs
    have e:z8x m (z40 w l x (i:Int))=some (.ret,z40 w l x (i:Int)):=by
     rw[zt7]
     simp only[za,Term.ids_eq,Int.toNat_natCast,ht]
     rw[if_pos (by simp;omega),z6 (by omega),z6 (by omega),z6 ⟨v,hv⟩,zad hv,if_pos (by simpa using c)]
    rw[zn e,z1ei]
 rw[z1td,z6 hE]
 exact key l 0 b rfl (Nat.zero_le _) hb
theorem z1r3 (m:Nat) (haq:FnOK 118 (z2c m)) (hao:FnOK 67 (z1b m)) (hah:FnOK 121 (z1e m)) (haz:FnOK 136 (z2k m)) (hay:FnOK 91 (z17 m)) (hau:FnOK 45 (z1s m)) (hae:FnOK 86 (z1q m)) (hac:FnOK 87 (z1l m)) (har:FnOK 88 (z2d m)) (haa:FnOK 139 (z1m m)) (haf:FnOK 89 (z1w m)) (haw:FnOK 92 (z2m m)) : FnOK 136 (z2k (m+1)):=by
 intro args ob rs os h hob
 unfold z2k at h
 split at h
 ·simp only[Option.bind_eq_some_iff,Option.some.injEq,Prod.mk.injEq] at h
  obtain⟨w,e0,l,e1,x,e2,rfl,rfl,rfl⟩:=h
  obtain rfl:=z18 e0
  obtain rfl:=z1i e1
  obtain rfl:=z1i e2
  exact⟨zd (M:=(zf8 m)) rfl (zf (l1:=[(137,z7n),(67,z1b m),(161,z60)]) (l2:=[]) (l3:=[]) (l4:=[]) (l5:=[]) ⟨zl1,hao,zfz,trivial⟩ trivial trivial trivial trivial) Tryz.func136 (by kernel_rfl) zf9 0 [.d] (fun hwf=>(z1ms m w l x (ze hwf (a:=.d (.agg (enc Ty.wld w))) (List.mem_of_getElem? (i:=0) rfl)) (ze hwf (a:=.d (.v (.dat (U:=Un) Ty.term l))) (List.mem_of_getElem? (i:=1) rfl)) (ze hwf (a:=.d (.v (.dat (U:=Un) Ty.val x))) (List.mem_of_getElem? (i:=2) rfl)) (hob _ (List.mem_of_getElem? (i:=0) rfl)) (hob _ (List.mem_of_getElem? (i:=1) rfl)))),zb Tryz.func136 (by kernel_rfl) (by kernel_rfl)⟩
 ·simp at h
def zt8 (m:Nat) : Mc Un:=mach (tbl [(45,z1s m)]) (tbl []) (tbl []) (tbl []) (tbl [])
def zt9 (r:List (List Val)) : RF Un:=(z16r r,z16s r)
def z16x : Nat→NS:=fun l=>(look l []).getD ⟨[],[],[],[],[],true⟩
def z138 (m:Nat) (w:Wld) (r:Rel) (n:Int) : Option (RF Un):=awf (zt8 m) z16x (z8 Tryz.f91) (zg Tryz.f91.ntmps 0 [.d (.agg (enc Ty.wld w)),.d (.agg (enc Ty.rel r)),.d (.v (.s (.int .i64 n)))]) (retF (zt8 m) Tryz.f91.results.toList [.m])
theorem z1r4 (m:Nat) (w:Wld) (r:Rel) (n:Int) : z138 m w r n=cndO (decide (n≥(↑r.kids.length:Int))) (some (zt9 ([]))) (obO (0≤n∧n<(↑r.kids.length:Int)) (obO ((8:Nat)*(Rel.ids (r.kids.getD n.toNat zi)).ht+(7:Nat)<m) (obO (okRl w (Rel.ids (r.kids.getD n.toNat zi))) (some (zt9 (z75 w (Rel.ids (r.kids.getD n.toNat zi)))))))):=by kernel_rfl
theorem z1hw (m:Nat) (w:Wld) (r:Rel) (n:Int) (_hw:WS .wld w) (_hr:WS .rel r) (_hn:WI n) (hm:8*r.ht+4<m+1) (h:zdr w r n) : z138 m w r n=some (zt9 (zm w r n)):=by
 obtain⟨h0,l,hl⟩:=h
 obtain⟨k,rfl⟩ : ∃ k : Nat,n=k:=⟨n.toNat,(Int.toNat_of_nonneg h0).symm⟩
 rw[Int.toNat_natCast] at hl
 rw[zpq hl]
 rw[zoc] at hl
 rw[z1r4]
 simp only[za,Rel.ids_eq,decide_eq_true_eq,Int.toNat_natCast]
 by_cases c : k<r.kids.length
 ·rw[if_pos c] at hl
  have hk:(r.kids.getD k zi).ht<r.ht:=Rel.ht_kid (z9f c)
  rw[if_neg (by omega),z6 (by omega),z6 (by omega),z6 ⟨l,hl⟩,z9h hl]
 ·rw[if_neg c] at hl
  obtain rfl:=Option.some.inj hl
  rw[if_pos (by omega)]
theorem z1mt (m:Nat) (haq:FnOK 118 (z2c m)) (hao:FnOK 67 (z1b m)) (hah:FnOK 121 (z1e m)) (haz:FnOK 136 (z2k m)) (hay:FnOK 91 (z17 m)) (hau:FnOK 45 (z1s m)) (hae:FnOK 86 (z1q m)) (hac:FnOK 87 (z1l m)) (har:FnOK 88 (z2d m)) (haa:FnOK 139 (z1m m)) (haf:FnOK 89 (z1w m)) (haw:FnOK 92 (z2m m)) : FnOK 91 (z17 (m+1)):=by
 intro args ob rs os h hob
 unfold z17 at h
 split at h
 ·simp only[Option.bind_eq_some_iff,Option.some.injEq,Prod.mk.injEq] at h
  obtain⟨w,e0,r,e1,n,e2,rfl,rfl,rfl⟩:=h
  obtain rfl:=z18 e0
  obtain rfl:=z18 e1
  obtain rfl:=z1t e2
  exact⟨zd (M:=(zt8 m)) rfl (zf (l1:=[(45,z1s m)]) (l2:=[]) (l3:=[]) (l4:=[]) (l5:=[]) ⟨hau,trivial⟩ trivial trivial trivial trivial) Tryz.func91 (by kernel_rfl) z16x 0 [.m] (fun hwf=>(z1hw m w r n (ze hwf (a:=.d (.agg (enc Ty.wld w))) (List.mem_of_getElem? (i:=0) rfl)) (ze hwf (a:=.d (.agg (enc Ty.rel r))) (List.mem_of_getElem? (i:=1) rfl)) (ze hwf (a:=.d (.v (.s (.int .i64 n)))) (List.mem_of_getElem? (i:=2) rfl)) (hob _ (List.mem_of_getElem? (i:=0) rfl)) (hob _ (List.mem_of_getElem? (i:=1) rfl)))),zb Tryz.func91 (by kernel_rfl) (by kernel_rfl)⟩
 ·simp at h
def zta (m:Nat) : Mc Un:=mach (tbl [(84,zgu),(85,z9g),(86,z1q m),(87,z1l m),(88,z2d m),(89,z1w m),(91,z17 m),(90,zbs),(92,z2m m)]) (tbl []) (tbl []) (tbl [(93,zdq),(94,zds)]) (tbl [])
def z3o (r:List (List Val)) : RF Un:=(zt4 r,zt5 r)
def z16y : Nat→NS:=fun l=>(look l []).getD ⟨[],[],[],[],[],true⟩
def z139 (m:Nat) (w:Wld) (r:Rel) : Option (RF Un):=awf (zta m) z16y (z8 Tryz.f45) (zg Tryz.f45.ntmps 0 [.d (.agg (enc Ty.wld w)),.d (.agg (enc Ty.rel r))]) (retF (zta m) Tryz.f45.results.toList [.m])
theorem z1r5 (m:Nat) (w:Wld) (r:Rel) : z139 m w r=cndO (r.op == 1) (obO (dbOK w.db) (some (z3o (z8s w r.table)))) (cndO (r.op == 2) (obO (r.rows.length≤(1000000000:Nat)) (some (z3o (r.rows)))) (cndO (r.op == 3) (obO ((8:Nat)*(Rel.ids r).ht+(6:Nat)<m) (obO (z1a2 w (Rel.ids r)) (some (z3o (z80 w (Rel.ids r)))))) (cndO (r.op == 4) (obO ((8:Nat)*(Rel.ids r).ht+(6:Nat)<m) (obO (z12q w (Rel.ids r)) (some (z3o (z76 w (Rel.ids r)))))) (cndO (r.op == 5) (obO ((8:Nat)*(Rel.ids r).ht+(6:Nat)<m) (obO (z1dz w (Rel.ids r)) (some (z3o (z8m w (Rel.ids r)))))) (cndO (r.op == 6) (obO ((8:Nat)*(Rel.ids r).ht+(6:Nat)<m) (obO (z1dz w (Rel.ids r)) (some (z3o (z8m w (Rel.ids r)))))) (cndO (r.op == 7) (obO ((8:Nat)*(Rel.ids r).ht+(6:Nat)<m) (obO (z1hq w (Rel.ids r)) (some (z3o (z8u w (Rel.ids r)))))) (cndO (r.op == 8) (obO ((8:Nat)*(Rel.ids r).ht+(4:Nat)<m) (obO (zdr w (Rel.ids r) (0:Int)) (obO ((zm w (Rel.ids r) (0:Int)).length≤(100000000:Nat)) (some (z3o (z30 (zm w (Rel.ids r) (0:Int)))))))) (cndO (r.op == 9) (obO ((8:Nat)*(Rel.ids r).ht+(6:Nat)<m) (obO (z1e0 w (Rel.ids r)) (some (z3o (z8v w (Rel.ids r)))))) (cndO (r.op == 10) (obO ((8:Nat)*(Rel.ids r).ht+(6:Nat)<m) (obO (z1e0 w (Rel.ids r)) (some (z3o (z8v w (Rel.ids r)))))) (cndO (r.op == 11) (obO ((8:Nat)*(Rel.ids r).ht+(6:Nat)<m) (obO (z1e0 w (Rel.ids r)) (some (z3o (z8v w (Rel.ids r)))))) (cndO (r.op == 12) (obO ((8:Nat)*(Rel.ids r).ht+(4:Nat)<m) (obO (zdr w (Rel.ids r) (0:Int)) (obO ((zm w (Rel.ids r) (0:Int)).length≤(100000000:Nat)) (some (z3o (z2b (zm w (Rel.ids r) (0:Int)) r.keys)))))) (cndO (r.op == 13) (obO ((8:Nat)*(Rel.ids r).ht+(4:Nat)<m) (obO (zdr w (Rel.ids r) (0:Int)) (obO ((zm w (Rel.ids r) (0:Int)).length≤(100000000:Nat)) (some (z3o (z2v (zm w (Rel.ids r) (0:Int)) r.limit r.skip)))))) (some (z3o ([]))))))))))))))):=by kernel_rfl
theorem z1hx (m:Nat) (w:Wld) (r:Rel) (_hw:WS .wld w) (_hr:WS .rel r) (hm:8*r.ht+7<m+1) (h:okRl w r) : z139 m w r=some (z3o (z75 w r)):=by
 obtain⟨v,hv⟩:=h
 rw[z9h hv]
 rw[zxp,Option.bind_eq_some_iff] at hv
 obtain⟨s,hs,hc⟩:=hv
 obtain⟨rfl,hlen⟩:=zrs hc
 clear hc
 rw[z1r5]
 simp only[za,Rel.ids_eq,beq_iff_eq]
 by_cases c1 : r.op=1
 ·rw[if_pos c1] at hs ⊢
  obtain⟨h1,h2⟩:=chkQ_some.1 hs
  rw[z6 h1,Option.some.inj h2]
 rw[if_neg c1] at hs ⊢
 by_cases c2 : r.op=2
 ·rw[if_pos c2] at hs ⊢
  obtain rfl:=Option.some.inj hs
  rw[z6 (by omega)]
 rw[if_neg c2] at hs ⊢
 by_cases c3 : r.op=3
 ·rw[if_pos c3] at hs ⊢
  have e:z80 w r=s:=by unfold z80 z14d;rw[hs];rfl
  rw[z6 (by omega),z6 ⟨s,hs⟩,e]
 rw[if_neg c3] at hs ⊢
 by_cases c4 : r.op=4
 ·rw[if_pos c4] at hs ⊢
  have e:z76 w r=s:=by unfold z76 zxq;rw[hs];rfl
  rw[z6 (by omega),z6 ⟨s,hs⟩,e]
 rw[if_neg c4] at hs ⊢
 by_cases c5 : r.op=5∨r.op=6
 ·rw[if_pos c5] at hs
  have e:z8m w r=s:=by unfold z8m z1nm;rw[hs];rfl
  rcases c5 with c | c
  ·rw[if_pos c,z6 (by omega),z6 ⟨s,hs⟩,e]
  ·rw[if_neg (by omega),if_pos c,z6 (by omega),z6 ⟨s,hs⟩,e]
 rw[if_neg c5] at hs
 rw[if_neg (fun e=>c5 (.inl e)),if_neg (fun e=>c5 (.inr e))]
 by_cases c7 : r.op=7
 ·rw[if_pos c7] at hs ⊢
  have e:z8u w r=s:=by unfold z8u z1dy;rw[hs];rfl
  rw[z6 (by omega),z6 ⟨s,hs⟩,e]
 rw[if_neg c7] at hs ⊢
 by_cases c8 : r.op=8
 ·rw[if_pos c8] at hs ⊢
  obtain⟨l,hl,h4⟩:=Option.bind_eq_some_iff.1 hs
  have hk:=zb5 hl
  rw[z6 (by omega),z6 (zm9 hl),z63 hl,z6 hk,Option.some.inj h4]
 rw[if_neg c8] at hs ⊢
 by_cases c9 : r.op=9∨r.op=10∨r.op=11
 ·rw[if_pos c9] at hs
  have e:z8v w r=s:=by unfold z8v nSet;rw[hs];rfl
  rcases c9 with c | c | c
  ·rw[if_pos c,z6 (by omega),z6 ⟨s,hs⟩,e]
  ·rw[if_neg (by omega),if_pos c,z6 (by omega),z6 ⟨s,hs⟩,e]
  ·rw[if_neg (by omega),if_neg (by omega),if_pos c,z6 (by omega),z6 ⟨s,hs⟩,e]
 rw[if_neg c9] at hs
 rw[if_neg (fun e=>c9 (.inl e)),if_neg (fun e=>c9 (.inr (.inl e))),if_neg (fun e=>c9 (.inr (.inr e)))]
 by_cases c12 : r.op=12
 ·rw[if_pos c12] at hs ⊢
  obtain⟨l,hl,h4⟩:=Option.bind_eq_some_iff.1 hs
  have hk:=zb5 hl
  rw[z6 (by omega),z6 (zm9 hl),z63 hl,z6 hk,Option.some.inj h4]
 rw[if_neg c12] at hs ⊢
 by_cases c13 : r.op=13
 ·rw[if_pos c13] at hs ⊢
  obtain⟨l,hl,h4⟩:=Option.bind_eq_some_iff.1 hs
  have hk:=zb5 hl
  rw[z6 (by omega),z6 (zm9 hl),z63 hl,z6 hk,Option.some.inj h4]
 rw[if_neg c13] at hs ⊢
 rw[Option.some.inj hs]
theorem z1mu (m:Nat) (haq:FnOK 118 (z2c m)) (hao:FnOK 67 (z1b m)) (hah:FnOK 121 (z1e m)) (haz:FnOK 136 (z2k m)) (hay:FnOK 91 (z17 m)) (hau:FnOK 45 (z1s m)) (hae:FnOK 86 (z1q m)) (hac:FnOK 87 (z1l m)) (har:FnOK 88 (z2d m)) (haa:FnOK 139 (z1m m)) (haf:FnOK 89 (z1w m)) (haw:FnOK 92 (z2m m)) : FnOK 45 (z1s (m+1)):=by
 intro args ob rs os h hob
 unfold z1s at h
 split at h
 ·simp only[Option.bind_eq_some_iff,Option.some.injEq,Prod.mk.injEq] at h
  obtain⟨w,e0,r,e1,rfl,rfl,rfl⟩:=h
  obtain rfl:=z18 e0
  obtain rfl:=z18 e1
  exact⟨zd (M:=(zta m)) rfl (zf (l1:=[(84,zgu),(85,z9g),(86,z1q m),(87,z1l m),(88,z2d m),(89,z1w m),(91,z17 m),(90,zbs),(92,z2m m)]) (l2:=[]) (l3:=[]) (l4:=[(93,zdq),(94,zds)]) (l5:=[]) ⟨z1hj,zmt,hae,hac,har,haf,hay,zz5,haw,trivial⟩ trivial trivial ⟨z14v,z14y,trivial⟩ trivial) Tryz.func45 (by kernel_rfl) z16y 0 [.m] (fun hwf=>(z1hx m w r (ze hwf (a:=.d (.agg (enc Ty.wld w))) (List.mem_of_getElem? (i:=0) rfl)) (ze hwf (a:=.d (.agg (enc Ty.rel r))) (List.mem_of_getElem? (i:=1) rfl)) (hob _ (List.mem_of_getElem? (i:=0) rfl)) (hob _ (List.mem_of_getElem? (i:=1) rfl)))),zb Tryz.func45 (by kernel_rfl) (by kernel_rfl)⟩
 ·simp at h
def z98 (m:Nat) : Mc Un:=mach (tbl [(91,z17 m),(136,z2k m)]) (tbl []) (tbl []) (tbl []) (tbl [])
def zvv (r:List (List Val)) : RF Un:=(zvq r,zvr r)
def z99 : Nat→NS:=fun l=>(look l [(3,{ ts:=bl 27 7212,bs:=bl 27 12,nm:=[(.sl 10,108),(.sl 5,109)],cs:=true })]).getD ⟨[],[],[],[],[],true⟩
def z6v (w:Wld) (r:Rel) (v0:Int) (v1:List (List Val)) : S Un:=(st 27 27 110 0 [(2,ax 2),(3,ax 3),(5,ao 109),(10,ao 108),(11,ai (↑(zm w (Rel.ids r) (0:Int)).length:Int)),(12,ai v0)] [(2,bg .wld w),(3,bg .rel r)] [(108,some ⟨(0:Nat),Ty.row,zm w (Rel.ids r) (0:Int),some (0:Nat),true⟩),(109,some ⟨(0:Nat),Ty.row,v1,some (0:Nat),true⟩)])
noncomputable def zrw : Code:=sub (z8 Tryz.f86) [1,1,0,1,2,2]
def zav (m:Nat) : S Un→Option (EX Un):=zt (z99 3) (fun s Q=>awf (z98 m) z99 zrw s Q)
def zrx (m:Nat) : Exit→S Un→Option (RF Un):=ctxF (z98 m) z99 (z8 Tryz.f86) [1,1,0,1,2] (retF (z98 m) Tryz.f86.results.toList [.m])
def zry (m:Nat) (w:Wld) (r:Rel) : Option (RF Un):=awf (z98 m) z99 (z8 Tryz.f86) (zg Tryz.f86.ntmps 2 [.d (.agg (enc Ty.wld w)),.d (.agg (enc Ty.rel r))]) (retF (z98 m) Tryz.f86.results.toList [.m])
theorem z1ej (m:Nat) (w:Wld) (r:Rel) : zry m w r=obO ((8:Nat)*(Rel.ids r).ht+(4:Nat)<m) (obO (zdr w (Rel.ids r) (0:Int)) ((zav m (z6v w r (0:Int) ([]))).bind (zx (zrx m)))):=by kernel_rfl
theorem zrz (m:Nat) (w:Wld) (r:Rel) (v0:Int) (v1:List (List Val)) : zav m (z6v w r v0 v1)=cndO (decide (v0<(↑(zm w (Rel.ids r) (0:Int)).length:Int))) (obO (0≤v0∧v0<(↑(zm w (Rel.ids r) (0:Int)).length:Int)) (obO ((8:Nat)*htTs r.terms+(8:Nat)<m) (obO (okSo w r.terms ((zm w (Rel.ids r) (0:Int)).getD v0.toNat [])) (cndO (zb4 w r.terms ((zm w (Rel.ids r) (0:Int)).getD v0.toNat [])) (obO ((v1.length+[(zm w (Rel.ids r) (0:Int)).getD v0.toNat []].length)*(24:Nat)≤zw) (zav m (z6v w r (IntKind.i64.wrap (v0+1)) (v1++[(zm w (Rel.ids r) (0:Int)).getD v0.toNat []])))) (zav m (z6v w r (IntKind.i64.wrap (v0+1)) v1)))))) (some (.exit 0,(z6v w r v0 v1))):=(z11 (z99 3) zrw _).trans (by kernel_rfl)
theorem z13a (m:Nat) (w:Wld) (r:Rel) (v0:Int) (v1:List (List Val)) : zrx m (.exit 0) (z6v w r v0 v1)=some (zvv (v1)):=by kernel_rfl
theorem z150 (m:Nat) (w:Wld) (r:Rel) (_hw:WS .wld w) (_hr:WS .rel r) (hm:8*r.ht+6<m+1) (h:z1a2 w r) : zry m w r=some (zvv (z80 w r)):=by
 obtain⟨v,hv⟩:=h
 have e:z80 w r=v:=by unfold z80;rw[hv];rfl
 rw[e]
 unfold z14d filO at hv
 split at hv
 ·rename_i hE
  obtain⟨l,hl,hf⟩:=Option.bind_eq_some_iff.1 hv
  have hll:=zb5 hl
  have ht:=Rel.ht_terms r
  have hmem:=z1l8 hf
  obtain⟨lp,_⟩:=z42 (e:=.exit 0) (L:=zav m) (st:=fun (o:Rows) i=>z6v w r i o) (l:=l) (d:=[]) (g:=fun o x=>if zb4 w r.terms x=true then o++[x] else o) (fun i o=>o.length≤i) (by omega)
   (fun o i x hi hx hI=>by
    have hI':o.length≤i:=hI
    have hxm:x∈l:=by rw[← hx];exact z9f (by omega)
    obtain⟨b,hb⟩:=hmem x hxm
    rw[zrz]
    simp only[za,Rel.ids_eq,z63 hl,hi,decide_true,if_true,and_true,Int.toNat_natCast,hx]
    rw[z6 (by omega),z6 (by omega),z6 ⟨hE,b,hb⟩]
    by_cases hp : zb4 w r.terms x=true
    ·rw[if_pos hp,if_pos hp,z6 (by unfold zw;rw[List.length_singleton];omega)]
     exact⟨by show (o++[x]).length≤i+1;rw[List.length_append,List.length_singleton];omega,rfl⟩
    ·rw[if_neg hp,if_neg hp]
     exact⟨by show o.length≤i+1;omega,rfl⟩)
   (fun o _=>by rw[zrz];simp only[za,Rel.ids_eq,z63 hl];rw[if_neg (by simp)]) [] (Nat.le_refl _)
  have hfo:=z1e1 (zb4 w r.terms) [] hf (fun x hx b hb=>zt6 hb)
  rw[List.nil_append] at hfo
  rw[z1ej,Rel.ids_eq,z6 (by omega),z6 (zm9 hl)]
  refine (zn lp).trans ?_
  rw[z13a,hfo]
 ·simp at hv
theorem z1a9 (m:Nat) (haq:FnOK 118 (z2c m)) (hao:FnOK 67 (z1b m)) (hah:FnOK 121 (z1e m)) (haz:FnOK 136 (z2k m)) (hay:FnOK 91 (z17 m)) (hau:FnOK 45 (z1s m)) (hae:FnOK 86 (z1q m)) (hac:FnOK 87 (z1l m)) (har:FnOK 88 (z2d m)) (haa:FnOK 139 (z1m m)) (haf:FnOK 89 (z1w m)) (haw:FnOK 92 (z2m m)) : FnOK 86 (z1q (m+1)):=by
 intro args ob rs os h hob
 unfold z1q at h
 split at h
 ·simp only[Option.bind_eq_some_iff,Option.some.injEq,Prod.mk.injEq] at h
  obtain⟨w,e0,r,e1,rfl,rfl,rfl⟩:=h
  obtain rfl:=z18 e0
  obtain rfl:=z18 e1
  exact⟨zd (M:=(z98 m)) rfl (zf (l1:=[(91,z17 m),(136,z2k m)]) (l2:=[]) (l3:=[]) (l4:=[]) (l5:=[]) ⟨hay,haz,trivial⟩ trivial trivial trivial trivial) Tryz.func86 (by kernel_rfl) z99 2 [.m] (fun hwf=>(z150 m w r (ze hwf (a:=.d (.agg (enc Ty.wld w))) (List.mem_of_getElem? (i:=0) rfl)) (ze hwf (a:=.d (.agg (enc Ty.rel r))) (List.mem_of_getElem? (i:=1) rfl)) (hob _ (List.mem_of_getElem? (i:=0) rfl)) (hob _ (List.mem_of_getElem? (i:=1) rfl)))),zb Tryz.func86 (by kernel_rfl) (by kernel_rfl)⟩
 ·simp at h
def z87 (m:Nat) : Mc Un:=mach (tbl [(91,z17 m),(137,z7n),(121,z1e m)]) (tbl []) (tbl []) (tbl []) (tbl [])
def zs0 (r:List (List Val)) : RF Un:=(zru r,zrv r)
def z88 : Nat→NS:=fun l=>(look l [(3,{ ts:=bl 27 7212,bs:=bl 27 12,nm:=[(.sl 10,108),(.sl 5,109)],cs:=true })]).getD ⟨[],[],[],[],[],true⟩
def z7f (w:Wld) (r:Rel) (v0:Int) (v1:List (List Val)) : S Un:=(st 27 27 110 0 [(2,ax 2),(3,ax 3),(5,ao 109),(10,ao 108),(11,ai (↑(zm w (Rel.ids r) (0:Int)).length:Int)),(12,ai v0)] [(2,bg .wld w),(3,bg .rel r)] [(108,some ⟨(0:Nat),Ty.row,zm w (Rel.ids r) (0:Int),some (0:Nat),true⟩),(109,some ⟨(0:Nat),Ty.row,v1,some (0:Nat),true⟩)])
noncomputable def zps : Code:=sub (z8 Tryz.f87) [1,1,0,1,2,2]
def zch (m:Nat) : S Un→Option (EX Un):=zt (z88 3) (fun s Q=>awf (z87 m) z88 zps s Q)
def zpt (m:Nat) : Exit→S Un→Option (RF Un):=ctxF (z87 m) z88 (z8 Tryz.f87) [1,1,0,1,2] (retF (z87 m) Tryz.f87.results.toList [.m])
def zpu (m:Nat) (w:Wld) (r:Rel) : Option (RF Un):=awf (z87 m) z88 (z8 Tryz.f87) (zg Tryz.f87.ntmps 2 [.d (.agg (enc Ty.wld w)),.d (.agg (enc Ty.rel r))]) (retF (z87 m) Tryz.f87.results.toList [.m])
theorem z1aa (m:Nat) (w:Wld) (r:Rel) : zpu m w r=obO ((8:Nat)*(Rel.ids r).ht+(4:Nat)<m) (obO (zdr w (Rel.ids r) (0:Int)) ((zch m (z7f w r (0:Int) ([]))).bind (zx (zpt m)))):=by kernel_rfl
theorem zpv (m:Nat) (w:Wld) (r:Rel) (v0:Int) (v1:List (List Val)) : zch m (z7f w r v0 v1)=cndO (decide (v0<(↑(zm w (Rel.ids r) (0:Int)).length:Int))) (obO (0≤v0∧v0<(↑(zm w (Rel.ids r) (0:Int)).length:Int)) (obO (w.env.length≤(100000000:Nat)) (obO ((8:Nat)*htTs r.terms+(8:Nat)<m) (obO (okTs (zp w ((zm w (Rel.ids r) (0:Int)).getD v0.toNat [])) r.terms) (obO ((v1.length+[z55 (zp w ((zm w (Rel.ids r) (0:Int)).getD v0.toNat [])) r.terms].length)*(24:Nat)≤zw) (zch m (z7f w r (IntKind.i64.wrap (v0+1)) (v1++[z55 (zp w ((zm w (Rel.ids r) (0:Int)).getD v0.toNat [])) r.terms])))))))) (some (.exit 0,(z7f w r v0 v1))):=(z11 (z88 3) zps _).trans (by kernel_rfl)
theorem z101 (m:Nat) (w:Wld) (r:Rel) (v0:Int) (v1:List (List Val)) : zpt m (.exit 0) (z7f w r v0 v1)=some (zs0 (v1)):=by kernel_rfl
theorem z13b (m:Nat) (w:Wld) (r:Rel) (_hw:WS .wld w) (_hr:WS .rel r) (hm:8*r.ht+6<m+1) (h:z12q w r) : zpu m w r=some (zs0 (z76 w r)):=by
 obtain⟨v,hv⟩:=h
 have e:z76 w r=v:=by unfold z76;rw[hv];rfl
 rw[e]
 unfold zxq z1nj at hv
 split at hv
 ·rename_i hE
  obtain⟨l,hl,hf⟩:=Option.bind_eq_some_iff.1 hv
  have hll:=zb5 hl
  have ht:=Rel.ht_terms r
  have hmem:=zpl hf
  obtain⟨lp,_⟩:=z42 (e:=.exit 0) (L:=zch m) (st:=fun (o:Rows) i=>z7f w r i o) (l:=l) (d:=[]) (g:=fun o x=>o++[z55 (zp w x) r.terms]) (fun i o=>o.length=i) (by omega)
   (fun o i x hi hx hI=>by
    have hI':o.length=i:=hI
    have hxm:x∈l:=by rw[← hx];exact z9f (by omega)
    obtain⟨b,hb⟩:=hmem x hxm
    refine⟨by show (o++[_]).length=i+1;rw[List.length_append,List.length_singleton];omega,?_⟩
    rw[zpv]
    simp only[za,Rel.ids_eq,z63 hl,hi,decide_true,if_true,and_true,Int.toNat_natCast,hx]
    rw[z6 (by omega),z6 hE.1,z6 (by omega),z6 ⟨hE.2,b,hb⟩,z6 (by unfold zw;rw[List.length_singleton];omega)])
   (fun o _=>by rw[zpv];simp only[za,Rel.ids_eq,z63 hl];rw[if_neg (by simp)]) [] rfl
  rw[ze5,List.nil_append,zpm (fun x=>z55 (zp w x) r.terms) hf (fun x hx y hy=>zf7 hy)] at lp
  rw[z1aa,Rel.ids_eq,z6 (by omega),z6 (zm9 hl)]
  refine (zn lp).trans ?_
  rw[z101]
 ·simp at hv
theorem z151 (m:Nat) (haq:FnOK 118 (z2c m)) (hao:FnOK 67 (z1b m)) (hah:FnOK 121 (z1e m)) (haz:FnOK 136 (z2k m)) (hay:FnOK 91 (z17 m)) (hau:FnOK 45 (z1s m)) (hae:FnOK 86 (z1q m)) (hac:FnOK 87 (z1l m)) (har:FnOK 88 (z2d m)) (haa:FnOK 139 (z1m m)) (haf:FnOK 89 (z1w m)) (haw:FnOK 92 (z2m m)) : FnOK 87 (z1l (m+1)):=by
 intro args ob rs os h hob
 unfold z1l at h
 split at h
 ·simp only[Option.bind_eq_some_iff,Option.some.injEq,Prod.mk.injEq] at h
  obtain⟨w,e0,r,e1,rfl,rfl,rfl⟩:=h
  obtain rfl:=z18 e0
  obtain rfl:=z18 e1
  exact⟨zd (M:=(z87 m)) rfl (zf (l1:=[(91,z17 m),(137,z7n),(121,z1e m)]) (l2:=[]) (l3:=[]) (l4:=[]) (l5:=[]) ⟨hay,zl1,hah,trivial⟩ trivial trivial trivial trivial) Tryz.func87 (by kernel_rfl) z88 2 [.m] (fun hwf=>(z13b m w r (ze hwf (a:=.d (.agg (enc Ty.wld w))) (List.mem_of_getElem? (i:=0) rfl)) (ze hwf (a:=.d (.agg (enc Ty.rel r))) (List.mem_of_getElem? (i:=1) rfl)) (hob _ (List.mem_of_getElem? (i:=0) rfl)) (hob _ (List.mem_of_getElem? (i:=1) rfl)))),zb Tryz.func87 (by kernel_rfl) (by kernel_rfl)⟩
 ·simp at h
def z81 (m:Nat) : Mc Un:=mach (tbl [(91,z17 m),(138,zjd),(136,z2k m)]) (tbl []) (tbl []) (tbl []) (tbl [])
def zjg (r:List (List Val)) : RF Un:=(z134 r,z135 r)
def z4z : Nat→NS:=fun l=>(look l [(7,{ ts:=bl 72 7516193004,bs:=bl 72 12,nm:=[(.sl 5,288),(.sl 6,289),(.sl 30,290),(.sl 7,291)],cs:=true }),(11,{ ts:=bl 72 488552531692,bs:=bl 72 12,nm:=[(.sl 5,292),(.sl 6,293),(.sl 30,294),(.sl 7,295)],cs:=true })]).getD ⟨[],[],[],[],[],true⟩
def z3f (w:Wld) (r:Rel):=zm w (Rel.mk r.op r.table r.cols r.kids r.terms r.aggs r.keys r.limit r.skip r.all r.rows) (0:Int)
def z77 (w:Wld) (r:Rel):=zm w (Rel.mk r.op r.table r.cols r.kids r.terms r.aggs r.keys r.limit r.skip r.all r.rows) (1:Int)
def zgz (w:Wld) (r:Rel) (v0:Int) (v4:Int):=z7o [(z3f w r).getD v0.toNat [],(z77 w r).getD v4.toNat []]
def z4e (w:Wld) (r:Rel) (v0:Int) (v1:Option Nat) (v2:List (List Val)) : S Un:=(st 72 72 296 0 [(2,ax 2),(3,ax 3),(5,ao 288),(6,ao 289),(7,ao 291),(30,ao 290),(31,ai (↑(z3f w r).length:Int)),(32,ai v0)] [(2,bg .wld w),(3,bg .rel r)] [(288,some ⟨(0:Nat),Ty.row,zm w (Rel.ids r) (1:Int),some (0:Nat),true⟩),(289,some ⟨(0:Nat),Ty.val,List.replicate (↑(Rel.cols (r.kids.getD 1 zi)).length:Int).toNat z7,v1,true⟩),(290,some ⟨(0:Nat),Ty.row,zm w (Rel.ids r) (0:Int),some (0:Nat),true⟩),(291,some ⟨(0:Nat),Ty.row,v2,some (0:Nat),true⟩)])
def z5b (w:Wld) (r:Rel) (v0:Int) (v1:Option Nat) (v2:List (List Val)) (v3:Bool) (v4:Int) : S Un:=(st 72 72 296 0 [(2,ax 2),(3,ax 3),(5,ao 292),(6,ao 293),(7,ao 295),(9,al .val ((z3f w r).getD v0.toNat [])),(10,ab v3),(30,ao 294),(31,ai (↑(z3f w r).length:Int)),(32,ai v0),(36,ao 292),(37,ai (↑(z77 w r).length:Int)),(38,ai v4)] [(2,bg .wld w),(3,bg .rel r)] [(292,some ⟨(0:Nat),Ty.row,zm w (Rel.ids r) (1:Int),some (0:Nat),true⟩),(293,some ⟨(0:Nat),Ty.val,List.replicate (↑(Rel.cols (r.kids.getD 1 zi)).length:Int).toNat z7,v1,true⟩),(294,some ⟨(0:Nat),Ty.row,zm w (Rel.ids r) (0:Int),some (0:Nat),true⟩),(295,some ⟨(0:Nat),Ty.row,v2,some (0:Nat),true⟩)])
noncomputable def zmy : Code:=sub (z8 Tryz.f88) [1,1,1,1,1,0,1,2,2]
def z64 (m:Nat) : S Un→Option (EX Un):=zt (z4z 7) (fun s Q=>awf (z81 m) z4z zmy s Q)
noncomputable def zvw : Code:=sub (sub (z8 Tryz.f88) [1,1,1,1,1,0,1,2,2]) [1,1,0,2,1,1,0,1,2,2]
def zbt (m:Nat) : S Un→Option (EX Un):=zt (z4z 11) (fun s Q=>awf (z81 m) z4z zvw s Q)
def zmz (m:Nat) : Exit→S Un→Option (RF Un):=ctxF (z81 m) z4z (z8 Tryz.f88) [1,1,1,1,1,0,1,2] (retF (z81 m) Tryz.f88.results.toList [.m])
def zk8 (m:Nat) : Exit→S Un→Option (EX Un):=ctxF (z81 m) z4z zmy [1,1,0,2,1,1,0,1,2] (zu3 (z4z 7) (z64 m))
def zzq (m:Nat) (w:Wld) (r:Rel) : Option (RF Un):=awf (z81 m) z4z (z8 Tryz.f88) (zg Tryz.f88.ntmps 8 [.d (.agg (enc Ty.wld w)),.d (.agg (enc Ty.rel r))]) (retF (z81 m) Tryz.f88.results.toList [.m])
theorem z1mv (m:Nat) (w:Wld) (r:Rel) : zzq m w r=cndO (decide ((↑r.kids.length:Int)<(2:Int))) (some (zjg ([]))) (obO ((8:Nat)*(Rel.ids r).ht+(4:Nat)<m) (obO (zdr w (Rel.ids r) (1:Int)) (obO ((0:Int)≤(1:Int)∧(1:Int)<(↑r.kids.length:Int)) (obO ((0:Int)≤(↑(Rel.cols (r.kids.getD 1 zi)).length:Int)∧(↑(Rel.cols (r.kids.getD 1 zi)).length:Int)≤(↑(Rel.cols (r.kids.getD 1 zi)).length:Int)∧(↑(Rel.cols (r.kids.getD 1 zi)).length:Int).toNat*(32:Nat)≤zw) (obO ((8:Nat)*(Rel.ids r).ht+(4:Nat)<m) (obO (zdr w (Rel.ids r) (0:Int)) ((z64 m (z4e w r (0:Int) (some (0:Nat)) ([]))).bind (zx (zmz m))))))))):=by kernel_rfl
theorem zzr (m:Nat) (w:Wld) (r:Rel) (v0:Int) (v1:Option Nat) (v2:List (List Val)) : z64 m (z4e w r v0 v1 v2)=cndO (decide (v0<(↑(z3f w r).length:Int))) (obO (0≤v0∧v0<(↑(z3f w r).length:Int)) ((zbt m (z5b w r v0 v1 v2 false (0:Int))).bind (zx (zk8 m)))) (some (.exit 0,(z4e w r v0 v1 v2))):=(z11 (z4z 7) zmy _).trans (by kernel_rfl)
theorem z1ab (m:Nat) (w:Wld) (r:Rel) (v0:Int) (v1:Option Nat) (v2:List (List Val)) : zmz m (.exit 0) (z4e w r v0 v1 v2)=some (zjg (v2)):=by kernel_rfl
theorem zvx (m:Nat) (w:Wld) (r:Rel) (v0:Int) (v1:Option Nat) (v2:List (List Val)) (v3:Bool) (v4:Int) : zbt m (z5b w r v0 v1 v2 v3 v4)=cndO (decide (v4<(↑(z77 w r).length:Int))) (obO (0≤v4∧v4<(↑(z77 w r).length:Int)) (obO ([(z3f w r).getD v0.toNat [],(z77 w r).getD v4.toNat []].flatten.length≤(1000000000:Nat)) (obO ((8:Nat)*htTs r.terms+(8:Nat)<m) (obO (okSo w r.terms (zgz w r v0 v4)) (cndO (zb4 w r.terms (zgz w r v0 v4)) (obO ((v2.length+[z7o [(z3f w r).getD v0.toNat [],(z77 w r).getD v4.toNat []]].length)*(24:Nat)≤zw) (zbt m (z5b w r v0 v1 (v2++[z7o [(z3f w r).getD v0.toNat [],(z77 w r).getD v4.toNat []]]) true (IntKind.i64.wrap (v4+1))))) (zbt m (z5b w r v0 v1 v2 v3 (IntKind.i64.wrap (v4+1))))))))) (some (.exit 2,(z5b w r v0 v1 v2 v3 v4))):=(z11 (z4z 11) zvw _).trans (by kernel_rfl)
theorem z152 (m:Nat) (w:Wld) (r:Rel) (v0:Int) (v1:Option Nat) (v2:List (List Val)) (v3:Bool) (v4:Int) : zk8 m (.exit 2) (z5b w r v0 v1 v2 v3 v4)=cndO (!v3) (cndO (r.op == 6) (obO ([(z3f w r).getD v0.toNat [],List.replicate (↑(Rel.cols (r.kids.getD 1 zi)).length:Int).toNat z7].flatten.length≤(1000000000:Nat)) (obO ((v2.length+[z7o [(z3f w r).getD v0.toNat [],List.replicate (↑(Rel.cols (r.kids.getD 1 zi)).length:Int).toNat z7]].length)*(24:Nat)≤zw) (z64 m (z4e w r (IntKind.i64.wrap (v0+1)) none (v2++[z7o [(z3f w r).getD v0.toNat [],List.replicate (↑(Rel.cols (r.kids.getD 1 zi)).length:Int).toNat z7]]))))) (z64 m (z4e w r (IntKind.i64.wrap (v0+1)) v1 v2))) (z64 m (z4e w r (IntKind.i64.wrap (v0+1)) v1 v2)):=by kernel_rfl
theorem z1ek (m:Nat) (w:Wld) (r:Rel) (_hw:WS .wld w) (_hr:WS .rel r) (hm:8*r.ht+6<m+1) (h:z1dz w r) : zzq m w r=some (zjg (z8m w r)):=by
 obtain⟨v,hv⟩:=h
 have e:z8m w r=v:=by unfold z8m;rw[hv];rfl
 rw[e]
 have ht:=Rel.ht_terms r
 unfold z1nm z1nk at hv
 rw[z1mv]
 simp only[za,Rel.ids_eq,decide_eq_true_eq]
 by_cases c : r.kids.length<2
 ·rw[if_pos c] at hv
  obtain rfl:=Option.some.inj hv
  rw[if_pos (by omega)]
 rw[if_neg c] at hv
 rw[if_neg (by omega)]
 split at hv
 ·rename_i hc
  obtain⟨hE,hC⟩:=hc
  obtain⟨right,hR,hv⟩:=Option.bind_eq_some_iff.1 hv
  obtain⟨l,hL,hv⟩:=Option.bind_eq_some_iff.1 hv
  obtain⟨s,hS,hv⟩:=Option.bind_eq_some_iff.1 hv
  obtain⟨rfl,hlen⟩:=zrs hv
  have hrl:=zb5 hR
  have hll:=zb5 hL
  have e1:z3f w r=l:=z63 hL
  have e2:z77 w r=right:=znp hR
  have ecc:∀ a b : List Val,z7o [a,b]=a++b:=fun a b=>by unfold z7o;simp
  have efl:∀ a b : List Val,[a,b].flatten.length=a.length+b.length:=fun a b=>by simp
  have inner:∀ (i:Nat) (fr:Option Nat) (a:List Val),l.getD i []=a→∀ (q:Rows) (j:Nat) (out:Rows) (met:Bool) (u:Rows),right.drop j=q→j≤right.length →
    zf2 (fun x=>if x.length≤100000000 then nSo r.terms (zp w x) else none) (q.map (a++·))=some u→out.length+u.length≤100000000 →
    zbt m (z5b w r (i:Int) fr out met (j:Int))=some (.exit 2,z5b w r (i:Int) fr (out++u) (met || decide (0<u.length)) (right.length:Int)):=by
   intro i fr a ha q
   induction q with
   | nil =>
    intro j out met u hr hj hu ho
    have hjl:right.length≤j:=by rw[← List.drop_eq_nil_iff];exact hr
    obtain rfl : j=right.length:=by omega
    simp only[List.map_nil,zf2,Option.some.injEq] at hu
    subst hu
    rw[zvx,e2,za,if_neg (by simp)]
    simp
   | cons b q ih =>
    intro j out met u hr hj hu ho
    obtain⟨a1,a2,a3,hmem⟩:=z31 hr
    have hb:right.getD j []=b:=a2 []
    rw[List.map_cons] at hu
    obtain⟨y,u',h1,h2,h3⟩:=zxr hu
    split at h1
    ·rename_i hab
     rw[List.length_append] at hab
     have e3:zgz w r (i:Int) (j:Int)=a++b:=by unfold zgz;rw[e1,e2,Int.toNat_natCast,Int.toNat_natCast,ha,hb,ecc]
     rw[zvx,e1,e2,e3]
     simp only[za,Int.toNat_natCast,ha,hb,ecc,efl]
     rw[if_pos (by simp;omega),z6 (by omega),z6 (by omega),z6 (by omega),z6 ⟨hE,y,h1⟩,zt6 h1,z4v a1 (by omega)]
     cases y with
     | true =>
      rw[if_pos rfl] at h3 ⊢
      subst h3
      rw[List.length_cons] at ho
      rw[z6 (by unfold zw;rw[List.length_singleton];omega),ih (j+1) (out++[a++b]) true u' a3 (by omega) h2 (by rw[List.length_append,List.length_singleton];omega)]
      simp
     | false =>
      rw[if_neg (by simp)] at h3 ⊢
      subst h3
      exact ih (j+1) out met _ a3 (by omega) h2 ho
    ·simp at h1
  have outer:∀ (q:Rows) (i:Nat) (fr:Option Nat) (out:Rows) (s:Rows),l.drop i=q→i≤l.length →
    z1dw (decide (r.op=6)) (List.replicate (r.kids.getD 1 zi).cols.length z7) (fun x=>if x.length≤100000000 then nSo r.terms (zp w x) else none) right q=some s→out.length+s.length≤100000000 →
    (z64 m (z4e w r (i:Int) fr out)).bind (zx (zmz m))=some (zjg (out++s)):=by
   intro q
   induction q with
   | nil =>
    intro i fr out s hr hi hs ho
    have hil:l.length≤i:=by rw[← List.drop_eq_nil_iff];exact hr
    simp only[z1dw,Option.some.injEq] at hs
    subst hs
    have e:z64 m (z4e w r (i:Int) fr out)=some (.exit 0,z4e w r (i:Int) fr out):=by rw[zzr,e1,za,if_neg (by simp;omega)]
    rw[zn e,z1ab,List.append_nil]
   | cons a q ih =>
    intro i fr out s hr hi hs ho
    obtain⟨a1,a2,a3,hmem⟩:=z31 hr
    have ha:l.getD i []=a:=a2 []
    simp only[z1dw,Option.bind_eq_some_iff] at hs
    obtain⟨u,hu,z,hz,s',hs',h3⟩:=hs
    obtain rfl:=Option.some.inj h3
    rw[List.length_append] at ho
    have hzu:u.length≤z.length:=by
     split at hz
     ·rename_i hc;omega
     ·rw[Option.some.inj hz];exact Nat.le_refl _
    have e:z64 m (z4e w r (i:Int) fr out)=zk8 m (.exit 2) (z5b w r (i:Int) fr (out++u) (false || decide (0<u.length)) (right.length:Int)):=by
     rw[zzr,e1,za,if_pos (by simp;omega),z6 (by omega)]
     exact zn (inner i fr a ha right 0 out false u rfl (Nat.zero_le _) hu (by omega))
    rw[e,z152,e1]
    simp only[za,Int.toNat_natCast,ha,ecc,efl,Bool.false_or,z4v a1 (show l.length≤9223372036854775807 by omega),beq_iff_eq]
    by_cases d : u.length=0
    ·rw[if_pos (by simp [d])]
     obtain rfl:=List.eq_nil_of_length_eq_zero d
     by_cases d6 : r.op=6
     ·rw[if_pos d6]
      rw[if_pos ⟨d,by simp [d6]⟩] at hz
      split at hz
      ·rename_i hab
       obtain rfl:=Option.some.inj hz
       rw[List.length_append,List.length_replicate] at hab
       rw[List.length_singleton] at ho
       rw[z6 (by rw[List.length_replicate];omega),z6 (by unfold zw;rw[List.length_singleton,List.append_nil];omega),List.append_nil]
       rw[ih (i+1) none _ s' a3 (by omega) hs' (by rw[List.length_append,List.length_singleton];omega)]
       simp
      ·simp at hz
     ·rw[if_neg d6]
      rw[if_neg (fun e=>d6 (by simpa using e.2))] at hz
      obtain rfl:=Option.some.inj hz
      rw[List.append_nil,ih (i+1) fr out s' a3 (by omega) hs' (by simpa using ho)]
      simp
    ·rw[if_neg (by rw[decide_eq_true (Nat.pos_of_ne_zero d)];decide)]
     rw[if_neg (fun e=>d e.1)] at hz
     obtain rfl:=Option.some.inj hz
     rw[ih (i+1) fr (out++u) s' a3 (by omega) hs' (by rw[List.length_append];omega),List.append_assoc]
  rw[z6 (by omega),z6 (z204 hR),z6 (by omega),z6 (by rw[Int.toNat_natCast];refine⟨by omega,by omega,?_⟩;unfold zw;omega),z6 (by omega),z6 (zm9 hL)]
  have:=outer l 0 (some 0) [] s rfl (Nat.zero_le _) hS (by simpa using hlen)
  exact this
 ·simp at hv
theorem z1hy (m:Nat) (haq:FnOK 118 (z2c m)) (hao:FnOK 67 (z1b m)) (hah:FnOK 121 (z1e m)) (haz:FnOK 136 (z2k m)) (hay:FnOK 91 (z17 m)) (hau:FnOK 45 (z1s m)) (hae:FnOK 86 (z1q m)) (hac:FnOK 87 (z1l m)) (har:FnOK 88 (z2d m)) (haa:FnOK 139 (z1m m)) (haf:FnOK 89 (z1w m)) (haw:FnOK 92 (z2m m)) : FnOK 88 (z2d (m+1)):=by
 intro args ob rs os h hob
 unfold z2d at h
 split at h
 ·simp only[Option.bind_eq_some_iff,Option.some.injEq,Prod.mk.injEq] at h
  obtain⟨w,e0,r,e1,rfl,rfl,rfl⟩:=h
  obtain rfl:=z18 e0
  obtain rfl:=z18 e1
  exact⟨zd (M:=(z81 m)) rfl (zf (l1:=[(91,z17 m),(138,zjd),(136,z2k m)]) (l2:=[]) (l3:=[]) (l4:=[]) (l5:=[]) ⟨hay,z1mm,haz,trivial⟩ trivial trivial trivial trivial) Tryz.func88 (by kernel_rfl) z4z 8 [.m] (fun hwf=>(z1ek m w r (ze hwf (a:=.d (.agg (enc Ty.wld w))) (List.mem_of_getElem? (i:=0) rfl)) (ze hwf (a:=.d (.agg (enc Ty.rel r))) (List.mem_of_getElem? (i:=1) rfl)) (hob _ (List.mem_of_getElem? (i:=0) rfl)) (hob _ (List.mem_of_getElem? (i:=1) rfl)))),zb Tryz.func88 (by kernel_rfl) (by kernel_rfl)⟩
 ·simp at h
def z56 (m:Nat) : Mc Un:=mach (tbl [(91,z17 m),(139,z1m m),(140,zt0),(137,z7n),(67,z1b m),(141,zri)]) (tbl []) (tbl []) (tbl []) (tbl [])
def zzs (r:List (List Val)) : RF Un:=(zzm r,zzn r)
def z2o : Nat→NS:=fun l=>(look l [(3,{ ts:=bl 76 7340076,bs:=bl 76 12,nm:=[(.sl 5,304)],cs:=true }),(7,{ ts:=bl 76 7523533228,bs:=bl 76 140,nm:=[(.sl 8,305),(.sl 5,306)],cs:=true }),(11,{ ts:=bl 76 969596210604,bs:=bl 76 1164,nm:=[(.sl 11,307),(.sl 8,308),(.sl 5,309)],cs:=true })]).getD ⟨[],[],[],[],[],true⟩
def z1k (w:Wld) (r:Rel):=zm w (Rel.mk r.op r.table r.cols r.kids r.terms r.aggs r.keys r.limit r.skip r.all r.rows) (0:Int)
def zk9 (r:Rel) (v2:Int) (v5:List Val):=zbp (Agg.mk (Agg.name (r.aggs.getD v2.toNat z37)) (Agg.distinct (r.aggs.getD v2.toNat z37)) (Agg.t (r.aggs.getD v2.toNat z37))) v5
def z9a (w:Wld) (r:Rel) (v0:Int) (v1:List (List Val)) : S Un:=(st 76 76 310 0 [(2,ax 2),(3,ax 3),(5,ao 304),(20,al .bunch (z19 w (z1k w r) r.terms)),(21,ai (↑(z19 w (z1k w r) r.terms).length:Int)),(22,ai v0)] [(2,bg .wld w),(3,bg .rel r)] [(304,some ⟨(0:Nat),Ty.row,v1,some (0:Nat),true⟩)])
def z6c (w:Wld) (r:Rel) (v0:Int) (v1:List (List Val)) (v2:Int) (v3:List Val) : S Un:=(st 76 76 310 0 [(2,ax 2),(3,ax 3),(5,ao 306),(7,ax 7),(8,ao 305),(20,al .bunch (z19 w (z1k w r) r.terms)),(21,ai (↑(z19 w (z1k w r) r.terms).length:Int)),(22,ai v0),(30,al .agg r.aggs),(31,ai (↑r.aggs.length:Int)),(32,ai v2)] [(2,bg .wld w),(3,bg .rel r),(7,some (false,encC Ty.bunch ((z19 w (z1k w r) r.terms).getD v0.toNat zl)))] [(305,some ⟨(0:Nat),Ty.val,v3,some (0:Nat),true⟩),(306,some ⟨(0:Nat),Ty.row,v1,some (0:Nat),true⟩)])
def z4r (w:Wld) (r:Rel) (v0:Int) (v2:Int) (v3:List Val) (v1:List (List Val)) (v4:Int) (v5:List Val) : S Un:=(st 76 76 310 0 [(2,ax 2),(3,ax 3),(5,ao 309),(7,ax 7),(8,ao 308),(10,ax 10),(11,ao 307),(20,al .bunch (z19 w (z1k w r) r.terms)),(21,ai (↑(z19 w (z1k w r) r.terms).length:Int)),(22,ai v0),(30,al .agg r.aggs),(31,ai (↑r.aggs.length:Int)),(32,ai v2),(37,AV.one (A.c (C.sl Ty.row ((z19 w (z1k w r) r.terms).getD v0.toNat zl).rows false))),(38,ai (↑((z19 w (z1k w r) r.terms).getD v0.toNat zl).rows.length:Int)),(39,ai v4)] [(2,bg .wld w),(3,bg .rel r),(7,some (false,encC Ty.bunch ((z19 w (z1k w r) r.terms).getD v0.toNat zl))),(10,some (false,encC Ty.agg (r.aggs.getD v2.toNat z37)))] [(307,some ⟨(0:Nat),Ty.val,v5,some (0:Nat),true⟩),(308,some ⟨(0:Nat),Ty.val,v3,some (0:Nat),true⟩),(309,some ⟨(0:Nat),Ty.row,v1,some (0:Nat),true⟩)])
noncomputable def zka : Code:=sub (z8 Tryz.f89) [1,1,0,1,2,2]
def zbu (m:Nat) : S Un→Option (EX Un):=zt (z2o 3) (fun s Q=>awf (z56 m) z2o zka s Q)
noncomputable def zkb : Code:=sub (sub (z8 Tryz.f89) [1,1,0,1,2,2]) [1,1,0,2,1,1,0,1,2,2]
def z9b (m:Nat) : S Un→Option (EX Un):=zt (z2o 7) (fun s Q=>awf (z56 m) z2o zkb s Q)
noncomputable def zs1 : Code:=sub (sub (sub (z8 Tryz.f89) [1,1,0,1,2,2]) [1,1,0,2,1,1,0,1,2,2]) [1,1,0,2,1,1,0,1,2,2]
def z89 (m:Nat) : S Un→Option (EX Un):=zt (z2o 11) (fun s Q=>awf (z56 m) z2o zs1 s Q)
def zvy (m:Nat) : Exit→S Un→Option (RF Un):=ctxF (z56 m) z2o (z8 Tryz.f89) [1,1,0,1,2] (retF (z56 m) Tryz.f89.results.toList [.m])
def zvz (m:Nat) : Exit→S Un→Option (EX Un):=ctxF (z56 m) z2o zka [1,1,0,2,1,1,0,1,2] (zu3 (z2o 3) (zbu m))
def zs2 (m:Nat) : Exit→S Un→Option (EX Un):=ctxF (z56 m) z2o zkb [1,1,0,2,1,1,0,1,2] (zu3 (z2o 7) (z9b m))
def zw0 (m:Nat) (w:Wld) (r:Rel) : Option (RF Un):=awf (z56 m) z2o (z8 Tryz.f89) (zg Tryz.f89.ntmps 6 [.d (.agg (enc Ty.wld w)),.d (.agg (enc Ty.rel r))]) (retF (z56 m) Tryz.f89.results.toList [.m])
theorem z1hz (m:Nat) (w:Wld) (r:Rel) : zw0 m w r=obO ((8:Nat)*(Rel.ids r).ht+(4:Nat)<m) (obO (zdr w (Rel.ids r) (0:Int)) (obO ((8:Nat)*htTs r.terms+(9:Nat)<m) (obO (z1x2 w (z1k w r) r.terms) ((zbu m (z9a w r (0:Int) ([]))).bind (zx (zvy m)))))):=by kernel_rfl
theorem zw1 (m:Nat) (w:Wld) (r:Rel) (v0:Int) (v1:List (List Val)) : zbu m (z9a w r v0 v1)=cndO (decide (v0<(↑(z19 w (z1k w r) r.terms).length:Int))) (obO (0≤v0∧v0<(↑(z19 w (z1k w r) r.terms).length:Int)) (obO (((z19 w (z1k w r) r.terms).getD v0.toNat zl).key.length≤(1000000000:Nat)) ((z9b m (z6c w r v0 v1 (0:Int) (((z19 w (z1k w r) r.terms).getD v0.toNat zl).key))).bind (zx (zvz m))))) (some (.exit 0,(z9a w r v0 v1))):=(z11 (z2o 3) zka _).trans (by kernel_rfl)
theorem z153 (m:Nat) (w:Wld) (r:Rel) (v0:Int) (v1:List (List Val)) : zvy m (.exit 0) (z9a w r v0 v1)=some (zzs (v1)):=by kernel_rfl
theorem zw2 (m:Nat) (w:Wld) (r:Rel) (v0:Int) (v1:List (List Val)) (v2:Int) (v3:List Val) : z9b m (z6c w r v0 v1 v2 v3)=cndO (decide (v2<(↑r.aggs.length:Int))) (obO (0≤v2∧v2<(↑r.aggs.length:Int)) ((z89 m (z4r w r v0 v2 v3 v1 (0:Int) ([]))).bind (zx (zs2 m)))) (some (.exit 2,(z6c w r v0 v1 v2 v3))):=(z11 (z2o 7) zkb _).trans (by kernel_rfl)
theorem z154 (m:Nat) (w:Wld) (r:Rel) (v0:Int) (v1:List (List Val)) (v2:Int) (v3:List Val) : zvz m (.exit 2) (z6c w r v0 v1 v2 v3)=obO ((v1.length+[v3].length)*(24:Nat)≤zw) (zbu m (z9a w r (IntKind.i64.wrap (v0+1)) (v1++[v3]))):=by kernel_rfl
theorem zs3 (m:Nat) (w:Wld) (r:Rel) (v0:Int) (v2:Int) (v3:List Val) (v1:List (List Val)) (v4:Int) (v5:List Val) : z89 m (z4r w r v0 v2 v3 v1 v4 v5)=cndO (decide (v4<(↑((z19 w (z1k w r) r.terms).getD v0.toNat zl).rows.length:Int))) (obO (0≤v4∧v4<(↑((z19 w (z1k w r) r.terms).getD v0.toNat zl).rows.length:Int)) (cndO ((↑(Agg.t (r.aggs.getD v2.toNat z37)).length:Int) == (0:Int)) (obO ((v5.length+[z7].length)*(32:Nat)≤zw) (z89 m (z4r w r v0 v2 v3 v1 (IntKind.i64.wrap (v4+1)) (v5++[z7])))) (obO (w.env.length≤(100000000:Nat)) (obO ((0:Int)≤(0:Int)∧(0:Int)<(↑(Agg.t (r.aggs.getD v2.toNat z37)).length:Int)) (obO ((8:Nat)*(Term.ids ((Agg.t (r.aggs.getD v2.toNat z37)).getD 0 z1h)).ht+(7:Nat)<m) (obO (okT (zp w (((z19 w (z1k w r) r.terms).getD v0.toNat zl).rows.getD v4.toNat [])) (Term.ids ((Agg.t (r.aggs.getD v2.toNat z37)).getD 0 z1h))) (obO ((v5.length+[(z62 (zp w (((z19 w (z1k w r) r.terms).getD v0.toNat zl).rows.getD v4.toNat [])) (Term.ids ((Agg.t (r.aggs.getD v2.toNat z37)).getD 0 z1h)))].length)*(32:Nat)≤zw) (z89 m (z4r w r v0 v2 v3 v1 (IntKind.i64.wrap (v4+1)) (v5++[(z62 (zp w (((z19 w (z1k w r) r.terms).getD v0.toNat zl).rows.getD v4.toNat [])) (Term.ids ((Agg.t (r.aggs.getD v2.toNat z37)).getD 0 z1h)))])))))))))) (some (.exit 4,(z4r w r v0 v2 v3 v1 v4 v5))):=(z11 (z2o 11) zs1 _).trans (by kernel_rfl)
theorem z13c (m:Nat) (w:Wld) (r:Rel) (v0:Int) (v2:Int) (v3:List Val) (v1:List (List Val)) (v4:Int) (v5:List Val) : zs2 m (.exit 4) (z4r w r v0 v2 v3 v1 v4 v5)=obO (v5.length≤(400000:Nat)) (obO ((v3.length+[(zk9 r v2 v5)].length)*(32:Nat)≤zw) (z9b m (z6c w r v0 v1 (IntKind.i64.wrap (v2+1)) (v3++[(zk9 r v2 v5)])))):=by kernel_rfl
theorem z1ac (m:Nat) (w:Wld) (r:Rel) (_hw:WS .wld w) (hr:WS .rel r) (hm:8*r.ht+6<m+1) (h:z1hq w r) : zw0 m w r=some (zzs (z8u w r)):=by
 obtain⟨v,hv⟩:=h
 have e:z8u w r=v:=by unfold z8u;rw[hv];rfl
 rw[e]
 have ht:=Rel.ht_terms r
 unfold z1dy grpO at hv
 split at hv
 ·rename_i hna
  obtain⟨l,hL,hv⟩:=Option.bind_eq_some_iff.1 hv
  obtain⟨bs,hB,hv⟩:=Option.bind_eq_some_iff.1 hv
  have hll:=zb5 hL
  obtain⟨⟨hE,hN,_⟩,hkey,hbl⟩:=z12s hB
  have c1:z1k w r=l:=z63 hL
  have cb:z19 w l r.terms=bs:=by unfold z19 nBun;rw[hB];rfl
  have hvl:=zk6 hv
  have L11:∀ (i k:Nat) (row:List Val) (o:Rows) (b:Bunch) (a:Agg) (vs:List Val),bs.getD i zl=b→r.aggs.getD k z37=a→a∈r.aggs→w.env.length≤100000000→mapQ (fun x=>nHd a.t (zp w x)) b.rows=some vs→vs.length≤400000 →
    z89 m (z4r w r (i:Int) (k:Int) row o (0:Int) [])=some (.exit 4,z4r w r (i:Int) (k:Int) row o (b.rows.length:Int) vs):=by
   intro i k row o b a vs hb ha ham hE hmp hvs
   have hrl:=zk6 hmp
   have hmem:=zpl hmp
   have hat:htTs a.t<r.ht:=by have:=Rel.ht_agg ham;cases a;simp only[Agg.ht] at this;simp only[Agg.t_mk];omega
   obtain⟨lp,_⟩:=z42 (e:=.exit 4) (L:=z89 m) (st:=fun (z:List Val) q=>z4r w r (i:Int) (k:Int) row o q z) (l:=b.rows) (d:=[]) (g:=fun z x=>z++[if a.t.length=0 then z7 else z62 (zp w x) (a.t.getD 0 z1h)]) (fun q z=>z.length=q) (by omega)
    (fun z q x hi hx hI=>by
     have hI':z.length=q:=hI
     have hxm:x∈b.rows:=by rw[← hx];exact z9f (by omega)
     obtain⟨y,hy⟩:=hmem x hxm
     refine⟨by show (z++[_]).length=q+1;rw[List.length_append,List.length_singleton];omega,?_⟩
     rw[zs3,c1,cb]
     simp only[za,Term.ids_eq,Int.toNat_natCast,hb,ha,hx,beq_iff_eq,List.length_singleton]
     rw[if_pos (by simp;omega),z6 (by omega)]
     by_cases d : a.t.length=0
     ·rw[if_pos (by omega),if_pos d,z6 (by unfold zw;omega)]
     ·rw[z1qs,if_neg d] at hy
      have hk:(a.t.getD 0 z1h).ht≤htTs a.t:=zk2 (z9f (by omega))
      rw[if_neg (by omega),if_neg d,z6 hE,z6 (by omega),z6 (by omega),z6 ⟨y,hy⟩,z6 (by unfold zw;omega)])
    (fun z _=>by rw[zs3,c1,cb];simp only[za,Int.toNat_natCast,hb];rw[if_neg (by simp)]) [] rfl
   rw[ze5,List.nil_append,zpm (fun x=>if a.t.length=0 then z7 else z62 (zp w x) (a.t.getD 0 z1h)) hmp (fun x hx y hy=>by
    rw[z1qs] at hy
    by_cases d : a.t.length=0
    ·rw[if_pos d] at hy ⊢;exact Option.some.inj hy
    ·rw[if_neg d] at hy ⊢;exact zad hy)] at lp
   exact lp
  have L7:∀ (i:Nat) (o:Rows) (b:Bunch) (vs:List Val),bs.getD i zl=b→b.key.length≤100000000→mapQ (fun a=>nA a w b.rows) r.aggs=some vs →
    z9b m (z6c w r (i:Int) o (0:Int) b.key)=some (.exit 2,z6c w r (i:Int) o (r.aggs.length:Int) (b.key++vs)):=by
   intro i o b vs hb hbk hmp
   have hrl:=zk6 hmp
   have hmem:=zpl hmp
   obtain⟨lp,_⟩:=z42 (e:=.exit 2) (L:=z9b m) (st:=fun (z:List Val) q=>z6c w r (i:Int) o q z) (l:=r.aggs) (d:=z37) (g:=fun z a=>z++[(nA a w b.rows).getD z7]) (fun q z=>z.length=b.key.length+q) (by omega)
    (fun z q a hi ha hI=>by
     have hI':z.length=b.key.length+q:=hI
     have ham:a∈r.aggs:=by rw[← ha];exact z9f (by omega)
     obtain⟨y,hy⟩:=hmem a ham
     refine⟨by show (z++[_]).length=_;rw[List.length_append,List.length_singleton];omega,?_⟩
     have hy0:=hy
     rw[z25l,if_pos hE] at hy
     obtain⟨us,hu,hy⟩:=Option.bind_eq_some_iff.1 hy
     by_cases hul : us.length≤400000
     ·rw[if_pos hul] at hy
      obtain rfl:=Option.some.inj hy
      have c2:zk9 r (q:Int) us=zbp a us:=by
       show zbp (Agg.ids (r.aggs.getD (q:Int).toNat z37)) us=_
       rw[Int.toNat_natCast,ha];cases a;rfl
      rw[zw2,za,if_pos (by simp;omega),z6 (by omega)]
      refine (zn (L11 i q z o b a us hb ha ham hE hu hul)).trans ?_
      rw[z13c,c2,z6 hul,z6 (by unfold zw;rw[List.length_singleton];omega),hy0]
      rfl
     ·rw[if_neg hul] at hy;simp at hy)
    (fun z _=>by rw[zw2,za,if_neg (by simp)]) b.key rfl
   rw[ze5,zpm (fun a=>(nA a w b.rows).getD z7) hmp (fun a ha y hy=>by rw[hy];rfl)] at lp
   exact lp
  have hmem:=zpl hv
  obtain⟨lp,_⟩:=z42 (e:=.exit 0) (L:=zbu m) (st:=fun (o:Rows) q=>z9a w r q o) (l:=bs) (d:=zl) (g:=fun o b=>o++[(((nAs r.aggs w b.rows).bind fun vs=>some (b.key++vs))).getD []]) (fun q o=>o.length=q) (by omega)
   (fun o i b hi hb hI=>by
    have hI':o.length=i:=hI
    have hbm:b∈bs:=by rw[← hb];exact z9f (by omega)
    obtain⟨y,hy⟩:=hmem b hbm
    have hbk:=hkey b hbm
    refine⟨by show (o++[_]).length=_;rw[List.length_append,List.length_singleton];omega,?_⟩
    have hy0:=hy
    obtain⟨vs,hvs,hy⟩:=Option.bind_eq_some_iff.1 hy
    obtain rfl:=Option.some.inj hy
    have hvs':nAs r.aggs w b.rows=some vs:=hvs
    rw[z1zy] at hvs'
    rw[zw1,c1,cb]
    simp only[za,Int.toNat_natCast,hb]
    rw[if_pos (by simp;omega),z6 (by omega),z6 (by omega)]
    refine (zn (L7 i o b vs hb (by omega) hvs')).trans ?_
    rw[z154,z6 (by unfold zw;rw[List.length_singleton];omega),hy0]
    rfl)
   (fun o _=>by rw[zw1,c1,cb,za,if_neg (by simp)]) [] rfl
  rw[ze5,List.nil_append,zpm (fun b=>(((nAs r.aggs w b.rows).bind fun vs=>some (b.key++vs))).getD []) hv (fun b hb y hy=>by rw[hy];rfl)] at lp
  rw[z1hz,Rel.ids_eq,c1,z6 (by omega),z6 (zm9 hL),z6 (by omega),z6 ⟨bs,hB⟩]
  refine (zn lp).trans ?_
  rw[z153]
 ·simp at hv
theorem z1el (m:Nat) (haq:FnOK 118 (z2c m)) (hao:FnOK 67 (z1b m)) (hah:FnOK 121 (z1e m)) (haz:FnOK 136 (z2k m)) (hay:FnOK 91 (z17 m)) (hau:FnOK 45 (z1s m)) (hae:FnOK 86 (z1q m)) (hac:FnOK 87 (z1l m)) (har:FnOK 88 (z2d m)) (haa:FnOK 139 (z1m m)) (haf:FnOK 89 (z1w m)) (haw:FnOK 92 (z2m m)) : FnOK 89 (z1w (m+1)):=by
 intro args ob rs os h hob
 unfold z1w at h
 split at h
 ·simp only[Option.bind_eq_some_iff,Option.some.injEq,Prod.mk.injEq] at h
  obtain⟨w,e0,r,e1,rfl,rfl,rfl⟩:=h
  obtain rfl:=z18 e0
  obtain rfl:=z18 e1
  exact⟨zd (M:=(z56 m)) rfl (zf (l1:=[(91,z17 m),(139,z1m m),(140,zt0),(137,z7n),(67,z1b m),(141,zri)]) (l2:=[]) (l3:=[]) (l4:=[]) (l5:=[]) ⟨hay,haa,z1q9,zl1,hao,z1wx,trivial⟩ trivial trivial trivial trivial) Tryz.func89 (by kernel_rfl) z2o 6 [.m] (fun hwf=>(z1ac m w r (ze hwf (a:=.d (.agg (enc Ty.wld w))) (List.mem_of_getElem? (i:=0) rfl)) (ze hwf (a:=.d (.agg (enc Ty.rel r))) (List.mem_of_getElem? (i:=1) rfl)) (hob _ (List.mem_of_getElem? (i:=0) rfl)) (hob _ (List.mem_of_getElem? (i:=1) rfl)))),zb Tryz.func89 (by kernel_rfl) (by kernel_rfl)⟩
 ·simp at h
def zdb (m:Nat) : Mc Un:=mach (tbl [(91,z17 m),(143,zje),(90,zbs),(85,z9g),(142,za5)]) (tbl []) (tbl []) (tbl [(144,zgx)]) (tbl [])
def zb6 (r:List (List Val)) : RF Un:=(z16t r,z16u r)
def zdc : Nat→NS:=fun l=>(look l [(11,{ ts:=bl 64 481036337544,bs:=bl 64 8,nm:=[(.sl 7,256),(.sl 36,257),(.sl 8,258)],cs:=true })]).getD ⟨[],[],[],[],[],true⟩
def z9i (w:Wld) (r:Rel):=zcg [zm w (Rel.mk r.op r.table r.cols r.kids r.terms r.aggs r.keys r.limit r.skip r.all r.rows) (0:Int),zm w (Rel.mk r.op r.table r.cols r.kids r.terms r.aggs r.keys r.limit r.skip r.all r.rows) (1:Int)]
def zec (w:Wld) (r:Rel):=zm w (Rel.mk r.op r.table r.cols r.kids r.terms r.aggs r.keys r.limit r.skip r.all r.rows) (1:Int)
def z9j (w:Wld) (r:Rel):=zm w (Rel.mk r.op r.table r.cols r.kids r.terms r.aggs r.keys r.limit r.skip r.all r.rows) (0:Int)
def z36 (r:Rel) (v0:Int) (v1:List (List Val)) (v2:Int) (v3:List (List Val)) (v4:List (List Val)) : S Un:=(st 64 64 259 0 [(3,ax 3),(7,ao 256),(8,ao 258),(36,ao 257),(37,ai v0),(38,ai v2)] [(3,bg .rel r)] [(256,some ⟨(0:Nat),Ty.row,v3,some (0:Nat),true⟩),(257,some ⟨(0:Nat),Ty.row,v1,some (0:Nat),true⟩),(258,some ⟨(0:Nat),Ty.row,v4,some (0:Nat),true⟩)])
noncomputable def zzt : Code:=sub (z8 Tryz.f92) [1,1,1,1,1,1,1,0,1,2,2]
def z4f (m:Nat) : S Un→Option (EX Un):=zt (zdc 11) (fun s Q=>awf (zdb m) zdc zzt s Q)
def zag (m:Nat) : Exit→S Un→Option (RF Un):=ctxF (zdb m) zdc (z8 Tryz.f92) [1,1,1,1,1,1,1,0,1,2] (retF (zdb m) Tryz.f92.results.toList [.m])
def z13d (m:Nat) (w:Wld) (r:Rel) : Option (RF Un):=awf (zdb m) zdc (z8 Tryz.f92) (zg Tryz.f92.ntmps 3 [.d (.agg (enc Ty.wld w)),.d (.agg (enc Ty.rel r))]) (retF (zdb m) Tryz.f92.results.toList [.m])
theorem z1r6 (m:Nat) (w:Wld) (r:Rel) : z13d m w r=obO ((8:Nat)*(Rel.ids r).ht+(4:Nat)<m) (obO (zdr w (Rel.ids r) (0:Int)) (obO ((8:Nat)*(Rel.ids r).ht+(4:Nat)<m) (obO (zdr w (Rel.ids r) (1:Int)) (cndO (r.op == 9) (obO ([zm w (Rel.ids r) (0:Int),zm w (Rel.ids r) (1:Int)].flatten.length≤(1000000000:Nat)) (cndO (!r.all) (obO ((z9i w r).length≤(100000000:Nat)) (cndO (r.op == 9) (some (zb6 (z30 (z9i w r)))) (obO ((zec w r).length≤(1000000000:Nat)) ((z4f m (z36 r (↑(z30 (z9i w r)).length:Int) (z30 (z9i w r)) (0:Int) (zm w (Rel.ids r) (1:Int)) ([]))).bind (zx (zag m)))))) (cndO (r.op == 9) (some (zb6 (z9i w r))) (obO ((zec w r).length≤(1000000000:Nat)) ((z4f m (z36 r (↑(z9i w r).length:Int) (zcg [zm w (Rel.ids r) (0:Int),zm w (Rel.ids r) (1:Int)]) (0:Int) (zm w (Rel.ids r) (1:Int)) ([]))).bind (zx (zag m))))))) (cndO (!r.all) (obO ((z9j w r).length≤(100000000:Nat)) (cndO (r.op == 9) (some (zb6 (z30 (z9j w r)))) (obO ((zec w r).length≤(1000000000:Nat)) ((z4f m (z36 r (↑(z30 (z9j w r)).length:Int) (z30 (z9j w r)) (0:Int) (zm w (Rel.ids r) (1:Int)) ([]))).bind (zx (zag m)))))) (cndO (r.op == 9) (some (zb6 (z9j w r))) (obO ((zec w r).length≤(1000000000:Nat)) ((z4f m (z36 r (↑(z9j w r).length:Int) (zm w (Rel.ids r) (0:Int)) (0:Int) (zm w (Rel.ids r) (1:Int)) ([]))).bind (zx (zag m)))))))))):=by kernel_rfl
theorem zzu (m:Nat) (r:Rel) (v0:Int) (v1:List (List Val)) (v2:Int) (v3:List (List Val)) (v4:List (List Val)) : z4f m (z36 r v0 v1 v2 v3 v4)=cndO (decide (v2<v0)) (obO (0≤v2∧v2<(↑v1.length:Int)) (cndO (decide (z13 v3 (v1.getD v2.toNat [])≥0)) (obO (0≤z13 v3 (v1.getD v2.toNat [])∧z13 v3 (v1.getD v2.toNat [])<IntKind.i64.wrap (z13 v3 (v1.getD v2.toNat [])+1)∧IntKind.i64.wrap (z13 v3 (v1.getD v2.toNat [])+1)≤(↑v3.length:Int)) (cndO (decide (z13 v3 (v1.getD v2.toNat [])≥0) == (r.op == 10)) (obO ((v4.length+[v1.getD v2.toNat []].length)*(24:Nat)≤zw) (z4f m (z36 r v0 v1 (IntKind.i64.wrap (v2+1)) (List.take (z13 v3 (v1.getD v2.toNat [])).toNat v3++List.drop (IntKind.i64.wrap (z13 v3 (v1.getD v2.toNat [])+1)).toNat v3) (v4++[v1.getD v2.toNat []])))) (z4f m (z36 r v0 v1 (IntKind.i64.wrap (v2+1)) (List.take (z13 v3 (v1.getD v2.toNat [])).toNat v3++List.drop (IntKind.i64.wrap (z13 v3 (v1.getD v2.toNat [])+1)).toNat v3) v4)))) (cndO (decide (z13 v3 (v1.getD v2.toNat [])≥0) == (r.op == 10)) (obO ((v4.length+[v1.getD v2.toNat []].length)*(24:Nat)≤zw) (z4f m (z36 r v0 v1 (IntKind.i64.wrap (v2+1)) v3 (v4++[v1.getD v2.toNat []])))) (z4f m (z36 r v0 v1 (IntKind.i64.wrap (v2+1)) v3 v4))))) (some (.exit 0,(z36 r v0 v1 v2 v3 v4))):=(z11 (zdc 11) zzt _).trans (by kernel_rfl)
theorem z1ad (m:Nat) (r:Rel) (v0:Int) (v1:List (List Val)) (v2:Int) (v3:List (List Val)) (v4:List (List Val)) : zag m (.exit 0) (z36 r v0 v1 v2 v3 v4)=some (zb6 (v4)):=by kernel_rfl
theorem z1i0 (m:Nat) (w:Wld) (r:Rel) (_hw:WS .wld w) (_hr:WS .rel r) (hm:8*r.ht+6<m+1) (h:z1e0 w r) : z13d m w r=some (zb6 (z8v w r)):=by
 obtain⟨v,hv⟩:=h
 have e:z8v w r=v:=by unfold z8v;rw[hv];rfl
 rw[e]
 unfold nSet setO at hv
 obtain⟨a,hA,hv⟩:=Option.bind_eq_some_iff.1 hv
 obtain⟨b,hB,hv⟩:=Option.bind_eq_some_iff.1 hv
 obtain⟨z,hz,hv⟩:=Option.bind_eq_some_iff.1 hv
 obtain rfl:=Option.some.inj hv
 have hal:=zb5 hA
 have hbl:=zb5 hB
 have e2:zec w r=b:=znp hB
 have e3:z9j w r=a:=z63 hA
 have e1:z9i w r=a++b:=by
  show zcg [zm w (Rel.ids r) 0,zm w (Rel.ids r) 1]=_
  rw[Rel.ids_eq,z63 hA,znp hB];unfold zcg;simp
 have hpl:∀ (x:List Val) (l:Rows),0≤z13 l x→(z13 l x).toNat<l.length∧((z13 l x).toNat:Int)=z13 l x:=fun x l h0=>by
  unfold z13 at h0 ⊢
  cases hf : l.findIdx? (fun y=>plc1 y x) with
  | none=>rw[hf] at h0;exact absurd h0 (by decide)
  | some i=>exact⟨by simpa using (List.findIdx?_eq_some_iff_getElem.1 hf).1,by simp⟩
 have loop:∀ (c:Rows),c.length≤100000000→∀ (q:Rows) (i:Nat) (left out:Rows),c.drop i=q→i≤c.length→left.length≤100000000→out.length≤i →
   (z4f m (z36 r (c.length:Int) c (i:Int) left out)).bind (zx (zag m))=some (zb6 (out++setL (decide (r.op=10)) q left)):=by
  intro c hc q
  induction q with
  | nil =>
   intro i left out hr hi hlf ho
   have hil:c.length≤i:=by rw[← List.drop_eq_nil_iff];exact hr
   have e:z4f m (z36 r (c.length:Int) c (i:Int) left out)=some (.exit 0,z36 r (c.length:Int) c (i:Int) left out):=by rw[zzu,za,if_neg (by simp;omega)]
   rw[zn e,z1ad]
   simp only[setL,List.append_nil]
  | cons x q ih =>
   intro i left out hr hi hlf ho
   obtain⟨a1,a2,a3,hmem⟩:=z31 hr
   have hx:c.getD i []=x:=a2 []
   have hb0:∀ p : Bool,(p == (r.op == 10))=true↔p=decide (r.op=10):=fun p=>by
    have : (r.op == 10)=decide (r.op=10):=by cases h : decide (r.op=10)<;>simp_all
    rw[this,beq_iff_eq]
   have hge:decide (z13 left x≥0)=decide (0≤z13 left x):=rfl
   have hsl:=zzu m r (c.length:Int) c (i:Int) left out
   simp only[za,Int.toNat_natCast,hx,z4v a1 (show c.length≤9223372036854775807 by omega),hb0,hge] at hsl
   rw[if_pos (by simp;omega),z6 (by omega)] at hsl
   simp only[setL]
   by_cases d : 0≤z13 left x
   ·obtain⟨p1,p2⟩:=hpl x left d
    obtain⟨p,hp⟩ : ∃ p,p=(z13 left x).toNat:=⟨_,rfl⟩
    rw[← hp] at p1 p2
    have hw1:IntKind.i64.wrap (z13 left x+1)=((p+1:Nat):Int):=by rw[← p2];exact z2n (by omega)
    have hlt:(left.take p++left.drop (p+1)).length≤100000000:=by rw[List.length_append,List.length_take,List.length_drop];omega
    have he:left.eraseIdx p=left.take p++left.drop (p+1):=List.eraseIdx_eq_take_drop_succ _ _
    rw[if_pos (by simpa using d),hw1,← p2,Int.toNat_natCast,Int.toNat_natCast,z6 (by omega)] at hsl
    rw[if_pos d,← hp,he]
    have dd:decide (0≤(p:Int))=true:=by simp
    rw[dd] at hsl
    rw[decide_eq_true d]
    by_cases d2 : true=decide (r.op=10)
    ·rw[if_pos d2,z6 (by unfold zw;rw[List.length_singleton];omega)] at hsl
     rw[if_pos d2,hsl,ih (i+1) _ (out++[x]) a3 (by omega) hlt (by rw[List.length_append,List.length_singleton];omega),List.append_assoc]
    ·rw[if_neg d2] at hsl
     rw[if_neg d2,hsl,ih (i+1) _ out a3 (by omega) hlt (by omega),List.nil_append]
   ·rw[if_neg (by simpa using d)] at hsl
    rw[if_neg d]
    rw[decide_eq_false d] at hsl ⊢
    by_cases d2 : false=decide (r.op=10)
    ·rw[if_pos d2,z6 (by unfold zw;rw[List.length_singleton];omega)] at hsl
     rw[if_pos d2,hsl,ih (i+1) _ (out++[x]) a3 (by omega) hlf (by rw[List.length_append,List.length_singleton];omega),List.append_assoc]
    ·rw[if_neg d2] at hsl
     rw[if_neg d2,hsl,ih (i+1) _ out a3 (by omega) hlf (by omega),List.nil_append]
 have hon:∀ l : Rows,(z30 l).length≤l.length:=fun l=>by
  have : ∀ (l o:Rows),(l.foldl (fun o x=>if z13 o x<0 then o++[x] else o) o).length≤o.length+l.length:=by
   intro l
   induction l with
   | nil=>intro o;simp
   | cons x l ih =>
    intro o
    rw[List.foldl_cons]
    refine Nat.le_trans (ih _) ?_
    split
    ·rw[List.length_append,List.length_singleton,List.length_cons];omega
    ·rw[List.length_cons];omega
  have h0:=this l []
  rw[List.length_nil,Nat.zero_add] at h0
  exact h0
 have s9:∀ c : Rows,r.op=9→setE r.op r.all c b=if r.all=true then c else z30 c:=fun c h=>by unfold setE;rw[if_pos h]
 have s10:∀ c : Rows,r.op≠9→setE r.op r.all c b=setL (decide (r.op=10)) (if r.all=true then c else z30 c) b:=fun c h=>by unfold setE;rw[if_neg h]
 rw[z1r6]
 simp only[za,Rel.ids_eq,beq_iff_eq,e1,e2,e3,z63 hA,znp hB]
 rw[z6 (by omega),z6 (zm9 hA),z6 (by omega),z6 (z204 hB)]
 by_cases c9 : r.op=9
 ·rw[if_pos c9] at hz
  obtain⟨h1,h2⟩:=zrs hz
  subst h1
  rw[List.length_append] at h2
  rw[if_pos c9,z6 (by simp;omega),s9 _ c9]
  by_cases ca : r.all=true
  ·rw[if_neg (by simp [ca]),if_pos c9,if_pos ca]
  ·rw[if_pos (by simpa using ca),z6 (by rw[List.length_append];omega),if_pos c9,if_neg ca]
 ·rw[if_neg c9] at hz
  obtain rfl:=Option.some.inj hz
  rw[if_neg c9,s10 _ c9]
  by_cases ca : r.all=true
  ·rw[if_neg (by simp [ca]),if_neg c9,z6 (by omega),if_pos ca]
   have:=loop a (by omega) a 0 b [] rfl (Nat.zero_le _) hbl (Nat.zero_le _)
   exact this
  ·rw[if_pos (by simpa using ca),z6 (by omega),if_neg c9,z6 (by omega),if_neg ca]
   have h1:=hon a
   have:=loop (z30 a) (by omega) (z30 a) 0 b [] rfl (Nat.zero_le _) hbl (Nat.zero_le _)
   exact this
theorem z1mw (m:Nat) (haq:FnOK 118 (z2c m)) (hao:FnOK 67 (z1b m)) (hah:FnOK 121 (z1e m)) (haz:FnOK 136 (z2k m)) (hay:FnOK 91 (z17 m)) (hau:FnOK 45 (z1s m)) (hae:FnOK 86 (z1q m)) (hac:FnOK 87 (z1l m)) (har:FnOK 88 (z2d m)) (haa:FnOK 139 (z1m m)) (haf:FnOK 89 (z1w m)) (haw:FnOK 92 (z2m m)) : FnOK 92 (z2m (m+1)):=by
 intro args ob rs os h hob
 unfold z2m at h
 split at h
 ·simp only[Option.bind_eq_some_iff,Option.some.injEq,Prod.mk.injEq] at h
  obtain⟨w,e0,r,e1,rfl,rfl,rfl⟩:=h
  obtain rfl:=z18 e0
  obtain rfl:=z18 e1
  exact⟨zd (M:=(zdb m)) rfl (zf (l1:=[(91,z17 m),(143,zje),(90,zbs),(85,z9g),(142,za5)]) (l2:=[]) (l3:=[]) (l4:=[(144,zgx)]) (l5:=[]) ⟨hay,z1mo,zz5,zmt,zv8,trivial⟩ trivial trivial ⟨z1e6,trivial⟩ trivial) Tryz.func92 (by kernel_rfl) zdc 3 [.m] (fun hwf=>(z1i0 m w r (ze hwf (a:=.d (.agg (enc Ty.wld w))) (List.mem_of_getElem? (i:=0) rfl)) (ze hwf (a:=.d (.agg (enc Ty.rel r))) (List.mem_of_getElem? (i:=1) rfl)) (hob _ (List.mem_of_getElem? (i:=0) rfl)) (hob _ (List.mem_of_getElem? (i:=1) rfl)))),zb Tryz.func92 (by kernel_rfl) (by kernel_rfl)⟩
 ·simp at h
theorem z155 (m:Nat) (haq:FnOK 118 (z2c m)) (hao:FnOK 67 (z1b m)) (hah:FnOK 121 (z1e m)) (haz:FnOK 136 (z2k m)) (hay:FnOK 91 (z17 m)) (hau:FnOK 45 (z1s m)) (hae:FnOK 86 (z1q m)) (hac:FnOK 87 (z1l m)) (har:FnOK 88 (z2d m)) (haa:FnOK 139 (z1m m)) (haf:FnOK 89 (z1w m)) (haw:FnOK 92 (z2m m)) : FnOK 139 (z1m (m+1)):=by
 intro args ob rs os h hob
 unfold z1m at h
 split at h
 ·simp only[Option.bind_eq_some_iff,Option.some.injEq,Prod.mk.injEq] at h
  obtain⟨w,e0,rows,e1,terms,e2,rfl,rfl,rfl⟩:=h
  obtain rfl:=z18 e0
  obtain rfl:=z1i e1
  obtain rfl:=z1i e2
  have hm:8*htTs terms+9<m+1:=hob _ (List.mem_of_getElem? (i:=0) rfl)
  obtain⟨bs,hbs⟩ : z1x2 w rows terms:=hob _ (List.mem_of_getElem? (i:=1) rfl)
  have e:z19 w rows terms=bs:=by unfold z19;rw[hbs];rfl
  rw[e]
  refine⟨z1a7 w rows terms bs hbs (fun x key hk=>?_),zb Tryz.func139 (by kernel_rfl) (by kernel_rfl)⟩
  have hF:z1e m [.d (.agg (enc Ty.wld (zp w x))),.d (.v (.dat (U:=Un) Ty.term terms))]=some ([8*htTs terms+8<m,okTs (zp w x) terms],zmw (z55 (zp w x) terms),[]):=by
   unfold z1e
   simp only[zfq,znb,Option.bind_some]
   rfl
  have hC:=(hah _ _ _ _ hF (fun p hp=>by
   simp only[List.mem_cons,List.not_mem_nil,or_false] at hp
   rcases hp with rfl | rfl
   ·omega
   ·exact⟨(z12s hbs).1.2.1,key,hk⟩)).1
  rw[zf7 hk] at hC
  exact Contract.data hC
 ·simp at h
theorem z13e : ∀ m,FnOK 118 (z2c m)∧FnOK 67 (z1b m)∧FnOK 121 (z1e m)∧FnOK 136 (z2k m)∧FnOK 91 (z17 m)∧FnOK 45 (z1s m)∧FnOK 86 (z1q m)∧FnOK 87 (z1l m)∧FnOK 88 (z2d m)∧FnOK 139 (z1m m)∧FnOK 89 (z1w m)∧FnOK 92 (z2m m)
 | 0=>by
  refine⟨?_,?_,?_,?_,?_,?_,?_,?_,?_,?_,?_,?_⟩
  ·intro args ob rs os h hob
   unfold z2c at h
   split at h
   ·simp only[Option.bind_eq_some_iff,Option.some.injEq,Prod.mk.injEq] at h
    obtain⟨_,_,_,_,rfl,_,_⟩:=h
    exact absurd (hob _ (List.mem_of_getElem? (i:=0) rfl)) (Nat.not_lt_zero _)
   ·simp at h
  ·intro args ob rs os h hob
   unfold z1b at h
   split at h
   ·simp only[Option.bind_eq_some_iff,Option.some.injEq,Prod.mk.injEq] at h
    obtain⟨_,_,_,_,rfl,_,_⟩:=h
    exact absurd (hob _ (List.mem_of_getElem? (i:=0) rfl)) (Nat.not_lt_zero _)
   ·simp at h
  ·intro args ob rs os h hob
   unfold z1e at h
   split at h
   ·simp only[Option.bind_eq_some_iff,Option.some.injEq,Prod.mk.injEq] at h
    obtain⟨_,_,_,_,rfl,_,_⟩:=h
    exact absurd (hob _ (List.mem_of_getElem? (i:=0) rfl)) (Nat.not_lt_zero _)
   ·simp at h
  ·intro args ob rs os h hob
   unfold z2k at h
   split at h
   ·simp only[Option.bind_eq_some_iff,Option.some.injEq,Prod.mk.injEq] at h
    obtain⟨_,_,_,_,_,_,rfl,_,_⟩:=h
    exact absurd (hob _ (List.mem_of_getElem? (i:=0) rfl)) (Nat.not_lt_zero _)
   ·simp at h
  ·intro args ob rs os h hob
   unfold z17 at h
   split at h
   ·simp only[Option.bind_eq_some_iff,Option.some.injEq,Prod.mk.injEq] at h
    obtain⟨_,_,_,_,_,_,rfl,_,_⟩:=h
    exact absurd (hob _ (List.mem_of_getElem? (i:=0) rfl)) (Nat.not_lt_zero _)
   ·simp at h
  ·intro args ob rs os h hob
   unfold z1s at h
   split at h
   ·simp only[Option.bind_eq_some_iff,Option.some.injEq,Prod.mk.injEq] at h
    obtain⟨_,_,_,_,rfl,_,_⟩:=h
    exact absurd (hob _ (List.mem_of_getElem? (i:=0) rfl)) (Nat.not_lt_zero _)
   ·simp at h
  ·intro args ob rs os h hob
   unfold z1q at h
   split at h
   ·simp only[Option.bind_eq_some_iff,Option.some.injEq,Prod.mk.injEq] at h
    obtain⟨_,_,_,_,rfl,_,_⟩:=h
    exact absurd (hob _ (List.mem_of_getElem? (i:=0) rfl)) (Nat.not_lt_zero _)
   ·simp at h
  ·intro args ob rs os h hob
   unfold z1l at h
   split at h
   ·simp only[Option.bind_eq_some_iff,Option.some.injEq,Prod.mk.injEq] at h
    obtain⟨_,_,_,_,rfl,_,_⟩:=h
    exact absurd (hob _ (List.mem_of_getElem? (i:=0) rfl)) (Nat.not_lt_zero _)
   ·simp at h
  ·intro args ob rs os h hob
   unfold z2d at h
   split at h
   ·simp only[Option.bind_eq_some_iff,Option.some.injEq,Prod.mk.injEq] at h
    obtain⟨_,_,_,_,rfl,_,_⟩:=h
    exact absurd (hob _ (List.mem_of_getElem? (i:=0) rfl)) (Nat.not_lt_zero _)
   ·simp at h
  ·intro args ob rs os h hob
   unfold z1m at h
   split at h
   ·simp only[Option.bind_eq_some_iff,Option.some.injEq,Prod.mk.injEq] at h
    obtain⟨_,_,_,_,_,_,rfl,_,_⟩:=h
    exact absurd (hob _ (List.mem_of_getElem? (i:=0) rfl)) (Nat.not_lt_zero _)
   ·simp at h
  ·intro args ob rs os h hob
   unfold z1w at h
   split at h
   ·simp only[Option.bind_eq_some_iff,Option.some.injEq,Prod.mk.injEq] at h
    obtain⟨_,_,_,_,rfl,_,_⟩:=h
    exact absurd (hob _ (List.mem_of_getElem? (i:=0) rfl)) (Nat.not_lt_zero _)
   ·simp at h
  ·intro args ob rs os h hob
   unfold z2m at h
   split at h
   ·simp only[Option.bind_eq_some_iff,Option.some.injEq,Prod.mk.injEq] at h
    obtain⟨_,_,_,_,rfl,_,_⟩:=h
    exact absurd (hob _ (List.mem_of_getElem? (i:=0) rfl)) (Nat.not_lt_zero _)
   ·simp at h
 | m+1=>by
  have ih:=z13e m
  exact⟨z1hs m ih.1 ih.2.1 ih.2.2.1 ih.2.2.2.1 ih.2.2.2.2.1 ih.2.2.2.2.2.1 ih.2.2.2.2.2.2.1 ih.2.2.2.2.2.2.2.1 ih.2.2.2.2.2.2.2.2.1 ih.2.2.2.2.2.2.2.2.2.1 ih.2.2.2.2.2.2.2.2.2.2.1 ih.2.2.2.2.2.2.2.2.2.2.2,z1ht m ih.1 ih.2.1 ih.2.2.1 ih.2.2.2.1 ih.2.2.2.2.1 ih.2.2.2.2.2.1 ih.2.2.2.2.2.2.1 ih.2.2.2.2.2.2.2.1 ih.2.2.2.2.2.2.2.2.1 ih.2.2.2.2.2.2.2.2.2.1 ih.2.2.2.2.2.2.2.2.2.2.1 ih.2.2.2.2.2.2.2.2.2.2.2,z1eh m ih.1 ih.2.1 ih.2.2.1 ih.2.2.2.1 ih.2.2.2.2.1 ih.2.2.2.2.2.1 ih.2.2.2.2.2.2.1 ih.2.2.2.2.2.2.2.1 ih.2.2.2.2.2.2.2.2.1 ih.2.2.2.2.2.2.2.2.2.1 ih.2.2.2.2.2.2.2.2.2.2.1 ih.2.2.2.2.2.2.2.2.2.2.2,z1r3 m ih.1 ih.2.1 ih.2.2.1 ih.2.2.2.1 ih.2.2.2.2.1 ih.2.2.2.2.2.1 ih.2.2.2.2.2.2.1 ih.2.2.2.2.2.2.2.1 ih.2.2.2.2.2.2.2.2.1 ih.2.2.2.2.2.2.2.2.2.1 ih.2.2.2.2.2.2.2.2.2.2.1 ih.2.2.2.2.2.2.2.2.2.2.2,z1mt m ih.1 ih.2.1 ih.2.2.1 ih.2.2.2.1 ih.2.2.2.2.1 ih.2.2.2.2.2.1 ih.2.2.2.2.2.2.1 ih.2.2.2.2.2.2.2.1 ih.2.2.2.2.2.2.2.2.1 ih.2.2.2.2.2.2.2.2.2.1 ih.2.2.2.2.2.2.2.2.2.2.1 ih.2.2.2.2.2.2.2.2.2.2.2,z1mu m ih.1 ih.2.1 ih.2.2.1 ih.2.2.2.1 ih.2.2.2.2.1 ih.2.2.2.2.2.1 ih.2.2.2.2.2.2.1 ih.2.2.2.2.2.2.2.1 ih.2.2.2.2.2.2.2.2.1 ih.2.2.2.2.2.2.2.2.2.1 ih.2.2.2.2.2.2.2.2.2.2.1 ih.2.2.2.2.2.2.2.2.2.2.2,z1a9 m ih.1 ih.2.1 ih.2.2.1 ih.2.2.2.1 ih.2.2.2.2.1 ih.2.2.2.2.2.1 ih.2.2.2.2.2.2.1 ih.2.2.2.2.2.2.2.1 ih.2.2.2.2.2.2.2.2.1 ih.2.2.2.2.2.2.2.2.2.1 ih.2.2.2.2.2.2.2.2.2.2.1 ih.2.2.2.2.2.2.2.2.2.2.2,z151 m ih.1 ih.2.1 ih.2.2.1 ih.2.2.2.1 ih.2.2.2.2.1 ih.2.2.2.2.2.1 ih.2.2.2.2.2.2.1 ih.2.2.2.2.2.2.2.1 ih.2.2.2.2.2.2.2.2.1 ih.2.2.2.2.2.2.2.2.2.1 ih.2.2.2.2.2.2.2.2.2.2.1 ih.2.2.2.2.2.2.2.2.2.2.2,z1hy m ih.1 ih.2.1 ih.2.2.1 ih.2.2.2.1 ih.2.2.2.2.1 ih.2.2.2.2.2.1 ih.2.2.2.2.2.2.1 ih.2.2.2.2.2.2.2.1 ih.2.2.2.2.2.2.2.2.1 ih.2.2.2.2.2.2.2.2.2.1 ih.2.2.2.2.2.2.2.2.2.2.1 ih.2.2.2.2.2.2.2.2.2.2.2,z155 m ih.1 ih.2.1 ih.2.2.1 ih.2.2.2.1 ih.2.2.2.2.1 ih.2.2.2.2.2.1 ih.2.2.2.2.2.2.1 ih.2.2.2.2.2.2.2.1 ih.2.2.2.2.2.2.2.2.1 ih.2.2.2.2.2.2.2.2.2.1 ih.2.2.2.2.2.2.2.2.2.2.1 ih.2.2.2.2.2.2.2.2.2.2.2,z1el m ih.1 ih.2.1 ih.2.2.1 ih.2.2.2.1 ih.2.2.2.2.1 ih.2.2.2.2.2.1 ih.2.2.2.2.2.2.1 ih.2.2.2.2.2.2.2.1 ih.2.2.2.2.2.2.2.2.1 ih.2.2.2.2.2.2.2.2.2.1 ih.2.2.2.2.2.2.2.2.2.2.1 ih.2.2.2.2.2.2.2.2.2.2.2,z1mw m ih.1 ih.2.1 ih.2.2.1 ih.2.2.2.1 ih.2.2.2.2.1 ih.2.2.2.2.2.1 ih.2.2.2.2.2.2.1 ih.2.2.2.2.2.2.2.1 ih.2.2.2.2.2.2.2.2.1 ih.2.2.2.2.2.2.2.2.2.1 ih.2.2.2.2.2.2.2.2.2.2.1 ih.2.2.2.2.2.2.2.2.2.2.2⟩
def zl5 : FnC Un:=fun args=>match args with
 | [x0,x1]=>(dS .wld x0).bind fun w=>(dS .rel x1).bind fun r=>some ([okRl w r],zt4 (z75 w r),zt5 (z75 w r))
 | _=>none
theorem z1r7 : FnOK 45 zl5:=by
 intro args ob rs os h hob
 unfold zl5 at h
 split at h
 ·simp only[Option.bind_eq_some_iff,Option.some.injEq,Prod.mk.injEq] at h
  obtain⟨w,e0,r,e1,rfl,rfl,rfl⟩:=h
  refine ((z13e (8*r.ht+7+1)).2.2.2.2.2.1) _ [8*r.ht+7<8*r.ht+7+1,okRl w r] _ _ (?_ : z1s (8*r.ht+7+1) _=some _) ?_
  ·unfold z1s
   simp only[e0,e1,Option.bind_some]
  ·intro p hp
   simp only[List.mem_cons,List.not_mem_nil,or_false] at hp
   rcases hp with rfl | rfl
   ·exact Nat.lt_succ_self _
   ·exact hob _ (List.mem_of_getElem? (i:=0) rfl)
 ·simp at h
end
end Go.Proofs.YtjfpbchdcbhfgaaGreat.B
