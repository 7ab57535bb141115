/- Part 16 of the proof: Lstx5 Lordr Lnord Snaive4 Snvspec Lnlb Lnlc Lbulkn BLaw. -/
import Derived.Sort.Statements
import Derived.Test.YtjfpbchdcbhfgaaGreatNsy15
set_option linter.unusedVariables false
set_option linter.unusedSimpArgs false
set_option linter.defProp false
set_option maxHeartbeats 4000000
namespace Go.Proofs.YtjfpbchdcbhfgaaGreat
namespace B
open Go Go.RowKit Go.Shelf Go.Lib Go.Sort
set_option maxRecDepth 1000000
set_option linter.unusedVariables false
noncomputable section
section
variable {α:Type} [Inhabited α]
def atl(enc:α→Value)(cf:α→α→Int)(g:Nat)(cb:Array Value)(blk off cap:Nat)(d0 d:Array α)(w0 w:World)
 (eg:∀args w,(callFunc g args).run Tryz.prog w=.ok (.enter g args) w)(hcmp:pC Tryz.prog g cb enc cf blk off d0.size w0)
 (R:Row1 enc w0 blk off d0)(hs:d0.size=d.size)(S:SX enc w0 blk off d w)(hsz:d.size<1152921504606846976):
 Calls Tryz.prog 145 #[.slice (some ⟨blk,off,none⟩) d.size cap,.func (.func g) #[] cb] w fun e w'=>e=.returned (.tuple #[])∧SX enc w0 blk off (oX (ltOf cf) d d.size) w':=by
 have H:=Lib.hid<|ati enc cf g cb blk off cap d0 d w0 w eg hcmp R hs S hsz;clear S hcmp;obtain⟨n,hn⟩:∃n,n=d.size:=⟨_,rfl⟩;rw[←hn]at H hsz ⊢;clear hn
 go_enter Tryz.func145,Tryz.ntmps145
 go_wp2_with (first
  |(go_at_call 191;refine H.out.mono ?_;rintro e1 w1 ⟨rfl,T⟩;have S1:=Lib.hid T;clear T)
  |fail)
 go_end0
 exact⟨rfl,S1.out⟩
end
def atm p(cap g:Nat) cb w:Calls Tryz.prog 226 #[.slice p 0 cap,.int .i64 0,.int .i64 0,.func (.func g) #[] cb] w fun e w'=>e=.returned (.tuple #[])∧w'=w:=by
 go_enter Tryz.func226,Tryz.ntmps226
 go_wp2_with fail
 go_loopg [8] 0 (fun kx s8 wr=>s8=.int .i64 1∧wr=w)
 case atStart=>exact⟨by go_num,rfl⟩
 case round=>
  obtain⟨rfl,rfl⟩:=hrel
  go_wp2_with fail
  go_end0
  exact⟨rfl,rfl⟩
def atn p(cap g:Nat) cb w:Calls Tryz.prog 191 #[.slice p 0 cap,.int .i64 0,.func (.func g) #[] cb] w fun e w'=>e=.returned (.tuple #[])∧w'=w:=by
 go_enter Tryz.func191,Tryz.ntmps191
 go_wp2_with fail
 go_loopg [7,8] 0 (fun kx s7 s8 wr=>s7=.int .i64 0∧s8=.int .i64 20∧wr=w)
 case atStart=>exact⟨by go_num,by go_num,rfl⟩
 case round=>
  obtain⟨rfl,rfl,rfl⟩:=hrel
  go_wp2_with (first
   |(go_at_call 226;refine(atm _ _ _ _ _).mono ?_;rintro e1 w1 ⟨rfl,rfl⟩)
   |fail)
  go_loopg [6,7,8,9] 0 (fun kx s6 s7 s8 s9 wr=>s6=.int .i64 20∧wr=w1)
  case atStart=>exact⟨by go_num,rfl⟩
  case round=>
   obtain⟨rfl,rfl⟩:=hrel
   go_wp2_with fail
   go_end0
   exact⟨rfl,rfl⟩
def ato p(cap g:Nat) cb w:Calls Tryz.prog 145 #[.slice p 0 cap,.func (.func g) #[] cb] w fun e w'=>e=.returned (.tuple #[])∧w'=w:=by
 go_enter Tryz.func145,Tryz.ntmps145
 go_wp2_with (first
  |(go_at_call 191;refine(atn _ _ _ _ _).mono ?_;rintro e1 w1 ⟨rfl,rfl⟩)
  |fail)
 go_end0
 exact⟨rfl,rfl⟩
def aa0{α}[Inhabited α]{enc w W b off}{d0 d:Array α}(hb:b<w.heap.size)(hH:Holds enc w b off d0)(hs:d.size=d0.size)(h:SX enc w b off d W):PutR w W b off (d.toList.map enc):=by
 have q:=aaZ (n:=0) (os:=#[]) hb hH hs;rw[grow_empty]at q;have q:PutR w (putRow enc w b off d) b off (d.toList.map enc):=q;refine⟨h.os.trans q.os,h.tape.trans q.tape,h.output.trans q.output,h.le,fun k hk hne=>(h.block k hk).trans<|q.block k hk hne,fun i v hv=>?_,fun p hp ho=>?_,fun p hp=>?_⟩
 ·exact(Below.cell h hb).trans<|q.cell i v hv
 ·exact(Below.cell h hp).trans<|q.other p hp ho
 ·exact(Kk<|h.block p.block hp).trans<|q.frozen p hp
def atp{w w'}(h:Ext w w'):Below w.heap.size w w':=⟨h.os,h.tape,h.output,h.size,fun k hk=>h.block hk⟩
def atq{α β} f(le:β→β→Bool) l(x:α):(dt (fun a b=>le (f a)<|f b) l x).map f=dt le (l.map f) (f x):=by
 unfold dt;rw[Gn,cL,List.takeWhile_map,List.dropWhile_map];rfl
def atr{α β} f(le:β→β→Bool)(l:List α):(bt (fun a b=>le (f a)<|f b) l).map f=bt le (l.map f):=by
 have key:∀(l s:List α),(l.foldl (dt fun a b=>le (f a)<|f b) s).map f=(l.map f).foldl (dt le) (s.map f):=by
  intro l
  induction l with
  |nil=>intro s;rfl
  |cons x l ih=>intro s;rw[yq,cL,yq,ih,atq]
 exact key l []
def aa1{St w v τ}{xs:List (Den τ)}(h:VRel En St w v (.dat (U:=Un) τ xs)):∃a n c,v=.slice a n c:=by
 rcases h.inv with⟨_,a,c,rfl⟩|⟨b,o,c,cv,rfl,_⟩
 ·exact⟨_,_,_,rfl⟩
 ·exact⟨_,_,_,rfl⟩
def ats{β:Type}(xs:List β):((List.finRange xs.length).map fun i=>xs[i.1]'i.2)=xs:=by
 apply List.ext_getElem
 ·simp
 ·intro i h1 h2;simp
def dr{β:Type}(p:β→β→Int)(a b:β):Bool:=!decide (p b a<0)
def Jh:mh Un:=fun τ xs args=>match τ,xs,args with
 | .row,xs,[x1]=>(dF x1).bind fun φ=>some ([xs.length≤1000000000,φ=iM (pY φ) (mr φ),(∀x∈xs,∀y∈xs,pY φ x y),Pre<|dr<|mr φ],bt (dr<|mr φ) xs)
 |_,_,_=>none
def att:px 145 Jh:=by
 intro τ xs ds ob ys h hob;unfold Jh at h;split at h
 ·rename_i xs x1;simp only[y6,y8,yi]at h;obtain⟨φ,e1,rfl,rfl⟩:=h;obtain rfl:=mv e1;have hlen:xs.length≤1000000000:=hob _ (by simp);have hφ:φ=iM (pY φ) (mr φ):=hob _ (by simp);have ho:∀x∈xs,∀y∈xs,pY φ x y:=hob _ (by simp);have hP:Pre (dr (mr φ)):=hob _ (by simp);generalize pY φ=o at hφ ho;generalize mr φ=p at hφ hP ⊢;refine⟨fun w g k ver live vs hO hown hvs hld hnl=>?_,zl Tryz.func145 (by kernel_rfl) (by kernel_rfl)⟩
  match vs,hvs with
  |[v1],⟨hv,_⟩=>
   obtain⟨f,caps,rfl,hbody,hg⟩:=hv;have hsl:(bt (dr p) xs).length=xs.length:=kK hP xs;by_cases hne:xs=[]
   ·subst hne;refine(ato (g.tk k).1 (g.tk k).2 f caps w).mono ?_;rintro e w' ⟨rfl,rfl⟩;exact⟨rfl,hsl,⟨rfl,rfl,rfl,y7 _,fun _ _ _=>rfl,fun _ _ _ _=>rfl,fun _ _ _ _=>rfl,hld,fun b hl=>hld.lt b hl,hnl⟩,hO⟩
   ·obtain⟨b,off,htk,hcap,hA⟩:=hO.open1 hne;have hpos:0<xs.length:=y21.2 hne;have hb:b<w.heap.size:=vz (hA.cell 0 0 hpos (show(0:Nat)<1 from Nat.one_pos)).1;have h0:(g.tk k).1=some ⟨b,off,none⟩:=by rw[htk]
    rw[h0];have hcl:∀i,i<xs.length→w.cell? ⟨b,off+i,none⟩=some ((w.cell? ⟨b,off+i,none⟩).getD undef)∧w.frozen? ⟨b,off+i,none⟩=false∧VRel En g.St w ((w.cell? ⟨b,off+i,none⟩).getD undef) (.dat (U:=Un) Ty.val (xs.getD i [])):=fun i hi=>by
     have hc:=hA.cell i 0 hi (show(0:Nat)<1 from Nat.one_pos);have hr:=hA.rel i hi 0 (.dat (U:=Un) Ty.val xs[i]) rfl;have e:off+i*Un.sz Ty.row+0=off+i:=by show off+i*1+0=off+i;omega
     rw[e]at hc hr;have hm:=hc.2.2 (yc _);refine⟨hc.1,?_,?_⟩
     ·exact yQ hm.2
     ·rw[yf,ya hi];exact hr
    haveI:Inhabited (Fin xs.length):=⟨⟨0,hpos⟩⟩
    let enc:Fin xs.length→Value:=fun i=>(w.cell? ⟨b,off+i.1,none⟩).getD undef;let cf:Fin xs.length→Fin xs.length→Int:=fun i j=>p (xs.getD i.1 []) (xs.getD j.1 []);let d:Array (Fin xs.length):=(List.finRange xs.length).toArray;have hds:d.size=xs.length:=by simp[d]
    have hdj:∀j(hj:j<xs.length),d[j]! =⟨j,hj⟩:=fun j hj=>by
     rw[getElem!_pos d j (by omega)];simp[d]
    have hH:Holds enc w b off d:=fun j hj=>by
     rw[hds]at hj;rw[hdj j hj];exact⟨(hcl j hj).1,(hcl j hj).2.1⟩
    have h1c:OneCell enc:=fun x=>by obtain⟨a,n,c,e⟩:=aa1 (hcl x.1 x.2).2.2;show(enc x).oneCell'=true;rw[show enc x=.slice a n c from e];rfl
    have R:Row1 enc w b off d:=⟨h1c,hH,hb⟩;have S0:SX enc w b off d w:=by unfold SX;rw[putRow_self enc w b off d hH];exact Below.refl _ _
    have hbnd:∀b o,g.St b o→b<w.heap.size:=fun b o h=>hown b o _ h;have hcmp:pC Tryz.prog f caps enc cf b off d.size w:=fun W dk hsz hW x y=>by
     have hpr:=aa0 hb hH hsz hW;have hdl:(dk.toList.map enc).length=xs.length:=by rw[yy,iz,hsz,hds]
     have hk:Keeps g.St w g.St W:=fun b' o hs=>⟨hs,hpr.other _ (hbnd b' o hs) (by
      by_cases e1:b'=b
      ·subst e1;by_cases e2:o<off
       ·exact .inl e2
       ·by_cases e3:off+xs.length≤o
        ·right;left;rw[hdl];exact e3
        ·exfalso;have hc:=(hA.cell (o- off) 0 (show o- off<xs.length by omega) (show(0:Nat)<1 from Nat.one_pos)).2.2 (yc _);have e:off+(o- off)*Un.sz Ty.row+0=o:=by show off+(o- off)*1+0=o;omega
         rw[e]at hc;have h9:g.ω b' o=some .st:=hs;rw[h9]at hc;simp at hc
      ·exact .inr (.inr e1))⟩
     have hldW:Laid W:=hld.on hW.le fun k hl=>hpr.block k (hld.lt k hl) fun e=>hnl k (off+0) hl (by
      have hc:=(hA.cell 0 0 hpos (show(0:Nat)<1 from Nat.one_pos)).2.2 (yc _)
      rw[e];simpa using hc.1)
     have hvx:=(hcl x.1 x.2).2.2.mono hk;have hvy:=(hcl y.1 y.2).2.2.mono hk;have hm:∀i:Fin xs.length,xs.getD i.1 []∈xs:=fun i=>by rw[yf,ya i.2];exact mc _
     refine(hg g.St W hk (fun b' o hs=>yu (hbnd b' o hs) hW.le) hldW [.v (.dat (U:=Un) Ty.val (xs.getD x.1 [])),.v (.dat (U:=Un) Ty.val (xs.getD y.1 []))] [o (xs.getD x.1 []) (xs.getD y.1 [])] [.v (.s (.int .i64 (cf x y)))]
      (by rw[hφ];unfold iM;simp only[zK,yj];rfl) (fun q hq=>by rw[yl.1 hq];exact ho _ (hm x) _ (hm y)) [enc x,enc y] ⟨hvx,hvy,trivial⟩).mono ?_
     rintro e w' ⟨v,rfl,⟨hx,St',-,-,hr⟩,-⟩;exact⟨by rw[show v=.int .i64 (cf x y)from(atk hr).1],atp hx⟩
    have eg:∀args W,(callFunc f args).run Tryz.prog W=.ok (.enter f args) W:=fun args W=>by
     obtain⟨fn,c,q1,q2,q3⟩:=hbody;have hn:fn.name≠ "runtime.NumGoroutine" :=by simpa using q3
     simp[callFunc,q1,q2,hn]
    have hle:∀x y:Fin xs.length,dr p (xs.getD x.1 []) (xs.getD y.1 [])=!ltOf cf y x:=fun x y=>rfl;have hPF:Pre fun x y:Fin xs.length=>dr p (xs.getD x.1 []) (xs.getD y.1 []):=⟨fun a b c=>hP.trans _ _ _,fun a b=>hP.total _ _⟩;have hst:=atf hle hPF d;have hmap:=atr (fun i:Fin xs.length=>xs.getD i.1 []) (dr p) (List.finRange xs.length);have hfm:((List.finRange xs.length).map fun i=>xs.getD i.1 [])=xs:=by
     have:=ats xs
     conv=>rhs;rw[←this]
     apply y3v;intro i _;rw[yf,ya i.2];rfl
    rw[hfm]at hmap;have hss:(oX (ltOf cf) d d.size).size=d.size:=by rw[←iz,hst,kK hPF,iz]
    have hw:=(atl enc cf f caps b off (g.tk k).2 d d w w eg hcmp R rfl S0 (by omega)).mono (fun e w' hq=>show e=.returned (.tuple #[])∧PutR w w' b off ((bt (fun x y:Fin xs.length=>dr p (xs.getD x.1 []) (xs.getD y.1 [])) d.toList).map enc) by
     have hp:=aa0 hb hH hss hq.2;rw[hst]at hp
     exact⟨hq.1,hp⟩)
    rw[hds]at hw;refine hw.mono ?_;rintro e w' ⟨rfl,hp⟩;have hul:((bt (fun x y:Fin xs.length=>dr p (xs.getD x.1 []) (xs.getD y.1 [])) d.toList).map enc).length=xs.length:=by rw[yy,kK hPF,iz,hds]
    obtain⟨r1,_⟩:=ObRel.put (w':=w') (ys:=bt (dr p) xs) (τ:=.row) rfl htk hb hown hA hp hul (by rw[hul,hsl];exact y7 _) hcap (by omega) (fun i hi dd hd=>by
     have hd':some (V.dat (U:=Un) Ty.val (bt (dr p) xs)[i])=some dd:=hd;cases hd';have hi2:i<(bt (fun x y:Fin xs.length=>dr p (xs.getD x.1 []) (xs.getD y.1 [])) d.toList).length:=by rw[yy]at hul;omega
     refine⟨enc (bt (fun x y:Fin xs.length=>dr p (xs.getD x.1 []) (xs.getD y.1 [])) d.toList)[i],by rw[dn,ya hi2];rfl,?_⟩;have h3:(bt (dr p) xs)[i]?=some (xs.getD ((bt (fun x y:Fin xs.length=>dr p (xs.getD x.1 []) (xs.getD y.1 [])) d.toList)[i]).1 []):=by
      rw[←hmap,dn];have:(List.finRange xs.length)=d.toList:=rfl;rw[this,ya hi2];rfl
     rw[ya hi]at h3;rw[yg h3]
     exact(hcl _ (Fin.isLt _)).2.2)
    refine⟨rfl,hsl,?_,r1⟩;refine FExt.put (fr:=⟨w,fun b i=>g.ω b i=some (.obj k),g.St,0,g.β⟩) hp (fun i hi=>?_) (by rw[hul];exact hpos) hld hnl;rw[hul]at hi;have hc:=(hA.cell i 0 hi (show(0:Nat)<1 from Nat.one_pos)).2.2 (yc _);have e:off+i*Un.sz Ty.row+0=off+i:=by show off+i*1+0=off+i;omega
    rw[e]at hc;exact hc.1
 ·simp at h
end
end B
namespace B
open Go Go.RowKit
set_option linter.unusedVariables false
def aa2:∀a b:List Val,cC b a=- cC a b
 |[],[]=>rfl
 |[],_::_=>rfl
 |_::_,[]=>rfl
 |a::l,b::r=>by
  simp only[cC];have h:=lJ a b;by_cases e:ordV a b=0
  ·rw[if_pos e,if_pos<|by omega];exact aa2 l r
  ·rw[if_neg e,if_neg<|by omega];exact h
def aa3:∀{a b c:List Val},cC a b<0→cC b c<0→cC a c<0
 |[],[],_,h,_=>by simp[cC]at h
 |[],_::_,[],_,h=>by simp[cC]at h
 |[],_::_,_::_,_,_=>by simp[cC]
 |_::_,[],_,h,_=>by simp[cC]at h
 |_::_,_::_,[],_,h=>by simp[cC]at h
 |a::l,b::r,c::t,h1,h2=>by
  simp only[cC]at h1 h2 ⊢;by_cases e1:ordV a b=0
  ·rw[if_pos e1]at h1;rw[ordV_zero]at e1;subst e1;by_cases e2:ordV a c=0
   ·rw[if_pos e2]at h2 ⊢;exact aa3 h1 h2
   ·rw[if_neg e2]at h2 ⊢;exact h2
  ·rw[if_neg e1]at h1;by_cases e2:ordV b c=0
   ·rw[ordV_zero]at e2;subst e2;rw[if_neg e1];exact h1
   ·rw[if_neg e2]at h2;have:=xm h1 h2;rw[if_neg<|by omega];exact this
def Of x y: -1≤cK x y∧cK x y≤1:=by unfold cK;split<;>(try split)<;>omega
def aa4:∀(a b:List UInt8),-1≤bF a b∧bF a b≤1
 |[],[]=>by simp[bF]
 |[],_::_=>by simp[bF]
 |_::_,[]=>by simp[bF]
 |a::l,b::r=>by
  rw[bF];split
  ·exact aa4 l r
  ·exact Of _ _
def aa5 a b: -1≤ordV a b∧ordV a b≤1:=by
 unfold ordV;split
 ·split
  ·exact aa4 _ _
  ·exact Of _ _
 ·exact Of _ _
def nL a b k:kc a b k=if k.down=true then- ordV (bR a k.at_) (bR b k.at_)else ordV (bR a k.at_) (bR b k.at_):=by
 have hb:=aa5 (bR a k.at_)<|bR b k.at_;unfold kc cO;rw[IntWalk.i64_in _<|by omega,Int.zero_sub]
def atu a b k:kc b a k=- kc a b k:=by
 rw[nL,nL,lJ<|bR a k.at_];split<;>omega
def kc_zero{a b k}:kc a b k=0↔bR a k.at_=bR b k.at_:=by
 rw[nL,←ordV_zero];split<;>omega
def atv{a b c k}(h1:kc a b k<0)(h2:kc b c k<0):kc a c k<0:=by
 rw[nL]at h1 h2 ⊢;split at h1
 ·rename_i hd;rw[if_pos hd]at h2 ⊢;have e1:=lJ (bR a k.at_) (bR b k.at_);have e2:=lJ (bR b k.at_) (bR c k.at_);have e3:=lJ (bR a k.at_) (bR c k.at_);have:=xm (show ordV (bR c k.at_) (bR b k.at_)<0 by omega) (show ordV (bR b k.at_) (bR a k.at_)<0 by omega);omega
 ·rename_i hd;rw[if_neg hd]at h2 ⊢;exact xm h1 h2
def atw{a b c k}(h:kc a b k=0):kc a c k=kc b c k:=by
 rw[nL,nL,kc_zero.1 h]
def atx{a b c k}(h:kc b c k=0):kc a c k=kc a b k:=by
 rw[nL,nL,kc_zero.1 h]
def Og a b:bT a b []=cC a b:=rfl
def xB a b k r:bT a b (k::r)=if kc a b k=0 then bT a b r else kc a b k:=by
 show(if(kc a b k !=0)=true then kc a b k else bT a b r)=_;by_cases h:kc a b k=0
 ·rw[if_neg<|by simp[h],if_pos h]
 ·rw[if_pos<|by simpa using h,if_neg h]
def Oh a b:∀keys:List By,bT b a keys=- bT a b keys
 |[]=>by rw[Og,Og];exact aa2 a b
 |k::r=>by
  rw[xB,xB,atu a b,Oh a b r];by_cases h:kc a b k=0
  ·rw[if_pos h,if_pos<|by omega]
  ·rw[if_neg h,if_neg<|by omega]
def aa6{a b}:∀{keys:List By},bT a b keys=0→a=b
 |[],h=>ordR_zero.1 h
 |k::r,h=>by
  rw[xB]at h;by_cases e:kc a b k=0
  ·rw[if_pos e]at h;exact aa6 h
  ·rw[if_neg e]at h;exact absurd h e
def aa7{a b c}:∀{keys:List By},bT a b keys<0→bT b c keys<0→bT a c keys<0
 |[],h1,h2=>aa3 h1 h2
 |k::r,h1,h2=>by
  rw[xB]at h1 h2 ⊢;by_cases e1:kc a b k=0
  ·rw[if_pos e1]at h1;rw[atw e1];by_cases e2:kc b c k=0
   ·rw[if_pos e2]at h2 ⊢;exact aa7 h1 h2
   ·rw[if_neg e2]at h2 ⊢;exact h2
  ·rw[if_neg e1]at h1;by_cases e2:kc b c k=0
   ·rw[atx e2,if_neg e1];exact h1
   ·rw[if_neg e2]at h2;have:=atv h1 h2;rw[if_neg<|by omega];exact this
def Oi(keys:List By):Pre (dr fun a b=>bT a b keys) where
 trans:=fun a b c h1 h2=>by
  have g1:¬bT b a keys<0:=by simpa[dr]using h1
  have g2:¬bT c b keys<0:=by simpa[dr]using h2
  have g3:¬bT c a keys<0:=by
   intro h;have e1:=Oh b a keys;by_cases e:bT b a keys=0
   ·have:=aa6 e;subst this;exact g2 h
   ·exact g2<|aa7 h<|show bT a b keys<0 by omega
  simpa[dr]using g3
 total:=fun a b=>by
  have:=Oh a b keys;by_cases h:bT b a keys<0
  ·right;have g:¬bT a b keys<0:=by omega
   simpa[dr]using g
  ·left;simpa[dr]using h
end B
namespace B
open Go Go.RowKit
set_option maxRecDepth 100000
noncomputable section
attribute [local irreducible] aB bk zw br aK b9 aR bu bA
def Q3:Mc Un:=az [] [] [(146,Fu)] [] [(145,Jh)]
def Fx(r:List (List Val)):List (A Un):=[.c<|.ob 0 0]
def aa8(r:List (List Val)):List (Bool×List (C Un)):=[]
def Fy(r:List (List Val)):List (Ob Un):=[⟨0,Ty.row,r,some 0,true⟩]
def aa9(r:List (List Val)):GD Un:=(Fx r,aa8 r,Fy r)
def aba(l:List (List Val))(keys:List By):Option (GD Un):=aR Q3 aN (zh Tryz.f93) (Dt Tryz.f93.ntmps 0 [.c<|.ob 0 0,.c<|.sl (U:=Un) Ty.by_ keys false] [] [⟨0,Ty.row,l,(some 0),true⟩])<|D2 Q3 0 Tryz.f93.results.toList [.m]
def aty(l keys):aba l keys=ae (l.length≤(1000000000:Nat)) (ae ((iM (fun a b=>True) fun a b=>bT a b keys)=iM (pY<|iM (fun a b=>True) fun a b=>bT a b keys) (mr<|iM (fun a b=>True) fun a b=>bT a b keys))<|ae (∀(x:Un.Den Ty.row),x∈l→∀(y:Un.Den Ty.row),y∈l→pY (iM (fun a b=>True) fun a b=>bT a b keys) x y)<|ae (Pre<|dr<|mr<|iM (fun a b=>True) fun a b=>bT a b keys)<|some<|aa9<|bt (dr<|mr<|iM (fun a b=>True) fun a b=>bT a b keys) l):=ah
def jK(l:List (List Val))(keys:List By):List (List Val):=bt (dr fun a b=>bT a b keys) l
def atz(l:List (List Val))(keys:List By)(_hl:WL .row l)(_hk:WL .by_ keys)(h:l.length≤100000000):aba l keys=some (aa9<|jK l keys):=by
 rw[aty];simp only[zys,zyr];rw[z6<|by omega,z6 trivial,z6 fun _ _ _ _=>trivial,z6<|Oi keys];rfl
def Q4:List Bool×fS Un:=([true,false],fun args bxs os=>match args,bxs,os with
 |[.c<|.ob 0 0,x1],[],[o0]=>(oM .row o0).bind fun l=>(aL .by_ x1).bind fun keys=>some ([l.length≤100000000],Fx<|jK l keys,aa8<|jK l keys,Fy<|jK l keys)
 |_,_,_=>none)
def atA:iv 93 Q4:=by
 intro args bxs os ob rs bxs' os' h hob;unfold Q4 at h;dsimp only at h;split at h
 ·rename_i x1 o0;simp only[y6,y8,yi]at h;obtain⟨l,e0,keys,e1,rfl,rfl,rfl,rfl⟩:=h;have q0:=DT e0;obtain rfl:=TA e1;refine⟨GContract.weak ?_,zl Tryz.func93 (by kernel_rfl)<|by kernel_rfl⟩;rw[q0];refine aiw (M:=Q3) rfl (nb:=0) rfl (cM (l1:=[]) (l2:=[]) (l3:=[(146,Fu)]) (l4:=[]) (l5:=[(145,Jh)]) trivial trivial ⟨asU,trivial⟩ trivial ⟨att,trivial⟩) Tryz.func93 (by kernel_rfl) aN 0 [.m] fun ha hb ho=>?_;have hsp:=atz l keys (aiv (τ:=.row) (l:=l) (fr:=some 0) ho<|by simp) (aiu ha (a:=.c<|.sl (U:=Un) Ty.by_ keys false)<|by simp)<|hob _<|y9 (i:=0) rfl;exact aiG (r:=(_,_,_)) hsp
 ·simp at h
def capQ{α:Type}(l:List α):Option (List α):=if l.length≤100000000 then some l else none
open Classical in
def kX{α:Type}(p:Prop)(o:Option α):Option α:=if p then o else none
def chkQ_some{α p o}{x:α}:kX p o=some x↔p∧o=some x:=by
 simp[kX]
def tF{α p}{o:Option α}(h:p):kX p o=o:=by unfold kX;grind
def dm{α β:Type}(f:α→Option β):List α→Option (List β)
 |[]=>some []
 |x::l=>(f x).bind fun y=>(dm f l).bind fun s=>some<|y::s
def gA{α:Type}(f:α→Option Bool):List α→Option (List α)
 |[]=>some []
 |x::l=>(f x).bind fun b=>(gA f l).bind fun s=>some<|if b=true then x::s else s
def lN(left:Bool)(none_:List Val)(f:List Val→Option Bool)(right:List (List Val)):List (List Val)→Option (List<|List Val)
 |[]=>some []
 |a::l=>(gA f<|right.map (a++·)).bind fun u=>(if u.length=0∧left=true then(if(a++none_).length≤100000000 then some [a++none_]else none)else some u).bind fun u=>(lN left none_ f right l).bind fun s=>some<|u++s
def dE(out:List Bunch)(key x:List Val):List Bunch:=match out.findIdx? (fun b=>dA b.key key==0)with
 |some i=>out.set i ⟨(out.getD i zu).key,(out.getD i zu).rows++[x]⟩
 |none=>out++[⟨key,[x]⟩]
def eZ(f:List Val→Option (List Val)):List (List Val)→List Bunch→Option (List Bunch)
 |[],out=>some out
 |x::l,out=>(f x).bind fun key=>eZ f l<|dE out key x
def fQ(inter:Bool):List (List Val)→List (List Val)→List (List Val)
 |[],_=>[]
 |x::l,left=>(if decide (0≤zj left x)=inter then[x]else[])++fQ inter l (if 0≤zj left x then left.eraseIdx (zj left x).toNat else left)
def kY(op:Int)(all:Bool)(a b:List (List Val)):List (List Val):=
 if op=9 then(if all=true then a else bV a)else fQ (decide<|op=10) (if all=true then a else bV a) b
def im(l:List (List Val))(limit skip:Int):List (List Val):=
 if 0≤limit∧limit<((l.drop (min skip l.length).toNat).length:Int)then(l.drop (min skip l.length).toNat).take limit.toNat else l.drop (min skip l.length).toNat
abbrev Rows:Type:=List<|List Val
def si(kid:Wld→Option Rows)(so:Wld→Option Bool)(w:Wld):Option Rows:=
 if w.env.length≤100000000 then(kid w).bind fun l=>gA (fun x=>so<|zp w x) l else none
def sj(kid:Wld→Option Rows)(ts:Wld→Option (List Val))(n:Nat)(w:Wld):Option Rows:=
 if w.env.length≤100000000∧n≤100000000 then(kid w).bind fun l=>dm (fun x=>ts<|zp w x) l else none
def sm(kid0 kid1:Wld→Option Rows)(so:Wld→Option Bool)(n cols:Nat)(left:Bool)(w:Wld):Option Rows:=
 if n<2 then some []else if w.env.length≤100000000∧cols≤100000000 then(kid1 w).bind fun right=>(kid0 w).bind fun l=>(lN left (List.replicate cols z7) (fun x=>if x.length≤100000000 then so (zp w x)else none) right l).bind capQ else none
def j6(ts:Wld→Option (List Val))(n:Nat)(w:Wld)(l:Rows):Option (List Bunch):=
 if w.env.length≤100000000∧n≤100000000∧l.length≤100000000 then eZ (fun x=>ts<|zp w x) l (if n=0 then[⟨[],[]⟩]else[])else none
def sn(kid:Wld→Option Rows)(ts:Wld→Option (List Val))(as_:Wld→Rows→Option (List Val))(n k:Nat)(w:Wld):Option Rows:=
 if k≤100000000 then(kid w).bind fun l=>(j6 ts n w l).bind fun bs=>(dm (fun b=>(as_ w b.rows).bind fun vs=>some<|b.key++vs) bs)else none
def sq(kid0 kid1:Wld→Option Rows)(op:Int)(all:Bool)(w:Wld):Option Rows:=
 (kid0 w).bind fun a=>(kid1 w).bind fun b=>(if op=9 then capQ (a++b)else some a).bind fun a=>some<|kY op all a b
mutual
def nT:Term→Wld→Option Val
 | .mk op v depth at_ name kids sub type,w=>
  if op=1∨op=2 then kX ((Term.mk op v depth at_ name kids sub type).sz≤2000000∧dZ (.mk op v depth at_ name kids sub type)∧cT w.env) (some<|il (.mk op v depth at_ name kids sub type) w.env)
  else if op=26 then(kZ sub w).bind fun l=>some<|if l.length=1∧0<(l.getD 0 []).length then(l.getD 0 []).getD 0 z7 else z7
  else if op=27 then(kZ sub w).bind fun l=>some<|cE<|decide<|0<l.length
  else if op=28 then(if kids.length=0 then some z7 else(tG kids w).bind fun v=>(kZ sub w).bind fun l=>some<|xy v l)
  else if kids.length≤2000000 then(b8 kids w).bind fun l=>kX (dY l)<|some<|cJ op name l
  else none
def tG:List Term→Wld→Option Val
 |[],_=>some z7
 |t::_,w=>nT t w
def b8:List Term→Wld→Option (List Val)
 |[],_=>some []
 |t::l,w=>(nT t w).bind fun v=>(b8 l w).bind fun s=>some<|v::s
def cF:List Term→Wld→Option Bool
 |[],_=>some true
 |t::l,w=>(nT t w).bind fun v=>if dN v=2 then cF l w else some false
def kZ:List Rel→Wld→Option Rows
 |[],_=>some []
 |r::_,w=>nR r w
def bc:List Rel→Nat→Wld→Option Rows
 |[],_,_=>some []
 |r::_,0,w=>nR r w
 |_::l,n+1,w=>bc l n w
def nA:Agg→Wld→Rows→Option Val
 | .mk name distinct t,w,rows=>if w.env.length≤100000000 then(dm (fun x=>tG t<|zp w x) rows).bind fun l=>(if l.length≤400000 then some (gx (.mk name distinct t) l)else none)else none
def lO:List Agg→Wld→Rows→Option (List Val)
 |[],_,_=>some []
 |a::l,w,rows=>(nA a w rows).bind fun v=>(lO l w rows).bind fun s=>some<|v::s
def nR:Rel→Wld→Option Rows
 | .mk op table cols kids terms aggs keys limit skip all rows,w=>
  (if op=1 then kX (sh w.db) (some (lM w table))
   else if op=2 then some rows
   else if op=3 then si (fun w=>bc kids 0 w) (fun w=>cF terms w) w
   else if op=4 then sj (fun w=>bc kids 0 w) (fun w=>b8 terms w) terms.length w
   else if op=5∨op=6 then sm (fun w=>bc kids 0 w) (fun w=>bc kids 1 w) (fun w=>cF terms w) kids.length (kids.getD 1 za).cols.length (decide<|op=6) w
   else if op=7 then sn (fun w=>bc kids 0 w) (fun w=>b8 terms w) (fun w l=>lO aggs w l) terms.length aggs.length w
   else if op=8 then(bc kids 0 w).bind fun l=>some<|bV l
   else if op=9∨op=10∨op=11 then sq (fun w=>bc kids 0 w) (fun w=>bc kids 1 w) op all w
   else if op=12 then(bc kids 0 w).bind fun l=>some<|jK l keys
   else if op=13 then(bc kids 0 w).bind fun l=>some<|im l limit skip
   else some []).bind capQ
end
def uZ t w:nT t w=if t.op=1∨t.op=2 then kX (t.sz≤2000000∧dZ t∧cT w.env) (some<|il t w.env)
 else if t.op=26 then(kZ t.sub w).bind fun l=>some<|if l.length=1∧0<(l.getD 0 []).length then(l.getD 0 []).getD 0 z7 else z7
 else if t.op=27 then(kZ t.sub w).bind fun l=>some<|cE<|decide<|0<l.length
 else if t.op=28 then(if t.kids.length=0 then some z7 else(tG t.kids w).bind fun v=>(kZ t.sub w).bind fun l=>some<|xy v l)
 else if t.kids.length≤2000000 then(b8 t.kids w).bind fun l=>kX (dY l)<|some<|cJ t.op t.name l
 else none:=by cases t;rfl
theorem u7 r w:nR r w=(if r.op=1 then kX (sh w.db) (some (lM w r.table))
 else if r.op=2 then some r.rows
 else if r.op=3 then si (fun w=>bc r.kids 0 w) (fun w=>cF r.terms w) w
 else if r.op=4 then sj (fun w=>bc r.kids 0 w) (fun w=>b8 r.terms w) r.terms.length w
 else if r.op=5∨r.op=6 then sm (fun w=>bc r.kids 0 w) (fun w=>bc r.kids 1 w) (fun w=>cF r.terms w) r.kids.length (r.kids.getD 1 za).cols.length (decide<|r.op=6) w
 else if r.op=7 then sn (fun w=>bc r.kids 0 w) (fun w=>b8 r.terms w) (fun w l=>lO r.aggs w l) r.terms.length r.aggs.length w
 else if r.op=8 then(bc r.kids 0 w).bind fun l=>some<|bV l
 else if r.op=9∨r.op=10∨r.op=11 then sq (fun w=>bc r.kids 0 w) (fun w=>bc r.kids 1 w) r.op r.all w
 else if r.op=12 then(bc r.kids 0 w).bind fun l=>some<|jK l r.keys
 else if r.op=13 then(bc r.kids 0 w).bind fun l=>some<|im l r.limit r.skip
 else some []).bind capQ:=by cases r;rfl
theorem Fz l w:kZ l w=if l.length=0 then some []else nR (l.getD 0 za) w:=by
 cases l with
 |nil=>rfl
 |cons r l=>rfl
def sr l w:tG l w=if l.length=0 then some z7 else nT (l.getD 0 zb) w:=by
 cases l with
 |nil=>rfl
 |cons r l=>rfl
theorem AF w:∀(l:List Rel)(n:Nat),bc l n w=if n<l.length then nR (l.getD n za) w else some []
 |[],n=>by rfl
 |r::l,0=>by rfl
 |_::l,n+1=>by rw[bc,AF w l n];simp
theorem ss w:∀l:List Term,b8 l w=dm (fun t=>nT t w) l
 |[]=>by rfl
 |t::l=>by simp only[b8,dm,ss w l]
theorem FA w rows:∀l:List Agg,lO l w rows=dm (fun a=>nA a w rows) l
 |[]=>by rfl
 |t::l=>by simp only[lO,dm,FA w rows l]
def Oj a w rows:nA a w rows=if w.env.length≤100000000 then(dm (fun x=>tG a.t<|zp w x) rows).bind fun l=>(if l.length≤400000 then some (gx a l)else none)else none:=by cases a;rfl
def xC(w:Wld)(t:Term):Prop:=∃v,nT t w=some v
def AG(w:Wld)(l:List Term):Prop:=l.length≤100000000∧∃v,b8 l w=some v
def AH(w:Wld)(t:Term):Prop:=∃v,kZ t.sub w=some v
def FB(w:Wld)(l:List Term)(x:List Val):Prop:=w.env.length≤100000000∧∃v,cF l (zp w x)=some v
def i9(w:Wld)(r:Rel)(n:Int):Prop:=0≤n∧∃v,bc r.kids n.toNat w=some v
def ix(w:Wld)(r:Rel):Prop:=∃v,nR r w=some v
def FC(w:Wld)(r:Rel):Option Rows:=si (fun w=>bc r.kids 0 w) (fun w=>cF r.terms w) w
def FD(w:Wld)(r:Rel):Option Rows:=sj (fun w=>bc r.kids 0 w) (fun w=>b8 r.terms w) r.terms.length w
def u9(w:Wld)(r:Rel):Option Rows:=sm (fun w=>bc r.kids 0 w) (fun w=>bc r.kids 1 w) (fun w=>cF r.terms w) r.kids.length (r.kids.getD 1 za).cols.length (decide<|r.op=6) w
def su(w:Wld)(r:Rel):Option Rows:=sn (fun w=>bc r.kids 0 w) (fun w=>b8 r.terms w) (fun w l=>lO r.aggs w l) r.terms.length r.aggs.length w
def FE(w:Wld)(r:Rel):Option Rows:=sq (fun w=>bc r.kids 0 w) (fun w=>bc r.kids 1 w) r.op r.all w
def Ok(w:Wld)(rows:Rows)(terms:List Term):Option (List Bunch):=j6 (fun w=>b8 terms w) terms.length w rows
def Ol(w:Wld)(r:Rel):Prop:=∃v,FC w r=some v
def Om(w:Wld)(r:Rel):Prop:=∃v,FD w r=some v
def FF(w:Wld)(r:Rel):Prop:=∃v,u9 w r=some v
def On(w:Wld)(r:Rel):Prop:=∃v,su w r=some v
def AI(w:Wld)(r:Rel):Prop:=∃v,FE w r=some v
def Oo(w:Wld)(rows:Rows)(terms:List Term):Prop:=∃v,Ok w rows terms=some v
def kL(w:Wld)(t:Term):Val:=(nT t w).getD z7
def ja(w:Wld)(l:List Term):List Val:=(b8 l w).getD []
def jL(w:Wld)(t:Term):Rows:=(kZ t.sub w).getD []
def kM(w:Wld)(l:List Term)(x:List Val):Bool:=(cF l<|zp w x).getD false
def bC(w:Wld)(r:Rel)(n:Int):Rows:=(bc r.kids n.toNat w).getD []
def lP(w:Wld)(r:Rel):Rows:=(nR r w).getD []
def tH(w:Wld)(r:Rel):Rows:=(FC w r).getD []
def tI(w:Wld)(r:Rel):Rows:=(FD w r).getD []
def lQ(w:Wld)(r:Rel):Rows:=(u9 w r).getD []
def m8(w:Wld)(r:Rel):Rows:=(su w r).getD []
def oY(w:Wld)(r:Rel):Rows:=(FE w r).getD []
def dG(w:Wld)(rows:Rows)(terms:List Term):List Bunch:=(Ok w rows terms).getD []
theorem qO{α}{l s:List α}(h:capQ l=some s):l=s∧s.length≤100000000:=by
 unfold capQ at h;grind
def abb{r w l}(h:nR r w=some l):l.length≤100000000:=by
 grind[u7,Option.bind_eq_some_iff,qO]
def m9{l n w s}(h:bc l n w=some s):s.length≤100000000:=by
 rw[AF]at h;split at h
 ·exact abb h
 grind
def CL{α β f x}{l:List α}{s:List β}(h:dm f (x::l)=some s):∃y r,f x=some y∧dm f l=some r∧s=y::r:=by
 grind[dm,Option.bind_eq_some_iff,Option.some.injEq]
theorem xD{α β f}:∀{l:List α}{s:List β},dm f l=some s→s.length=l.length
 |[],s,h=>by simp_all[dm,y8]
 |x::l,s,h=>by
  obtain⟨y,r,_,h2,rfl⟩:=CL h;rw[yz,yz,xD h2]
def AJ{α β f}:∀{l:List α}{s:List β},dm f l=some s→∀x∈l,∃y,f x=some y
 |x::l,s,h,z,hz=>by
  obtain⟨y,r,h1,h2,rfl⟩:=CL h;rcases yh.1 hz with rfl|hz
  ·grind
  ·exact AJ h2 z hz
def AK{α β f} g:∀{l:List α}{s:List β},dm f l=some s→(∀x∈l,∀y,f x=some y→g x=y)→l.map g=s
 |[],s,h,_=>by simp_all[dm,y8]
 |x::l,s,h,hg=>by
  obtain⟨y,r,h1,h2,rfl⟩:=CL h;rw[cL,hg x cP y h1,AK g h2 fun z hz=>hg z<|cV _ hz]
def Oq{α f x}{l s:List α}(h:gA f (x::l)=some s):∃b r,f x=some b∧gA f l=some r∧s=if b=true then x::r else r:=by
 grind[gA,Option.bind_eq_some_iff,Option.some.injEq]
def abc{α f}:∀{l s:List α},gA f l=some s→∀x∈l,∃b,f x=some b
 |x::l,s,h,z,hz=>by
  obtain⟨y,r,h1,h2,rfl⟩:=Oq h;rcases yh.1 hz with rfl|hz
  ·grind
  ·exact abc h2 z hz
def Ot{α f}(g:α→Bool):∀{l s:List α}(o:List α),gA f l=some s→(∀x∈l,∀b,f x=some b→g x=b)→l.foldl (fun o x=>if g x=true then o++[x]else o) o=o++s
 |[],s,o,h,_=>by simp_all[gA,y8]
 |x::l,s,o,h,hg=>by
  obtain⟨b,r,h1,h2,rfl⟩:=Oq h;rw[yq,hg x cP b h1,Ot g _ h2 fun z hz=>hg z<|cV _ hz];grind
def abd{f N}:∀{l:Rows}{out bs:List Bunch},(∀x∈l,∀key,f x=some key→key.length≤N)→(∀b∈out,b.key.length≤N)→eZ f l out=some bs→(∀b∈bs,b.key.length≤N)∧bs.length≤out.length+l.length
 |[],out,bs,_,ho,h=>by
  simp_all[eZ,y8]
 |x::l,out,bs,hf,ho,h=>by
  simp only[eZ,y6]at h;obtain⟨key,h1,h2⟩:=h;have hb:(∀b∈dE out key x,b.key.length≤N)∧(dE out key x).length≤out.length+1:=by
   unfold dE;split
   ·rename_i i hi;have hil:=(y27.1 hi).1;grind
   grind
  obtain⟨g1,g2⟩:=abd (fun z hz=>hf z<|cV _ hz) hb.1 h2;grind
def atB{l w s}(h:b8 l w=some s):s.length=l.length:=by grind[ss,xD]
def Ou{terms w l bs}(h:j6 (fun w=>b8 terms w) terms.length w l=some bs):(w.env.length≤100000000∧terms.length≤100000000∧l.length≤100000000)∧(∀b∈bs,b.key.length≤terms.length)∧bs.length≤l.length+1:=by
 unfold j6 at h;split at h
 ·obtain⟨g1,g2⟩:=abd (N:=terms.length) (fun x _ key hk=>by rw[atB hk];simp) (fun b hb=>by
   grind) h
  grind
 grind
def Ov{f}:∀{l:Rows}{out bs:List Bunch}{N:Nat},(∀b∈out,b.rows.length≤N)→eZ f l out=some bs→∀b∈bs,b.rows.length≤N+l.length
 |[],out,bs,N,ho,h=>by
  simp_all[eZ,y8]
 |x::l,out,bs,N,ho,h=>by
  simp only[eZ,y6]at h;obtain⟨key,h1,h2⟩:=h;have hb:∀b∈dE out key x,b.rows.length≤N+1:=by
   unfold dE;split
   ·rename_i i hi;have hil:=(y27.1 hi).1;grind
   grind
  intro b hbm;have:=Ov hb h2 b hbm;grind
def atC{terms w l bs}(h:j6 (fun w=>b8 terms w) terms.length w l=some bs) j(hj:j<bs.length):(bs.getD j zu).rows.length≤100000000:=by
 unfold j6 at h;split at h
 ·have:=Ov (N:=0) (fun b hb=>by
   grind) h _ (cG (d:=zu) hj)
  omega
 grind
end
end B
namespace B
open Go Go.RowKit
def tJ{α β f}{P:β→Prop}:∀(l:List α),(∀x∈l,∃y,f x=some y∧P y)→∃s,dm f l=some s∧s.length=l.length∧∀y∈s,P y
 |[],_=>⟨[],rfl,rfl,fun y hy=>absurd hy<|by simp⟩
 |x::l,h=>by
  obtain⟨y,h1,h2⟩:=h x cP;obtain⟨s,h3,h4,h5⟩:=tJ (P:=P) l fun z hz=>h z<|cV _ hz;refine⟨y::s,by simp only[dm,h1,h3,yj],by simp only[yz,h4],fun z hz=>?_⟩;rcases yh.1 hz with rfl|hz
  ·exact h2
  ·exact h5 z hz
def Ow{α f}:∀(l:List α),(∀x∈l,∃b,f x=some b)→∃s,gA f l=some s∧s.length≤l.length∧∀y∈s,y∈l
 |[],_=>⟨[],rfl,y7 _,fun y hy=>hy⟩
 |x::l,h=>by
  obtain⟨b,h1⟩:=h x cP;obtain⟨s,h3,h4,h5⟩:=Ow l fun z hz=>h z<|cV _ hz;refine⟨if b=true then x::s else s,by simp_all[gA,yj],by grind,fun z hz=>?_⟩;grind
def abe{left nn f}{right:Rows}:∀(l:Rows),(∀a∈l,(∀b∈right,∃c,f (a++b)=some c)∧(a++nn).length≤100000000)→
 ∃s,lN left nn f right l=some s∧s.length≤l.length*max right.length 1∧∀x∈s,∃a∈l,∃b,(b∈right∨b=nn)∧x=a++b
 |[],_=>⟨[],rfl,by simp,fun x hx=>absurd hx<|by simp⟩
 |a::l,h=>by
  obtain⟨h1,h2⟩:=h a cP;obtain⟨u,g1,g2,g3⟩:=Ow (f:=f) (right.map (a++·)) fun x hx=>by
   grind
  obtain⟨s,k1,k2,k3⟩:=abe (left:=left) (nn:=nn) (f:=f) (right:=right) l fun z hz=>h z<|cV _ hz
  have key:∀v:Rows,(if u.length=0∧left=true then(if(a++nn).length≤100000000 then some [a++nn]else none)else some u)=some v→v.length≤max right.length 1→(∀x∈v,∃b,(b∈right∨b=nn)∧x=a++b)→
   ∃s,lN left nn f right (a::l)=some s∧s.length≤(a::l).length*max right.length 1∧∀x∈s,∃a'∈a::l,∃b,(b∈right∨b=nn)∧x=a'++b:=fun v hv hl hm=>by
   refine⟨v++s,by simp_all[lN,yj],?_,fun x hx=>?_⟩
   ·rw[yb,yz,Nat.succ_mul];omega
   ·rcases ye.1 hx with hx|hx
    ·obtain⟨b,q1,q2⟩:=hm x hx;exact⟨a,cP,b,q1,q2⟩
    ·obtain⟨a',q0,q⟩:=k3 x hx;exact⟨a',cV _ q0,q⟩
  grind
def abf{f}{K:List Val→Prop}{M:Rows}:∀(l:Rows)(out:List Bunch),(∀x∈l,x∈M∧∃k,f x=some k∧K k)→(∀b∈out,K b.key∧∀x∈b.rows,x∈M)→
 ∃bs,eZ f l out=some bs∧bs.length≤out.length+l.length∧∀b∈bs,K b.key∧∀x∈b.rows,x∈M
 |[],out,_,ho=>⟨out,rfl,by simp,ho⟩
 |x::l,out,h,ho=>by
  obtain⟨hx,k,h1,h2⟩:=h x cP;have hb:(dE out k x).length≤out.length+1∧∀b∈dE out k x,K b.key∧∀x∈b.rows,x∈M:=by
   unfold dE;split
   ·rename_i i hi;have hil:=(y27.1 hi).1;grind
   grind
  obtain⟨bs,g1,g2,g3⟩:=abf (f:=f) (K:=K) (M:=M) l (dE out k x) (fun z hz=>h z<|cV _ hz) hb.2;exact⟨bs,by simp only[eZ,h1,yj,g1],by rw[yz];omega,g3⟩
def abg{f}:∀(l:Rows)(b:Bunch),(∀x∈l,f x=some [])→b.key=[]→∃b',eZ f l [b]=some [b']
 |[],b,_,_=>⟨b,rfl⟩
 |x::l,b,h,hb=>by
  have e:dE [b] [] x=[⟨[],b.rows++[x]⟩]:=by
   unfold dE;have:[b].findIdx? (fun b=>dA b.key []==0)=some 0:=by rw[nQ,if_pos (by rw[hb];rfl)]
   grind
  obtain⟨b',hb'⟩:=abg l ⟨[],b.rows++[x]⟩ (fun z hz=>h z<|cV _ hz) rfl;simp_all[eZ,cP,yj]
theorem abh:∀(l o:Rows),(l.foldl (fun o x=>if zj o x<0 then o++[x]else o) o).length≤o.length+l.length∧∀x∈l.foldl (fun o x=>if zj o x<0 then o++[x]else o) o,x∈o∨x∈l
 |[],o=>⟨by simp,fun x hx=>.inl hx⟩
 |y::l,o=>by
  obtain⟨h1,h2⟩:=abh l<|if zj o y<0 then o++[y]else o;grind
theorem Ji(l:Rows):(bV l).length≤l.length∧∀x∈bV l,x∈l:=by
 grind[abh,bV]
theorem abi inter:∀(a b:Rows),(fQ inter a b).length≤a.length∧∀x∈fQ inter a b,x∈a
 |[],b=>⟨y7 _,fun x hx=>hx⟩
 |y::l,b=>by
  simp only[fQ];obtain⟨h1,h2⟩:=abi inter l<|if 0≤zj b y then b.eraseIdx (zj b y).toNat else b;grind
def atD op all(a b:Rows):(kY op all a b).length≤a.length∧∀x∈kY op all a b,x∈a:=by
 have h:(if all=true then a else bV a).length≤a.length∧∀x∈(if all=true then a else bV a),x∈a:=by
  split
  all_goals simp_all[y7,Ji]
 grind[kY,abi,decide,bV,Nat.le_trans]
def atE(l:Rows) limit skip:(im l limit skip).length≤l.length∧∀x∈im l limit skip,x∈l:=by
 grind[im,List.length_take,List.length_drop,List.mem_of_mem_drop,List.mem_of_mem_take]
def atF(l:Rows) keys:(jK l keys).length≤l.length∧∀x∈jK l keys,x∈l:=
 ⟨Nat.le_of_eq<|kK (Oi keys) l,fun _ hx=>(aaK (Oi keys) l).mem_iff.1 hx⟩
mutual
def qP:Term→Prop
 | .mk _ v _ _ _ kids sub _=>ba v∧ma kids∧sv sub
def ma:List Term→Prop
 |[]=>True
 |t::l=>qP t∧ma l
def txA:Agg→Prop
 | .mk _ _ t=>ma t
def AL:List Agg→Prop
 |[]=>True
 |a::l=>txA a∧AL l
def nc:Rel→Prop
 | .mk _ _ _ kids terms aggs _ _ _ _ rows=>sv kids∧ma terms∧AL aggs∧cT rows
def sv:List Rel→Prop
 |[]=>True
 |r::l=>nc r∧sv l
end
def FH:∀{l:List Term},ma l→∀t∈l,qP t
 |x::l,h,t,ht=>by
  rcases yh.1 ht with rfl|ht
  ·exact h.1
  ·exact FH h.2 t ht
def Ox:∀{l:List Rel},sv l→∀t∈l,nc t
 |x::l,h,t,ht=>by
  rcases yh.1 ht with rfl|ht
  ·exact h.1
  ·exact Ox h.2 t ht
def abj:∀{l:List Agg},AL l→∀a∈l,ma a.t
 | .mk _ _ t::l,h,a,ha=>by
  rcases yh.1 ha with rfl|ha
  ·exact h.1
  ·exact abj h.2 a ha
def abk t:qP t↔(ba t.v∧ma t.kids∧sv t.sub):=by cases t;rfl
def Oy r:nc r↔(sv r.kids∧ma r.terms∧AL r.aggs∧cT r.rows):=by cases r;rfl
mutual
def Oz:∀t:Term,qP t→dZ t
 | .mk _ _ _ _ _ kids _ _,h=>⟨h.1,abl kids h.2.1⟩
def abl:∀l:List Term,ma l→nI l
 |[],_=>trivial
 |t::l,h=>⟨Oz t h.1,abl l h.2⟩
end
def CM{t}:∀{l:List Agg},t∈ei l→∃a∈l,t∈a.t
 |a::l,h=>by
  rcases ye.1 h with h|h
  ·grind
  ·obtain⟨b,h1,h2⟩:=CM h;grind
def atG{r}(h:nc r):∀t∈cw r,qP t:=by
 obtain⟨_,h2,h3,_⟩:=(Oy r).1 h;intro t ht;rcases ye.1 ht with ht|ht
 ·exact FH h2 t ht
 ·obtain⟨a,ha,hta⟩:=CM ht;exact FH (abj h3 a ha) t hta
def oZ(x:Acc):Prop:=ba x.v∧∀v∈x.l,ba v
def atH a:oZ (cn a):=by
 unfold cn
 repeat' split
 all_goals exact⟨gv,fun v hv=>absurd hv<|by simp⟩
theorem abm{x v}(h:oZ x)(hv:ba v):oZ (fY x v):=by
 unfold fY
 repeat' split
 all_goals first|exact⟨h.1,h.2⟩|exact⟨hv,h.2⟩
def atI{x v}(h:oZ x)(hv:ba v):oZ (i8 x v):=by
 unfold i8;split
 ·split
  ·refine⟨h.1,fun w hw=>?_⟩;unfold nJ at hw;split at hw
   ·exact h.2 w hw
   ·rcases ye.1 hw with hw|hw
    ·exact h.2 w<|y3g hw
    ·rcases yh.1 hw with rfl|hw
     ·omega
     ·exact h.2 w<|A5 hw
  grind[abm]
 omega
def OA{f}(hf:∀{x v},oZ x→ba v→oZ (f x v)):∀(l:List Val)(x:Acc),oZ x→(∀v∈l,ba v)→oZ (l.foldl f x)
 |[],_,h,_=>h
 |v::l,x,h,hl=>OA hf l (f x v) (hf h<|hl v cP) fun w hw=>hl w<|cV _ hw
def atJ n:ba (sd n):=yc _
def atK a{l}(h:∀v∈l,ba v):ba (gx a l):=by
 rw[NW];have h1:=OA (fun h hv=>atI h hv) l (cn a) (atH a) h;unfold pB se;generalize hx:l.foldl i8 (cn a)=x at*;have h2:=OA (fun h hv=>abm h hv) x.l x h1 h1.2;unfold AA Az
 repeat' split
 all_goals first|exact atJ _|exact gv|exact h2.1
structure DbG(db:List Data):Prop where
 ok:sh db
 rows:jG db≤2000000
 tx:∀d∈db,cT d.rows
structure Fine(db:List Data)(r:Rel)(l:Rows):Prop where
 short:cT l
 wide:∀x∈l,(x.length:Int)=bQ r
 few:(l.length:Int)≤(bd db r).1
structure GoT(db:List Data)(t:Term)(env:List Int)(w:Wld):Prop where
 v:km t env=true
 fit:eR db t=true
 sz:t.sz≤2000000
 cl:lw t≤2000000
 tx:qP t
 wgh:dH db t≤20000
 db:w.db=db
 env:cT w.env
 deep:w.env.length+t.ht≤8000000
structure GoR(db:List Data)(r:Rel)(env:List Int)(w:Wld):Prop where
 v:ll r env=true
 fit:jn db r=true
 sz:r.sz≤2000000
 cl:dC r≤2000000
 tx:nc r
 wgh:(bd db r).2≤20000
 db:w.db=db
 env:cT w.env
 deep:w.env.length+r.ht≤8000000
def CN(db:List Data)(n:Nat):Prop:=∀(t:Term)(env:List Int)(w:Wld),t.ht<n→GoT db t env w→∃v,nT t w=some v∧ba v
def xE(db:List Data)(n:Nat):Prop:=∀(r:Rel)(env:List Int)(w:Wld),r.ht<n→GoR db r env w→∃l,nR r w=some l∧Fine db r l
def atL{l:Rows}(h:cT l) i:∀v∈l.getD i [],ba v:=fun v hv=>by
 by_cases hi:i<l.length
 ·exact h _ (cG hi) v hv
 grind
def GoT.kid{db:List Data}(G:DbG db){t k:Term}{env:List Int}{w:Wld}(h:GoT db t env w)(hk:k∈t.kids):GoT db k env w where
 v:=(Nk h.v).2.1 k hk
 fit:=by have:=h.fit;rw[MJ,yp,y1b]at this;grind
 sz:=by have:=oq hk;have:=h.sz;omega
 cl:=by have:=ta hk;have:=M3 t;have:=h.cl;omega
 tx:=FH ((abk t).1 h.tx).2.1 k hk
 wgh:=(XO G.rows h.sz h.wgh).1 k hk
 db:=h.db
 env:=h.env
 deep:=by have:=Term.ht_kid hk;have:=h.deep;omega
def GoT.subq{db:List Data}(G:DbG db){t:Term}{k:Rel}{env:List Int}{w:Wld}(h:GoT db t env w)(hk:k∈t.sub):GoR db k env w where
 v:=(Nk h.v).2.2 k hk
 fit:=by have:=h.fit;rw[MJ,yp,y1b,y1b]at this;grind
 sz:=by have:=ot hk;have:=h.sz;omega
 cl:=by have:=qq hk;have:=M3 t;have:=h.cl;omega
 tx:=Ox ((abk t).1 h.tx).2.2 k hk
 wgh:=(XO G.rows h.sz h.wgh).2 k hk
 db:=h.db
 env:=h.env
 deep:=by have:=Term.ht_sub hk;have:=h.deep;omega
def GoR.kid{db:List Data}(G:DbG db){r k:Rel}{env:List Int}{w:Wld}(h:GoR db r env w)(hop:r.op≠1)(hk:k∈r.kids):GoR db k env w where
 v:=(fI h.v).2.1 k hk
 fit:=by have:=h.fit;rw[Ex,if_neg hop,yp,y1b]at this;grind
 sz:=by have:=hU hk;have:=h.sz;omega
 cl:=by have:=qq hk;have:=lx r;have:=h.cl;omega
 tx:=Ox ((Oy r).1 h.tx).1 k hk
 wgh:=(EM G.rows h.sz h.wgh).1 k hk
 db:=h.db
 env:=h.env
 deep:=by have:=Rel.ht_kid hk;have:=h.deep;omega
def GoR.term{db:List Data}(G:DbG db){r:Rel}{t:Term}{env:List Int}{w:Wld}(h:GoR db r env w)(hop:r.op≠1)(hi:1≤(bK db r).1)(ht:t∈cw r){x:List Val}(hx:∀v∈x,ba v):GoT db t (fg r::env) (zp w x) where
 v:=by
  obtain⟨_,_,_,h1,h2,_⟩:=fI h.v;rcases ye.1 ht with ht|ht
  ·exact h1 t ht
  ·obtain⟨a,ha,hta⟩:=CM ht;exact h2 a ha t hta
 fit:=by
  have:=h.fit;rw[Ex,if_neg hop,yp,yp,y1b,y1b,y1b]at this;rcases ye.1 ht with ht|ht
  ·exact this.2.1 t ht
  ·obtain⟨a,ha,hta⟩:=CM ht;exact y1b.1 (this.2.2 a ha) t hta
 sz:=by have:=(qa ht).2;have:=h.sz;omega
 cl:=by
  have h0:=lx r;have hc:=h.cl;rcases ye.1 ht with ht|ht
  ·have:=ta ht;omega
  ·obtain⟨a,ha,hta⟩:=CM ht;have h1:=M4 ha;have h2:=ta hta;grind[Xc]
 tx:=atG h.tx t ht
 wgh:=(EM G.rows h.sz h.wgh).2.2.2.1 hi t ht
 db:=h.db
 env:=fun y hy=>by
  rcases yh.1 hy with rfl|hy
  ·omega
  ·exact h.env y hy
 deep:=by have:=(qa ht).1;have:=h.deep;show(x::w.env).length+_≤_;grind
def atM{db}(G:DbG db){n}(hR:xE db n){t env w}(hn:t.ht<n+1)(h:GoT db t env w):∃l,kZ t.sub w=some l∧cT l:=by
 rw[Fz];by_cases c:t.sub.length=0
 ·exact⟨[],by grind,fun x hx=>absurd hx (by simp)⟩
 ·have hm:t.sub.getD 0 za∈t.sub:=cG (by omega);obtain⟨l,h1,h2⟩:=hR _ env w (by have:=Term.ht_sub hm;omega) (h.subq G hm);exact⟨l,by grind,h2.short⟩
def atN{db}(G:DbG db){n}(hT:CN db n)(hR:xE db n):CN db (n+1):=by
 intro t env w hn h;have hkl:t.kids.length≤2000000:=by have:=fG t.kids;have:=t.sz_eq;have:=h.sz;omega
 have hkid:=fun k(hk:k∈t.kids)=>hT k env w (by have:=Term.ht_kid hk;omega) (h.kid G hk);obtain⟨l,hl1,hl2⟩:=atM G hR hn h;rw[uZ,hl1,yj,yj];by_cases c1:t.op=1∨t.op=2
 ·rw[if_pos c1,tF ⟨h.sz,Oz t h.tx,h.env⟩];exact⟨_,rfl,Zt h.env t (Oz t h.tx)⟩
 rw[if_neg c1];by_cases c2:t.op=26
 ·rw[if_pos c2];exact⟨_,rfl,Zr (fun _=>E9 (atL hl2 0) 0) (fun _=>gv)⟩
 rw[if_neg c2];by_cases c3:t.op=27
 ·rw[if_pos c3];exact⟨_,rfl,Zp _⟩
 rw[if_neg c3];by_cases c4:t.op=28
 ·rw[if_pos c4];by_cases c5:t.kids.length=0
  ·rw[if_pos c5];exact⟨_,rfl,gv⟩
  ·rw[if_neg c5,sr,if_neg c5];obtain⟨v,h1,_⟩:=hkid _ (cG (d:=zb) (show 0<t.kids.length by omega));rw[h1,yj];exact⟨_,rfl,E8 _⟩
 rw[if_neg c4,if_pos hkl,ss];obtain⟨s,h1,h2,h3⟩:=tJ (P:=ba) t.kids hkid;rw[h1,yj,tF ⟨by omega,h3⟩];exact⟨_,rfl,Zs _ _ h3⟩
def FI{w}:∀(l:List Term),(∀t∈l,∃v,nT t w=some v∧ba v)→∃b,cF l w=some b
 |[],_=>⟨true,by rfl⟩
 |t::l,h=>by
  obtain⟨v,h1,_⟩:=h t cP;obtain⟨b,h2⟩:=FI l fun x hx=>h x<|cV _ hx;simp only[cF,h1,yj];grind
def atO db r:(bK db r).2=(bK db r).1∨(bK db r).2=dh (bK db r).1 1:=by
 unfold bK kw;grind
theorem va{db r}(h1:r.op≠1)(hk:r.kids.length=1):bK db r=((bd db<|r.kids.getD 0 za).1,dh (bd db<|r.kids.getD 0 za).1 1):=by
 simp_all[bK,kw,if_neg,yy,if_pos,td]
def abn{r}(h:r.op=3∨r.op=8∨r.op=12∨r.op=13)(hk:r.kids.length=1):bQ r=bQ (r.kids.getD 0 za):=by
 have hkn:bD r.op=1:=by rcases h with e|e|e|e<;>rw[e]<;>rfl
 rw[vL,if_neg<|by omega,if_neg<|by omega,if_neg<|by omega,if_neg<|by omega,if_neg<|by omega,sP _ _<|by omega]
def atP{r}(h:r.op=9∨r.op=10∨r.op=11)(hk:r.kids.length=2):bQ r=bQ (r.kids.getD 0 za):=by
 have hkn:bD r.op=2:=by rcases h with e|e|e<;>rw[e]<;>rfl
 rw[vL,if_neg<|by omega,if_neg<|by omega,if_neg<|by omega,if_neg<|by omega,if_neg<|by omega,sP _ _<|by omega]
def Fine.fin{db r X l}(hb:(bd db r).1≤1048576)(hX:X=some l)(h:Fine db r l):∃l,X.bind capQ=some l∧Fine db r l:=by
 have:=h.few;unfold capQ;grind
def Fine.sub{db r k l s}(h:Fine db k l)(hw:bQ r=bQ k)(hm:∀x∈s,x∈l)(hf:(s.length:Int)≤(bd db r).1):Fine db r s:=
 ⟨fun x hx=>h.short x<|hm x hx,fun x hx=>(h.wide x<|hm x hx).trans hw.symm,hf⟩
theorem atQ{x cols}(h:gj x cols=true):x.length=cols.length:=by
 simp_all[gj,yp,decide_eq_true_eq]
section
variable {db:List Data} {n:Nat} {r:Rel} {env:List Int} {w:Wld}
structure StepR(db:List Data)(r:Rel)(env:List Int)(w:Wld):Prop where
 go:GoR db r env w
 io:0≤(bK db r).1∧(bK db r).1≤20000
 out:(bd db r).1=(bK db r).2
 kid:r.op≠1→∀i,i<r.kids.length→∃l,bc r.kids i w=some l∧Fine db (r.kids.getD i za) l
 term:r.op≠1→1≤(bK db r).1→∀t∈cw r,∀x:List Val,(∀v∈x,ba v)→∃v,nT t (zp w x)=some v∧ba v
def StepR.mk'(G:DbG db)(hT:CN db n)(hR:xE db n)(hn:r.ht<n+1)(h:GoR db r env w):StepR db r env w:=by
 obtain⟨_,i0,i1,_,e⟩:=EM G.rows h.sz h.wgh;have ho:=atO db r;refine⟨h,⟨i0,i1⟩,?_,fun hop i hi=>?_,fun hop h1 t ht x hx=>?_⟩
 ·rw[e,lz,if_neg];grind[qB]
 ·have hm:r.kids.getD i za∈r.kids:=cG hi;obtain⟨l,h1,h2⟩:=hR _ env w (by have:=Rel.ht_kid hm;omega)<|h.kid G hop hm;simp_all[AF,if_pos]
 ·exact hT t _ _ (by have:=(qa ht).1;omega)<|h.term G hop h1 ht hx
def tK{t}(h:t∈r.terms):t∈cw r:=f9 _ h
def atR(G:DbG db)(hS:StepR db r env w)(c:r.op=1):∃l,(kX (sh w.db)<|some<|lM w r.table).bind capQ=some l∧Fine db r l:=by
 have hb:=(fo G.rows hS.go.sz).1.2;have hf:=hS.go.fit;rw[Ex,if_pos c]at hf;unfold wK at hf;have hc:=(fI hS.go.v).2.2.1;have ho:(bK db r).2=mH r.table db:=by unfold bK kw;grind
 have hh:=EL r.table db 0 (by omega) (by have:=G.rows;omega);refine Fine.fin (l:=lM w r.table) hb (tF (by rw[hS.go.db];exact G.ok)) ?_;unfold lM;rw[hS.go.db];cases hfd:db.find? (fun d=>d.table.toList==r.table.toList)with
 |none=>exact⟨fun x hx=>absurd hx<|by simp,fun x hx=>absurd hx<|by simp,by rw[hS.out,ho];exact hh.1⟩
 |some d=>
  have hm:=List.mem_of_find?_eq_some hfd;have ht:(d.table.toList==r.table.toList)=true:=List.find?_some (p:=fun d:Data=>d.table.toList==r.table.toList) hfd;refine⟨G.tx d hm,fun x hx=>?_,?_⟩
  ·grind[atQ]
  ·rw[hS.out,ho];simp_all[mH]
def atS(G:DbG db)(hS:StepR db r env w)(c:r.op=2):∃l,(some r.rows).bind capQ=some l∧Fine db r l:=by
 have hb:=(fo G.rows hS.go.sz).1.2;obtain⟨⟨hk,_⟩,_,hc,_,_,hr⟩:=fI hS.go.v;rw[c]at hk;have hk0:r.kids.length=0:=by have:bD 2=0:=rfl;omega
 unfold jC at hr;unfold vQ at hr;refine Fine.fin hb rfl ⟨((Oy r).1 hS.go.tx).2.2.2,fun x hx=>?_,?_⟩
 ·grind
 ·rw[hS.out];simp_all[bK,kw,if_neg,if_pos,yy,pJ]
def atT(G:DbG db)(hS:StepR db r env w)(c:r.op=3):∃l,(si (fun w=>bc r.kids 0 w) (fun w=>cF r.terms w) w).bind capQ=some l∧Fine db r l:=by
 have hb:=(fo G.rows hS.go.sz).1.2;have hk:=(fI hS.go.v).1.1;rw[c]at hk;have hk1:r.kids.length=1:=by have:bD 3=1:=rfl;omega
 obtain⟨l,h1,h2⟩:=hS.kid (by omega) 0 (by omega);have hio:=va (db:=db) (by omega) hk1;have hfew:=h2.few;obtain⟨s,g1,g2,g3⟩:=Ow (f:=fun x=>cF r.terms (zp w x)) l fun x hx=>FI _ fun t ht=>hS.term (by omega) (by grind) t (tK ht) x (h2.short x hx);refine Fine.fin (l:=s) hb ?_ (h2.sub (abn (.inl c) hk1) g3 ?_)
 ·unfold si;dsimp only;rw[if_pos (by have:=hS.go.deep;omega),h1,yj,g1]
 ·rw[hS.out,hio,qB];omega
def abo(hS:StepR db r env w)(hop:r.op≠1)(hi:1≤(bK db r).1){x}(hx:∀v∈x,ba v):∃s,b8 r.terms (zp w x)=some s∧s.length=r.terms.length∧∀v∈s,ba v:=by
 rw[ss];exact tJ (P:=ba) _ fun t ht=>hS.term hop hi t (tK ht) x hx
def atU(G:DbG db)(hS:StepR db r env w)(c:r.op=4):∃l,(sj (fun w=>bc r.kids 0 w) (fun w=>b8 r.terms w) r.terms.length w).bind capQ=some l∧Fine db r l:=by
 have hb:=(fo G.rows hS.go.sz).1.2;have hk:=(fI hS.go.v).1.1;rw[c]at hk;have hk1:r.kids.length=1:=by have:bD 4=1:=rfl;omega
 obtain⟨l,h1,h2⟩:=hS.kid (by omega) 0 (by omega);have hio:=va (db:=db) (by omega) hk1;have hfew:=h2.few;have htl:r.terms.length≤2000000:=by have:=fG r.terms;have:=r.sz_eq;have:=hS.go.sz;omega
 obtain⟨s,g1,g2,g3⟩:=tJ (f:=fun x=>b8 r.terms (zp w x)) (P:=fun y=>y.length=r.terms.length∧∀v∈y,ba v) l fun x hx=>abo hS (by omega) (by grind) (h2.short x hx);have hw:bQ r=r.terms.length:=by rw[vL,c,if_neg (by omega),if_neg (by omega),if_pos rfl]
 refine Fine.fin (l:=s) hb ?_ ⟨fun x hx=>(g3 x hx).2,fun x hx=>by grind,?_⟩
 ·unfold sj;dsimp only;rw[if_pos ⟨by have:=hS.go.deep;omega,by omega⟩,h1,yj,g1]
 ·rw[hS.out,hio,qB];omega
def atV(G:DbG db)(hS:StepR db r env w)(c:r.op=5∨r.op=6):∃l,(sm (fun w=>bc r.kids 0 w) (fun w=>bc r.kids 1 w) (fun w=>cF r.terms w) r.kids.length (r.kids.getD 1 za).cols.length (decide (r.op=6)) w).bind capQ=some l∧Fine db r l:=by
 have hb:=(fo G.rows hS.go.sz).1.2;obtain⟨⟨hk,_⟩,hkv,_,_,_,_⟩:=fI hS.go.v;rw[Bx c]at hk;have hk2:r.kids.length=2:=by omega
 have hop:r.op≠1:=by omega
 obtain⟨l,h1,h2⟩:=hS.kid hop 0 (by omega);obtain⟨t,h3,h4⟩:=hS.kid hop 1 (by omega);have m0:r.kids.getD 0 za∈r.kids:=cG (by omega);have m1:r.kids.getD 1 za∈r.kids:=cG (by omega);have c0:=(fI (hkv _ m0)).2.2.1;have c1:=(fI (hkv _ m1)).2.2.1;have hcl0:=lx (r.kids.getD 0 za);have hcl1:=lx (r.kids.getD 1 za);have b0:=qq m0;have b1:=qq m1;have hcl:=lx r;have hclr:=hS.go.cl;have hd:=hS.go.deep;have w0:=(fo G.rows (show(r.kids.getD 0 za).sz≤2000000 by have:=hU m0;have:=hS.go.sz;omega)).1;have w1:=(fo G.rows (show(r.kids.getD 1 za).sz≤2000000 by have:=hU m1;have:=hS.go.sz;omega)).1;have hw:bQ r=bQ (r.kids.getD 0 za)+bQ (r.kids.getD 1 za):=by
  rw[vL,if_neg (by rw[Bx c];omega),if_neg (by omega),if_neg (by omega),if_neg (by omega),if_pos c,sP _ _ (by omega),sP _ _ (by omega),zm (by omega)]
 obtain⟨W0,e0⟩:=Bd w0.1;obtain⟨W1,e1⟩:=Bd w1.1;have hio:(bK db r).1=((W0*max W1 1:Nat):Int)∧(bK db r).2=((W0*max W1 1:Nat):Int):=by
  have hmx:dh (W1:Int) 1=((max W1 1:Nat):Int):=by rw[qB];split<;>omega
  have hp:=Ao (a:=(W0:Int)) (b:=((max W1 1:Nat):Int)) (by omega) (by omega) (by omega) (by omega);unfold bK kw;rw[if_neg hop,if_neg (by rw[yy];omega),if_neg (by rw[yy];omega),if_pos c,td db r 0 (by omega),td db r 1 (by omega),e0,e1,hmx,zm (by omega),Int.natCast_mul];exact⟨rfl,rfl⟩
 have f0:=h2.few;have f1:=h4.few;rw[e0]at f0;rw[e1]at f1;have hone:∀x∈l,1≤(bK db r).1:=fun x hx=>by
  have:=PY hx;have:=ld (show 1≤W0 by omega) (show 1≤max W1 1 by omega);rw[hio.1];omega
 obtain⟨s,g1,g2,g3⟩:=abe (left:=decide (r.op=6)) (nn:=List.replicate (r.kids.getD 1 za).cols.length z7) (f:=fun x=>if x.length≤100000000 then cF r.terms (zp w x)else none) (right:=t) l fun a ha=>by
  have la:=h2.wide a ha;refine⟨fun b hb'=>?_,by rw[yb,sE];omega⟩;have lb:=h4.wide b hb';rw[if_pos (by rw[yb];omega)];exact FI _ fun t ht=>hS.term hop (hone a ha) t (tK ht) _ fun v hv=>by
   rcases ye.1 hv with hv|hv
   ·exact h2.short a ha v hv
   ·exact h4.short b hb' v hv
 have hlen:(s.length:Int)≤(bd db r).1:=by
  rw[hS.out,hio.2];have:=ld (show l.length≤W0 by omega) (show max t.length 1≤max W1 1 by omega);omega
 refine Fine.fin (l:=s) hb ?_ ⟨fun x hx v hv=>?_,fun x hx=>?_,hlen⟩
 ·unfold sm;dsimp only;rw[if_neg (by omega),if_pos ⟨by omega,by omega⟩,h3,yj,h1,yj,g1,yj];unfold capQ;rw[if_pos (by omega)]
 ·obtain⟨a,ha,b,hb',rfl⟩:=g3 x hx;rcases ye.1 hv with hv|hv
  ·exact h2.short a ha v hv
  ·rcases hb' with hb'|rfl
   ·exact h4.short b hb' v hv
   ·rw[List.eq_of_mem_replicate hv];exact gv
 ·obtain⟨a,ha,b,hb',rfl⟩:=g3 x hx;have la:=h2.wide a ha;have lb:(b.length:Int)=bQ (r.kids.getD 1 za):=by
   rcases hb' with hb'|rfl
   ·exact h4.wide b hb'
   ·rw[sE];exact c1
  rw[yb,hw];omega
def atW(G:DbG db)(hS:StepR db r env w)(c:r.op=7):∃l,(sn (fun w=>bc r.kids 0 w) (fun w=>b8 r.terms w) (fun w l=>lO r.aggs w l) r.terms.length r.aggs.length w).bind capQ=some l∧Fine db r l:=by
 have hb:=(fo G.rows hS.go.sz).1.2;have hk:=(fI hS.go.v).1.1;rw[c]at hk;have hk1:r.kids.length=1:=by have:bD 7=1:=rfl;omega
 have hop:r.op≠1:=by omega
 obtain⟨l,h1,h2⟩:=hS.kid hop 0 (by omega);have hio:=va (db:=db) hop hk1;have hfew:=h2.few;have hd:=hS.go.deep;have hle:(l.length:Int)≤20000:=by have:=hS.io.2;rw[hio]at this;dsimp only at this;omega
 have htl:r.terms.length≤2000000∧r.aggs.length≤2000000:=by have:=fG r.terms;have:=D6 r.aggs;have:=r.sz_eq;have:=hS.go.sz;omega
 have hi:∀x∈l,1≤(bK db r).1:=fun x hx=>by rw[hio];have:=PY hx;dsimp only;omega
 have hkey:=fun x(hx:x∈l)=>abo hS hop (hi x hx) (h2.short x hx);obtain⟨bs,g1,g2,g3⟩:∃bs,j6 (fun w=>b8 r.terms w) r.terms.length w l=some bs∧(bs.length:Int)≤(bK db r).2∧∀b∈bs,(b.key.length=r.terms.length∧∀v∈b.key,ba v)∧(∀x∈b.rows,x∈l)∧b.rows.length≤20000:=by
  unfold j6;rw[if_pos ⟨by omega,by omega,by omega⟩]
  obtain⟨bs,k1,k2,k3⟩:=abf (f:=fun x=>b8 r.terms (zp w x)) (K:=fun k=>k.length=r.terms.length∧∀v∈k,ba v) (M:=l) l (if r.terms.length=0 then[⟨[],[]⟩]else[]) (fun x hx=>⟨hx,hkey x hx⟩) (fun b hb'=>by
   split at hb'
   ·rename_i e;rw[yl]at hb';subst hb';exact⟨⟨e.symm,fun v hv=>absurd hv (by simp)⟩,fun x hx=>absurd hx (by simp)⟩
   ·simp at hb')
  have hr:=Ov (N:=0) (fun b hb'=>by
   split at hb'
   ·rw[yl]at hb';subst hb';exact yc _
   ·simp at hb') k1
  refine⟨bs,k1,?_,fun b hb'=>⟨(k3 b hb').1,(k3 b hb').2,by have:=hr b hb';omega⟩⟩;rw[hio,qB];by_cases e:r.terms.length=0
  ·rw[if_pos e]at k1
   obtain⟨b',hb'⟩:=abg (f:=fun x=>b8 r.terms (zp w x)) l ⟨[],[]⟩ (fun x hx=>by
    obtain⟨k,q1,q2,_⟩:=hkey x hx
    rw[q1,yx (q2.trans e)]) rfl
   rw[hb']at k1;rw[←yg k1];simp only[yd];split<;>omega
  ·rw[if_neg e]at k2;simp only[nN]at k2;dsimp only;split<;>omega
 have hagg:∀b∈bs,∀a∈r.aggs,∃v,nA a w b.rows=some v∧ba v:=fun b hb' a ha=>by
  obtain⟨_,q2,q3⟩:=g3 b hb';rw[Oj,if_pos (by omega)];obtain⟨s,k1,k2,k3⟩:=tJ (f:=fun x=>tG a.t (zp w x)) (P:=ba) b.rows fun x hx=>by
   rw[sr];by_cases e:a.t.length=0
   ·rw[if_pos e];exact⟨_,rfl,gv⟩
   ·rw[if_neg e];refine hS.term hop (hi x (q2 x hx)) _ (gL _ ?_) x (h2.short x (q2 x hx));have:∀{l:List Agg}{a:Agg}{t:Term},a∈l→t∈a.t→t∈ei l:=by
     intro l
     induction l with
     |nil=>intro a t h;simp at h
     |cons y l ih=>
      intro a t h ht;rw[ei];rcases yh.1 h with rfl|h
      ·exact f9 _ ht
      ·exact gL _ (ih h ht)
    exact this ha (cG (by omega))
  rw[k1,yj,if_pos (by omega)];exact⟨_,rfl,atK a k3⟩
 obtain⟨s,k1,k2,k3⟩:=tJ (f:=fun b:Bunch=>(lO r.aggs w b.rows).bind fun vs=>some (b.key++vs)) (P:=fun y=>y.length=r.terms.length+r.aggs.length∧∀v∈y,ba v) bs fun b hb'=>by
  obtain⟨vs,j1,j2,j3⟩:=tJ (P:=ba) r.aggs (hagg b hb');obtain⟨q1,_,_⟩:=g3 b hb';rw[FA,j1,yj];refine⟨_,rfl,by rw[yb];omega,fun v hv=>?_⟩;rcases ye.1 hv with hv|hv
  ·exact q1.2 v hv
  ·exact j3 v hv
 have hw:bQ r=r.terms.length+r.aggs.length:=by rw[vL,c,if_neg (by have:bD 7=1:=rfl;omega),if_neg (by omega),if_neg (by omega),if_pos rfl,zm (by omega)]
 refine Fine.fin (l:=s) hb ?_ ⟨fun x hx=>(k3 x hx).2,fun x hx=>by rw[(k3 x hx).1,hw];omega,by rw[hS.out];omega⟩;unfold sn;dsimp only;rw[if_pos (by omega),h1,yj,g1,yj];exact k1
def OB(G:DbG db)(hS:StepR db r env w)(c:r.op=3∨r.op=8∨r.op=12∨r.op=13)(g:Rows→Rows)(hg:∀l,(g l).length≤l.length∧∀x∈g l,x∈l):∃l,((bc r.kids 0 w).bind fun l=>some (g l)).bind capQ=some l∧Fine db r l:=by
 have hb:=(fo G.rows hS.go.sz).1.2;have hk:=(fI hS.go.v).1.1;have hk1:r.kids.length=1:=by
  have:bD r.op=1:=by rcases c with e|e|e|e<;>rw[e]<;>rfl
  omega
 obtain⟨l,h1,h2⟩:=hS.kid (by omega) 0 (by omega);have hio:=va (db:=db) (by omega) hk1;have hfew:=h2.few;obtain⟨g1,g2⟩:=hg l;refine Fine.fin (l:=g l) hb (by rw[h1];rfl) (h2.sub (abn c hk1) g2 ?_);rw[hS.out,hio,qB];dsimp only;split<;>omega
def atX(G:DbG db)(hS:StepR db r env w)(c:r.op=9∨r.op=10∨r.op=11):∃l,(sq (fun w=>bc r.kids 0 w) (fun w=>bc r.kids 1 w) r.op r.all w).bind capQ=some l∧Fine db r l:=by
 have hb:=(fo G.rows hS.go.sz).1.2;obtain⟨⟨hk,_⟩,_,_,_,_,hrest⟩:=fI hS.go.v;have hk2:r.kids.length=2:=by
  have:bD r.op=2:=by rcases c with e|e|e<;>rw[e]<;>rfl
  omega
 have hop:r.op≠1:=by omega
 obtain⟨a,h1,h2⟩:=hS.kid hop 0 (by omega);obtain⟨b,h3,h4⟩:=hS.kid hop 1 (by omega);have m0:r.kids.getD 0 za∈r.kids:=cG (by omega);have m1:r.kids.getD 1 za∈r.kids:=cG (by omega);have w0:=(fo G.rows (show(r.kids.getD 0 za).sz≤2000000 by have:=hU m0;have:=hS.go.sz;omega)).1;have w1:=(fo G.rows (show(r.kids.getD 1 za).sz≤2000000 by have:=hU m1;have:=hS.go.sz;omega)).1;have hio:(bK db r).2=(bd db (r.kids.getD 0 za)).1+(bd db (r.kids.getD 1 za)).1:=by
  unfold bK kw;rw[if_neg hop,if_neg (by rw[yy];omega),if_neg (by rw[yy];omega),if_neg (by omega),td db r 0 (by omega),td db r 1 (by omega),zm (by omega)]
 unfold jC at hrest;rw[if_neg (by omega),if_neg (by omega),if_neg (by omega),if_neg (by omega),if_neg (by omega),if_neg (by omega),if_pos c,beq_iff_eq]at hrest;have f0:=h2.few;have f1:=h4.few;obtain⟨u,e,hu,hul⟩:∃u,(if r.op=9 then capQ (a++b)else some a)=some u∧(∀x∈u,x∈a∨x∈b)∧u.length≤a.length+b.length:=by
  by_cases c9:r.op=9
  ·refine⟨a++b,?_,fun x hx=>ye.1 hx,by rw[yb];omega⟩;rw[if_pos c9];unfold capQ;rw[if_pos (by rw[yb];omega)]
  ·exact⟨a,by rw[if_neg c9],fun x hx=>.inl hx,by omega⟩
 obtain⟨g1,g2⟩:=atD r.op r.all u b;have hw:=atP c hk2;refine Fine.fin (l:=kY r.op r.all u b) hb ?_ ⟨fun x hx=>?_,fun x hx=>?_,by rw[hS.out,hio];omega⟩
 ·unfold sq;dsimp only;rw[h1,yj,h3,yj,e,yj]
 ·rcases hu x (g2 x hx)with h|h
  ·exact h2.short x h
  ·exact h4.short x h
 ·rcases hu x (g2 x hx)with h|h
  ·rw[h2.wide x h,hw]
  ·rw[h4.wide x h,hw,hrest]
def atY(G:DbG db)(hT:CN db n)(hR:xE db n):xE db (n+1):=by
 intro r env w hn h;have hS:=StepR.mk' G hT hR hn h;rw[u7];by_cases c1:r.op=1
 ·rw[if_pos c1];exact atR G hS c1
 rw[if_neg c1];by_cases c2:r.op=2
 ·rw[if_pos c2];exact atS G hS c2
 rw[if_neg c2];by_cases c3:r.op=3
 ·rw[if_pos c3];exact atT G hS c3
 rw[if_neg c3];by_cases c4:r.op=4
 ·rw[if_pos c4];exact atU G hS c4
 rw[if_neg c4];by_cases c5:r.op=5∨r.op=6
 ·rw[if_pos c5];exact atV G hS c5
 rw[if_neg c5];by_cases c7:r.op=7
 ·rw[if_pos c7];exact atW G hS c7
 rw[if_neg c7];by_cases c8:r.op=8
 ·rw[if_pos c8];exact OB G hS (.inr<|.inl c8) bV Ji
 rw[if_neg c8];by_cases c9:r.op=9∨r.op=10∨r.op=11
 ·rw[if_pos c9];exact atX G hS c9
 rw[if_neg c9];by_cases c12:r.op=12
 ·rw[if_pos c12];exact OB G hS (.inr<|.inr<|.inl c12) (fun l=>jK l r.keys) fun l=>atF l r.keys
 rw[if_neg c12];by_cases c13:r.op=13
 ·rw[if_pos c13];exact OB G hS (.inr<|.inr<|.inr c13) (fun l=>im l r.limit r.skip) fun l=>atE l r.limit r.skip
 rw[if_neg c13];exact Fine.fin (fo G.rows h.sz).1.2 rfl ⟨fun x hx=>absurd hx<|by simp,fun x hx=>absurd hx<|by simp,(fo G.rows h.sz).1.1⟩
end
def ve{db}(G:DbG db):∀n,CN db n∧xE db n
 |0=>⟨fun _ _ _ h=>absurd h<|cQ _,fun _ _ _ h=>absurd h<|cQ _⟩
 |n+1=>⟨atN G (ve G n).1 (ve G n).2,atY G (ve G n).1 (ve G n).2⟩
def abp{db}(G:DbG db){r env w}(h:GoR db r env w):∃l,nR r w=some l∧Fine db r l:=(ve G<|r.ht+1).2 r env w (pI _) h
def atZ{db}(G:DbG db){t env w}(h:GoT db t env w):∃v,nT t w=some v∧ba v:=(ve G<|t.ht+1).1 t env w (pI _) h
def at0{db r}(h:Ck r db=true)(hs:r.sz≤2000000)(hc:dC r≤2000000)(ht:nc r):GoR db r [] ⟨[],db⟩:=by
 unfold Ck Ak at h;simp only[yp,jq]at h;obtain⟨_,_,_,_,_,h1,h2,_,h3⟩:=h;refine⟨h1,h2,hs,hc,ht,?_,rfl,fun x hx=>absurd hx<|by simp,by have:=Ni r;simp only[nN];omega⟩;unfold Ci mI at h3;simpa using h3
end B
namespace B
open Go Go.RowKit
set_option linter.unusedVariables false
def BK.str_inv{s n}(h:BK (cs s) n):s.size≤n:=by
 cases h with
 |s _ _ h=>exact h s rfl
def at3{v:Val}{n}(h:BKS (enc .val v) n)(hn:n≤2000000):ba v:=by
 obtain⟨_,_,_,h,q2⟩:=h.cons_inv;obtain⟨_,_,_,h,q3⟩:=h.cons_inv;obtain⟨_,_,k0,_,q4⟩:=h.cons_inv;have e0:v.s.size≤_:=k0.str_inv;show v.s.size≤_;omega
def abq:∀(l:List Val)(n:Nat),BKL .val l n→n≤2000000→∀v∈l,ba v
 |[],_,_,_=>by simp
 |x::r,n,h,hn=>by
  obtain⟨_,_,h1,h2,_⟩:=h.cons_inv;intro v hv;rcases yh.1 hv with rfl|hv
  ·exact at3 h1<|by omega
  ·exact abq r _ h2 (by omega) v hv
def OC:∀(l:List (List Val))(n:Nat),BKL .row l n→n≤2000000→cT l∧l.length≤n
 |[],_,_,_=>⟨fun x hx=>absurd hx (by simp),yc _⟩
 |x::r,n,h,hn=>by
  obtain⟨_,_,h1,h2,_⟩:=h.cons_inv;obtain⟨_,_,k0,_,_⟩:=h1.cons_inv;obtain⟨g1,g2⟩:=OC r _ h2 (by omega);refine⟨fun y hy=>?_,by rw[yz];omega⟩;rcases yh.1 hy with rfl|hy
  ·exact abq _ _ k0.dat_inv (by omega)
  ·exact g1 y hy
mutual
def at4:∀(t:Term)(n:Nat),BKS (enc .term t) n→n≤2000000→qP t∧lw t≤n
 | .mk op v depth at_ name kids sub type,n,h,hn=>by
  obtain⟨_,_,_,h,q1⟩:=h.cons_inv;obtain⟨_,_,_,h,q2⟩:=h.cons_inv;obtain⟨_,_,_,h,q3⟩:=h.cons_inv;obtain⟨_,_,k0,h,q4⟩:=h.cons_inv;obtain⟨_,_,_,h,q5⟩:=h.cons_inv;obtain⟨_,_,_,h,q6⟩:=h.cons_inv;obtain⟨_,_,_,h,q7⟩:=h.cons_inv;obtain⟨_,_,k1,h,q8⟩:=h.cons_inv;obtain⟨_,_,k2,h,q9⟩:=h.cons_inv;have e0:v.s.size≤_:=k0.str_inv;have e1:=FJ kids _ k1.dat_inv (by omega);have e2:=OD sub _ k2.dat_inv (by omega);simp only[qP,lw];exact⟨⟨by show v.s.size≤_;omega,e1.1,e2.1⟩,by omega⟩
def FJ:∀(l:List Term)(n:Nat),BKL .term l n→n≤2000000→ma l∧kV l≤n
 |[],_,_,_=>⟨trivial,yc _⟩
 |t::r,n,h,hn=>by
  obtain⟨_,_,h1,h2,_⟩:=h.cons_inv;have e1:=at4 t _ h1 (by omega);have e2:=FJ r _ h2 (by omega);simp only[kV];exact⟨⟨e1.1,e2.1⟩,by omega⟩
def at5:∀(a:Agg)(n:Nat),BKS (enc .agg a) n→n≤2000000→txA a∧Ca a≤n
 | .mk name d t,n,h,hn=>by
  obtain⟨_,_,_,h,q1⟩:=h.cons_inv;obtain⟨_,_,_,h,q2⟩:=h.cons_inv;obtain⟨_,_,k1,h,q3⟩:=h.cons_inv;have e1:=FJ t _ k1.dat_inv (by omega);simp only[Ca];exact⟨e1.1,by omega⟩
def abr:∀(l:List Agg)(n:Nat),BKL .agg l n→n≤2000000→AL l∧rW l≤n
 |[],_,_,_=>⟨trivial,yc _⟩
 |t::r,n,h,hn=>by
  obtain⟨_,_,h1,h2,_⟩:=h.cons_inv;have e1:=at5 t _ h1 (by omega);have e2:=abr r _ h2 (by omega);simp only[rW];exact⟨⟨e1.1,e2.1⟩,by omega⟩
def abt:∀(r:Rel)(n:Nat),BKS (enc .rel r) n→n≤2000000→nc r∧dC r≤n
 | .mk op table cols kids terms aggs keys limit skip all rows,n,h,hn=>by
  obtain⟨_,_,_,h,q1⟩:=h.cons_inv;obtain⟨_,_,_,h,q2⟩:=h.cons_inv;obtain⟨_,_,k0,h,q3⟩:=h.cons_inv;obtain⟨_,_,k1,h,q4⟩:=h.cons_inv;obtain⟨_,_,k2,h,q5⟩:=h.cons_inv;obtain⟨_,_,k3,h,q6⟩:=h.cons_inv;obtain⟨_,_,_,h,q7⟩:=h.cons_inv;obtain⟨_,_,_,h,q8⟩:=h.cons_inv;obtain⟨_,_,_,h,q9⟩:=h.cons_inv;obtain⟨_,_,_,h,q10⟩:=h.cons_inv;obtain⟨_,_,k4,h,q11⟩:=h.cons_inv;have e0:(cols:List Col).length≤_:=(BK.dat_inv k0).len;have e1:=OD kids _ k1.dat_inv (by omega);have e2:=FJ terms _ k2.dat_inv (by omega);have e3:=abr aggs _ k3.dat_inv (by omega);have e4:=OC rows _ k4.dat_inv (by omega);simp only[nc,dC];exact⟨⟨e1.1,e2.1,e3.1,e4.1⟩,by omega⟩
def OD:∀(l:List Rel)(n:Nat),BKL .rel l n→n≤2000000→sv l∧kW l≤n
 |[],_,_,_=>⟨trivial,yc _⟩
 |t::r,n,h,hn=>by
  obtain⟨_,_,h1,h2,_⟩:=h.cons_inv;have e1:=abt t _ h1 (by omega);have e2:=OD r _ h2 (by omega);simp only[kW];exact⟨⟨e1.1,e2.1⟩,by omega⟩
end
def abu:∀(db:List Data)(n:Nat),BKL .data db n→n≤2000000→db.length+jG db≤n∧(∀d∈db,cT d.rows)∧∀d∈db,d.rows.length≤2000000
 |[],_,_,_=>⟨yc _,by simp,by simp⟩
 |d::r,n,h,hn=>by
  obtain⟨_,_,h1,h2,_⟩:=h.cons_inv;obtain⟨_,_,_,h1,q1⟩:=h1.cons_inv;obtain⟨_,_,k0,h1,q2⟩:=h1.cons_inv;have e0:cT d.rows∧d.rows.length≤_:=OC d.rows _ k0.dat_inv (by omega);obtain⟨g1,g2,g3⟩:=abu r _ h2 (by omega);refine⟨by rw[yz];simp only[jG];omega,fun x hx=>?_,fun x hx=>?_⟩
  ·rcases yh.1 hx with rfl|hx
   ·exact e0.1
   ·exact g2 x hx
  ·rcases yh.1 hx with rfl|hx
   ·have:=e0.2;omega
   ·exact g3 x hx
def at6{db:List Data}{n}(h:BKL .data db n)(hn:n≤2000000):DbG db:=by
 obtain⟨h1,h2,h3⟩:=abu db n h hn;exact⟨⟨by omega,fun d hd=>by have:=h3 d hd;omega⟩,by omega,h2⟩
end B
namespace B
open Go Go.RowKit Go.ChangeShapes
set_option maxRecDepth 1000000
def at7{vs}(h:vs.map aM=(ct .int).map some):∃x,dec .int vs=some x:=by
 have h0:vs.map aM=([.int]:List Fl).map some:=h;obtain⟨a0,r0,rfl,h1⟩:=bZ h0;obtain rfl:=cY h1;exact⟨_,rfl⟩
def at8{vs}(h:vs.map aM=(ct .str).map some):∃x,dec .str vs=some x:=by
 have h0:vs.map aM=([.str]:List Fl).map some:=h;obtain⟨a0,r0,rfl,h1⟩:=gV h0;obtain rfl:=cY h1;exact⟨_,rfl⟩
def at9{vs}(h:vs.map aM=(ct .row).map some):∃x,dec .row vs=some x:=by
 have h0:vs.map aM=([.sl .val]:List Fl).map some:=h;obtain⟨a0,r0,rfl,h1⟩:=bP h0;obtain rfl:=cY h1;exact⟨_,rfl⟩
def aua{vs}(h:vs.map aM=(ct .ints).map some):∃x,dec .ints vs=some x:=by
 have h0:vs.map aM=([.sl .int]:List Fl).map some:=h;obtain⟨a0,r0,rfl,h1⟩:=bP h0;obtain rfl:=cY h1;exact⟨_,rfl⟩
def aub{vs}(h:vs.map aM=(ct .trms).map some):∃x,dec .trms vs=some x:=by
 have h0:vs.map aM=([.sl .term]:List Fl).map some:=h;obtain⟨a0,r0,rfl,h1⟩:=bP h0;obtain rfl:=cY h1;exact⟨_,rfl⟩
def auc{vs}(h:vs.map aM=(ct .colss).map some):∃x,dec .colss vs=some x:=by
 have h0:vs.map aM=([.sl .col]:List Fl).map some:=h;obtain⟨a0,r0,rfl,h1⟩:=bP h0;obtain rfl:=cY h1;exact⟨_,rfl⟩
def aud{vs}(h:vs.map aM=(ct .rowss).map some):∃x,dec .rowss vs=some x:=by
 have h0:vs.map aM=([.sl .row]:List Fl).map some:=h;obtain⟨a0,r0,rfl,h1⟩:=bP h0;obtain rfl:=cY h1;exact⟨_,rfl⟩
def aue{vs}(h:vs.map aM=(ct .pair).map some):∃x,dec .pair vs=some x:=by
 have h0:vs.map aM=([.int,.int]:List Fl).map some:=h;obtain⟨a0,r0,rfl,h1⟩:=bZ h0;obtain⟨a1,r1,rfl,h2⟩:=bZ h1;obtain rfl:=cY h2;exact⟨_,rfl⟩
def auf{vs}(h:vs.map aM=(ct .val).map some):∃x,dec .val vs=some x:=by
 have h0:vs.map aM=([.int,.int,.str]:List Fl).map some:=h;obtain⟨a0,r0,rfl,h1⟩:=bZ h0;obtain⟨a1,r1,rfl,h2⟩:=bZ h1;obtain⟨a2,r2,rfl,h3⟩:=gV h2;obtain rfl:=cY h3;exact⟨_,rfl⟩
def aug{vs}(h:vs.map aM=(ct .col).map some):∃x,dec .col vs=some x:=by
 have h0:vs.map aM=([.str,.str,.int]:List Fl).map some:=h;obtain⟨a0,r0,rfl,h1⟩:=gV h0;obtain⟨a1,r1,rfl,h2⟩:=gV h1;obtain⟨a2,r2,rfl,h3⟩:=bZ h2;obtain rfl:=cY h3;exact⟨_,rfl⟩
def auh{vs}(h:vs.map aM=(ct .by_).map some):∃x,dec .by_ vs=some x:=by
 have h0:vs.map aM=([.int,.bool]:List Fl).map some:=h;obtain⟨a0,r0,rfl,h1⟩:=bZ h0;obtain⟨a1,r1,rfl,h2⟩:=gd h1;obtain rfl:=cY h2;exact⟨_,rfl⟩
def aui{vs}(h:vs.map aM=(ct .bound).map some):∃x,dec .bound vs=some x:=by
 have h0:vs.map aM=([.bool,.bool,.sl .val]:List Fl).map some:=h;obtain⟨a0,r0,rfl,h1⟩:=gd h0;obtain⟨a1,r1,rfl,h2⟩:=gd h1;obtain⟨a2,r2,rfl,h3⟩:=bP h2;obtain rfl:=cY h3;exact⟨_,rfl⟩
def auj{vs}(h:vs.map aM=(ct .often).map some):∃x,dec .often vs=some x:=by
 have h0:vs.map aM=([.int,.int,.str,.int]:List Fl).map some:=h;obtain⟨a0,r0,rfl,h1⟩:=bZ h0;obtain⟨a1,r1,rfl,h2⟩:=bZ h1;obtain⟨a2,r2,rfl,h3⟩:=gV h2;obtain⟨a3,r3,rfl,h4⟩:=bZ h3;obtain rfl:=cY h4;exact⟨_,rfl⟩
def auk{vs}(h:vs.map aM=(ct .colStat).map some):∃x,dec .colStat vs=some x:=by
 have h0:vs.map aM=([.int,.int,.sl .val,.sl .often]:List Fl).map some:=h;obtain⟨a0,r0,rfl,h1⟩:=bZ h0;obtain⟨a1,r1,rfl,h2⟩:=bZ h1;obtain⟨a2,r2,rfl,h3⟩:=bP h2;obtain⟨a3,r3,rfl,h4⟩:=bP h3;obtain rfl:=cY h4;exact⟨_,rfl⟩
def aul{vs}(h:vs.map aM=(ct .data).map some):∃x,dec .data vs=some x:=by
 have h0:vs.map aM=([.str,.sl .row]:List Fl).map some:=h;obtain⟨a0,r0,rfl,h1⟩:=gV h0;obtain⟨a1,r1,rfl,h2⟩:=bP h1;obtain rfl:=cY h2;exact⟨_,rfl⟩
def aum{vs}(h:vs.map aM=(ct .acc).map some):∃x,dec .acc vs=some x:=by
 have h0:vs.map aM=([.str,.bool,.int,.int,.int,.int,.int,.str,.sl .val]:List Fl).map some:=h;obtain⟨a0,r0,rfl,h1⟩:=gV h0;obtain⟨a1,r1,rfl,h2⟩:=gd h1;obtain⟨a2,r2,rfl,h3⟩:=bZ h2;obtain⟨a3,r3,rfl,h4⟩:=bZ h3;obtain⟨a4,r4,rfl,h5⟩:=bZ h4;obtain⟨a5,r5,rfl,h6⟩:=bZ h5;obtain⟨a6,r6,rfl,h7⟩:=bZ h6;obtain⟨a7,r7,rfl,h8⟩:=gV h7;obtain⟨a8,r8,rfl,h9⟩:=bP h8;obtain rfl:=cY h9;exact⟨_,rfl⟩
def aun{vs}(h:vs.map aM=(ct .stat).map some):∃x,dec .stat vs=some x:=by
 have h0:vs.map aM=([.str,.int,.int,.sl .colStat]:List Fl).map some:=h;obtain⟨a0,r0,rfl,h1⟩:=gV h0;obtain⟨a1,r1,rfl,h2⟩:=bZ h1;obtain⟨a2,r2,rfl,h3⟩:=bZ h2;obtain⟨a3,r3,rfl,h4⟩:=bP h3;obtain rfl:=cY h4;exact⟨_,rfl⟩
def auo{vs}(h:vs.map aM=(ct .column).map some):∃x,dec .column vs=some x:=by
 have h0:vs.map aM=([.int,.int,.sl .val,.sl .often,.int,.int,.int]:List Fl).map some:=h;obtain⟨a0,r0,rfl,h1⟩:=bZ h0;obtain⟨a1,r1,rfl,h2⟩:=bZ h1;obtain⟨a2,r2,rfl,h3⟩:=bP h2;obtain⟨a3,r3,rfl,h4⟩:=bP h3;obtain⟨a4,r4,rfl,h5⟩:=bZ h4;obtain⟨a5,r5,rfl,h6⟩:=bZ h5;obtain⟨a6,r6,rfl,h7⟩:=bZ h6;obtain rfl:=cY h7;exact⟨_,rfl⟩
def aup{vs}(h:vs.map aM=(ct .term).map some):∃x,dec .term vs=some x:=by
 have h0:vs.map aM=([.int,.int,.int,.str,.int,.int,.str,.sl .term,.sl .rel,.int]:List Fl).map some:=h;obtain⟨a0,r0,rfl,h1⟩:=bZ h0;obtain⟨a1,r1,rfl,h2⟩:=bZ h1;obtain⟨a2,r2,rfl,h3⟩:=bZ h2;obtain⟨a3,r3,rfl,h4⟩:=gV h3;obtain⟨a4,r4,rfl,h5⟩:=bZ h4;obtain⟨a5,r5,rfl,h6⟩:=bZ h5;obtain⟨a6,r6,rfl,h7⟩:=gV h6;obtain⟨a7,r7,rfl,h8⟩:=bP h7;obtain⟨a8,r8,rfl,h9⟩:=bP h8;obtain⟨a9,r9,rfl,h10⟩:=bZ h9;obtain rfl:=cY h10;exact⟨_,rfl⟩
def auq{vs}(h:vs.map aM=(ct .agg).map some):∃x,dec .agg vs=some x:=by
 have h0:vs.map aM=([.str,.bool,.sl .term]:List Fl).map some:=h;obtain⟨a0,r0,rfl,h1⟩:=gV h0;obtain⟨a1,r1,rfl,h2⟩:=gd h1;obtain⟨a2,r2,rfl,h3⟩:=bP h2;obtain rfl:=cY h3;exact⟨_,rfl⟩
def aur{vs}(h:vs.map aM=(ct .rel).map some):∃x,dec .rel vs=some x:=by
 have h0:vs.map aM=([.int,.str,.sl .col,.sl .rel,.sl .term,.sl .agg,.sl .by_,.int,.int,.bool,.sl .row]:List Fl).map some:=h;obtain⟨a0,r0,rfl,h1⟩:=bZ h0;obtain⟨a1,r1,rfl,h2⟩:=gV h1;obtain⟨a2,r2,rfl,h3⟩:=bP h2;obtain⟨a3,r3,rfl,h4⟩:=bP h3;obtain⟨a4,r4,rfl,h5⟩:=bP h4;obtain⟨a5,r5,rfl,h6⟩:=bP h5;obtain⟨a6,r6,rfl,h7⟩:=bP h6;obtain⟨a7,r7,rfl,h8⟩:=bZ h7;obtain⟨a8,r8,rfl,h9⟩:=bZ h8;obtain⟨a9,r9,rfl,h10⟩:=gd h9;obtain⟨a10,r10,rfl,h11⟩:=bP h10;obtain rfl:=cY h11;exact⟨_,rfl⟩
def aus{vs}(h:vs.map aM=(ct .plan).map some):∃x,dec .plan vs=some x:=by
 have h0:vs.map aM=([.int,.str,.str,.sl .col,.sl .plan,.sl .term,.sl .term,.sl .term,.sl .agg,.sl .by_,.sl .int,.bool,.bool,.sl .val,.bool,.bool,.sl .val,.int,.int,.bool,.sl .row,.int,.int]:List Fl).map some:=h;obtain⟨a0,r0,rfl,h1⟩:=bZ h0;obtain⟨a1,r1,rfl,h2⟩:=gV h1;obtain⟨a2,r2,rfl,h3⟩:=gV h2;obtain⟨a3,r3,rfl,h4⟩:=bP h3;obtain⟨a4,r4,rfl,h5⟩:=bP h4;obtain⟨a5,r5,rfl,h6⟩:=bP h5;obtain⟨a6,r6,rfl,h7⟩:=bP h6;obtain⟨a7,r7,rfl,h8⟩:=bP h7;obtain⟨a8,r8,rfl,h9⟩:=bP h8;obtain⟨a9,r9,rfl,h10⟩:=bP h9;obtain⟨a10,r10,rfl,h11⟩:=bP h10;obtain⟨a11,r11,rfl,h12⟩:=gd h11;obtain⟨a12,r12,rfl,h13⟩:=gd h12;obtain⟨a13,r13,rfl,h14⟩:=bP h13;obtain⟨a14,r14,rfl,h15⟩:=gd h14;obtain⟨a15,r15,rfl,h16⟩:=gd h15;obtain⟨a16,r16,rfl,h17⟩:=bP h16;obtain⟨a17,r17,rfl,h18⟩:=bZ h17;obtain⟨a18,r18,rfl,h19⟩:=bZ h18;obtain⟨a19,r19,rfl,h20⟩:=gd h19;obtain⟨a20,r20,rfl,h21⟩:=bP h20;obtain⟨a21,r21,rfl,h22⟩:=bZ h21;obtain⟨a22,r22,rfl,h23⟩:=bZ h22;obtain rfl:=cY h23;exact⟨_,rfl⟩
def aut{vs}(h:vs.map aM=(ct .span).map some):∃x,dec .span vs=some x:=by
 have h0:vs.map aM=([.sl .val,.bool,.bool,.sl .val,.bool,.bool,.sl .val,.int,.sl .term]:List Fl).map some:=h;obtain⟨a0,r0,rfl,h1⟩:=bP h0;obtain⟨a1,r1,rfl,h2⟩:=gd h1;obtain⟨a2,r2,rfl,h3⟩:=gd h2;obtain⟨a3,r3,rfl,h4⟩:=bP h3;obtain⟨a4,r4,rfl,h5⟩:=gd h4;obtain⟨a5,r5,rfl,h6⟩:=gd h5;obtain⟨a6,r6,rfl,h7⟩:=bP h6;obtain⟨a7,r7,rfl,h8⟩:=bZ h7;obtain⟨a8,r8,rfl,h9⟩:=bP h8;obtain rfl:=cY h9;exact⟨_,rfl⟩
def auu{vs}(h:vs.map aM=(ct .u8).map some):∃x,dec .u8 vs=some x:=by
 have h0:vs.map aM=([.num .u8]:List Fl).map some:=h;obtain⟨a0,r0,rfl,h1⟩:=TJ h0;obtain rfl:=cY h1;exact⟨_,rfl⟩
def auv{vs}(h:vs.map aM=(ct .bol).map some):∃x,dec .bol vs=some x:=by
 have h0:vs.map aM=([.bool]:List Fl).map some:=h;obtain⟨a0,r0,rfl,h1⟩:=gd h0;obtain rfl:=cY h1;exact⟨_,rfl⟩
def auw{vs}(h:vs.map aM=(ct .sign).map some):∃x,dec .sign vs=some x:=by
 have h0:vs.map aM=([.int,.num .u8]:List Fl).map some:=h;obtain⟨a0,r0,rfl,h1⟩:=bZ h0;obtain⟨a1,r1,rfl,h2⟩:=TJ h1;obtain rfl:=cY h2;exact⟨_,rfl⟩
def aux{vs}(h:vs.map aM=(ct .bunch).map some):∃x,dec .bunch vs=some x:=by
 have h0:vs.map aM=([.sl .val,.sl .row]:List Fl).map some:=h;obtain⟨a0,r0,rfl,h1⟩:=bP h0;obtain⟨a1,r1,rfl,h2⟩:=bP h1;obtain rfl:=cY h2;exact⟨_,rfl⟩
def auy{vs}(h:vs.map aM=(ct .wld).map some):∃x,dec .wld vs=some x:=by
 have h0:vs.map aM=([.sl .row,.sl .data]:List Fl).map some:=h;obtain⟨a0,r0,rfl,h1⟩:=bP h0;obtain⟨a1,r1,rfl,h2⟩:=bP h1;obtain rfl:=cY h2;exact⟨_,rfl⟩
def OE:TN:=by
 intro τ vs h;cases τ with
 |int=>exact at7 h
 |str=>exact at8 h
 |row=>exact at9 h
 |ints=>exact aua h
 |trms=>exact aub h
 |colss=>exact auc h
 |rowss=>exact aud h
 |pair=>exact aue h
 |u8=>exact auu h
 |bol=>exact auv h
 |val=>exact auf h
 |col=>exact aug h
 |by_=>exact auh h
 |bound=>exact aui h
 |often=>exact auj h
 |colStat=>exact auk h
 |data=>exact aul h
 |acc=>exact aum h
 |stat=>exact aun h
 |column=>exact auo h
 |term=>exact aup h
 |agg=>exact auq h
 |rel=>exact aur h
 |plan=>exact aus h
 |sign=>exact auw h
 |bunch=>exact aux h
 |wld=>exact auy h
 |span=>exact aut h
def auz:∀(τ:Ty)(x:Den τ),(B.enc τ x).map aM=(ct τ).map some:=by intro τ x;cases τ<;>rfl
def FK{x y:Val}(h:B.enc .val x=B.enc .val y):x=y:=by
 cases x;cases y;simp only[B.enc,fD,V.s.injEq,V.dat.injEq,Value.int.injEq,Value.bool.injEq,Value.string.injEq,heq_eq_eq,true_and,and_true,ci,cb,cs]at h;grind
def auA{x y:Col}(h:B.enc .col x=B.enc .col y):x=y:=by
 cases x;cases y;simp only[B.enc,fD,V.s.injEq,V.dat.injEq,Value.int.injEq,Value.bool.injEq,Value.string.injEq,heq_eq_eq,true_and,and_true,ci,cb,cs]at h;grind
def auB{x y:By}(h:B.enc .by_ x=B.enc .by_ y):x=y:=by
 cases x;cases y;simp only[B.enc,fD,V.s.injEq,V.dat.injEq,Value.int.injEq,Value.bool.injEq,Value.string.injEq,heq_eq_eq,true_and,and_true,ci,cb,cs]at h;grind
def CO{x y:Bound}(h:B.enc .bound x=B.enc .bound y):x=y:=by
 cases x;cases y;simp only[B.enc,fD,V.s.injEq,V.dat.injEq,Value.int.injEq,Value.bool.injEq,Value.string.injEq,heq_eq_eq,true_and,and_true,ci,cb,cs]at h;grind
def auC{x y:Often}(h:B.enc .often x=B.enc .often y):x=y:=by
 cases x;cases y;simp only[B.enc,fD,V.s.injEq,V.dat.injEq,Value.int.injEq,Value.bool.injEq,Value.string.injEq,heq_eq_eq,true_and,and_true,ci,cb,cs]at h;simp;obtain⟨e0,e1,e2,e3⟩:=h;exact⟨FK<|by simp_all[B.enc,ci,cb,cs],e3⟩
def abv{x y:ColStat}(h:B.enc .colStat x=B.enc .colStat y):x=y:=by
 cases x;cases y;simp only[B.enc,fD,V.s.injEq,V.dat.injEq,Value.int.injEq,Value.bool.injEq,Value.string.injEq,heq_eq_eq,true_and,and_true,ci,cb,cs]at h;grind
def auD{x y:Data}(h:B.enc .data x=B.enc .data y):x=y:=by
 cases x;cases y;simp only[B.enc,fD,V.s.injEq,V.dat.injEq,Value.int.injEq,Value.bool.injEq,Value.string.injEq,heq_eq_eq,true_and,and_true,ci,cb,cs]at h;grind
def auE{x y:Acc}(h:B.enc .acc x=B.enc .acc y):x=y:=by
 cases x;cases y;simp only[B.enc,fD,V.s.injEq,V.dat.injEq,Value.int.injEq,Value.bool.injEq,Value.string.injEq,heq_eq_eq,true_and,and_true,ci,cb,cs]at h;simp;obtain⟨e0,e1,e2,e3,e4,e5,e6,e7,e8⟩:=h;exact⟨e0,e1,e2,e3,e4,FK<|by simp_all[B.enc,ci,cb,cs],e8⟩
def auF{x y:Stat}(h:B.enc .stat x=B.enc .stat y):x=y:=by
 cases x;cases y;simp only[B.enc,fD,V.s.injEq,V.dat.injEq,Value.int.injEq,Value.bool.injEq,Value.string.injEq,heq_eq_eq,true_and,and_true,ci,cb,cs]at h;grind
def auG{x y:Column}(h:B.enc .column x=B.enc .column y):x=y:=by
 cases x;cases y;simp only[B.enc,fD,V.s.injEq,V.dat.injEq,Value.int.injEq,Value.bool.injEq,Value.string.injEq,heq_eq_eq,true_and,and_true,ci,cb,cs]at h;simp;obtain⟨e0,e1,e2,e3,e4,e5,e6⟩:=h;exact⟨abv<|by simp_all[B.enc,ci,cb,cs],e4,e5,e6⟩
def auH{x y:Term}(h:B.enc .term x=B.enc .term y):x=y:=by
 cases x;cases y;simp only[B.enc,Term.op_mk,Term.v_mk,Term.depth_mk,Term.at__mk,Term.name_mk,Term.kids_mk,Term.sub_mk,Term.type_mk,fD,V.s.injEq,V.dat.injEq,Value.int.injEq,Value.bool.injEq,Value.string.injEq,heq_eq_eq,true_and,and_true,ci,cb,cs]at h;simp;obtain⟨e0,e1,e2,e3,e4,e5,e6,e7,e8,e9⟩:=h;exact⟨e0,FK<|by simp_all[B.enc,ci,cb,cs],e4,e5,e6,e7,e8,e9⟩
def auI{x y:Agg}(h:B.enc .agg x=B.enc .agg y):x=y:=by
 cases x;cases y;simp only[B.enc,Agg.name_mk,Agg.distinct_mk,Agg.t_mk,fD,V.s.injEq,V.dat.injEq,Value.int.injEq,Value.bool.injEq,Value.string.injEq,heq_eq_eq,true_and,and_true,ci,cb,cs]at h;grind
def auJ{x y:Rel}(h:B.enc .rel x=B.enc .rel y):x=y:=by
 cases x;cases y;simp only[B.enc,Rel.op_mk,Rel.table_mk,Rel.cols_mk,Rel.kids_mk,Rel.terms_mk,Rel.aggs_mk,Rel.keys_mk,Rel.limit_mk,Rel.skip_mk,Rel.all_mk,Rel.rows_mk,fD,V.s.injEq,V.dat.injEq,Value.int.injEq,Value.bool.injEq,Value.string.injEq,heq_eq_eq,true_and,and_true,ci,cb,cs]at h;grind
def auK{x y:Plan}(h:B.enc .plan x=B.enc .plan y):x=y:=by
 cases x;cases y;simp only[B.enc,Plan.op_mk,Plan.table_mk,Plan.index_mk,Plan.cols_mk,Plan.kids_mk,Plan.terms_mk,Plan.lkeys_mk,Plan.rkeys_mk,Plan.aggs_mk,Plan.keys_mk,Plan.out_mk,Plan.lo_mk,Plan.hi_mk,Plan.limit_mk,Plan.skip_mk,Plan.all_mk,Plan.rows_mk,Plan.est_mk,Plan.cost_mk,fD,V.s.injEq,V.dat.injEq,Value.int.injEq,Value.bool.injEq,Value.string.injEq,heq_eq_eq,true_and,and_true,ci,cb,cs]at h;simp;obtain⟨e0,e1,e2,e3,e4,e5,e6,e7,e8,e9,e10,e11,e12,e13,e14,e15,e16,e17,e18,e19,e20,e21,e22⟩:=h;exact⟨e0,e1,e2,e3,e4,e5,e6,e7,e8,e9,e10,CO<|by simp_all[B.enc,ci,cb,cs],CO<|by simp_all[B.enc,ci,cb,cs],e17,e18,e19,e20,e21,e22⟩
def auL{x y:Span}(h:B.enc .span x=B.enc .span y):x=y:=by
 cases x;cases y;simp only[B.enc,fD,V.s.injEq,V.dat.injEq,Value.int.injEq,Value.bool.injEq,Value.string.injEq,heq_eq_eq,true_and,and_true,ci,cb,cs]at h;simp;obtain⟨e0,e1,e2,e3,e4,e5,e6,e7,e8⟩:=h;exact⟨e0,CO<|by simp_all[B.enc,ci,cb,cs],CO<|by simp_all[B.enc,ci,cb,cs],e7,e8⟩
def auM{x y:Sign}(h:B.enc .sign x=B.enc .sign y):x=y:=by
 cases x;cases y;simp only[B.enc,fD,V.s.injEq,V.dat.injEq,Value.int.injEq,Value.bool.injEq,Value.string.injEq,heq_eq_eq,true_and,and_true,ci,pW,cb,cs]at h;grind
def auN{x y:Bunch}(h:B.enc .bunch x=B.enc .bunch y):x=y:=by
 cases x;cases y;simp only[B.enc,fD,V.s.injEq,V.dat.injEq,Value.int.injEq,Value.bool.injEq,Value.string.injEq,heq_eq_eq,true_and,and_true,ci,pW,cb,cs]at h;grind
def auO{x y:Wld}(h:B.enc .wld x=B.enc .wld y):x=y:=by
 cases x;cases y;simp only[B.enc,fD,V.s.injEq,V.dat.injEq,Value.int.injEq,Value.bool.injEq,Value.string.injEq,heq_eq_eq,true_and,and_true,ci,pW,cb,cs]at h;grind
def auP:∀{τ:Ty}{x y:Den τ},B.enc τ x=B.enc τ y→x=y:=by
 intro τ x y h;cases τ with
 |int=>simp_all[B.enc,ci,cs]
 |str=>simp_all[B.enc,ci,cs]
 |row=>simp_all[B.enc,ci,cs]
 |ints=>simp_all[B.enc,ci,cs]
 |trms=>simp_all[B.enc,ci,cs]
 |colss=>simp_all[B.enc,ci,cs]
 |rowss=>simp_all[B.enc,ci,cs]
 |pair=>grind[B.enc,ci]
 |u8=>simp_all[B.enc,pW]
 |bol=>simp_all[B.enc,cb]
 |val=>exact FK h
 |col=>exact auA h
 |by_=>exact auB h
 |bound=>exact CO h
 |often=>exact auC h
 |colStat=>exact abv h
 |data=>exact auD h
 |acc=>exact auE h
 |stat=>exact auF h
 |column=>exact auG h
 |term=>exact auH h
 |agg=>exact auI h
 |rel=>exact auJ h
 |plan=>exact auK h
 |sign=>exact auM h
 |bunch=>exact auN h
 |wld=>exact auO h
 |span=>exact auL h
def auQ:∀τ,0<sz τ:=by intro τ;cases τ<;>decide
def byt:Ty→Nat
 | .int=>8
 | .str=>16
 | .row=>24
 | .ints=>24
 | .trms=>24
 | .colss=>24
 | .rowss=>24
 | .pair=>16
 | .u8=>1
 | .bol=>1
 | .sign=>16
 | .bunch=>48
 | .wld=>48
 | .val=>32
 | .col=>40
 | .by_=>16
 | .bound=>32
 | .often=>40
 | .colStat=>64
 | .data=>40
 | .acc=>104
 | .stat=>56
 | .column=>88
 | .term=>128
 | .agg=>48
 | .rel=>192
 | .plan=>360
 | .span=>120
def tl:Option (TI Un)→TI Un
 |some (.sl _ .pair _)=>.oth
 |some x=>x
 |none=>.oth
def abw{x e}{τ:Ty}{b}(h:tl (some x)=.sl e τ b):x=.sl e τ b∧τ≠.pair:=by
 cases x with
 |sl e' τ' b'=>
  cases τ'<;>simp[tl]at h<;>(obtain⟨rfl,rfl,rfl⟩:=h;exact⟨rfl,by simp⟩)
 |_=>simp[tl]at h
def ip(t:TypeId):TI Un:=tl<|look t tab
noncomputable def OF:TI Un→Bool
 | .sl _ .pair _=>true
 | .sl e τ b=>lay Tryz.prog ip 8 e==some (ct τ)&&Tryz.prog.cellsOf e==sz τ&&Tryz.prog.bytesOf e==byt τ&&b==byt τ
 |_=>true
def abx{e}{τ:Ty}{b}(h:OF (.sl e τ b)=true)(hp:τ≠.pair):(lay Tryz.prog ip 8 e=some (ct τ)∧Tryz.prog.cellsOf e=sz τ)∧Tryz.prog.bytesOf e=byt τ:=by
 cases τ<;>first|exact absurd rfl hp|(simp only[OF,yp,beq_iff_eq]at h;exact h.1)
noncomputable def OG:Bool:=tab.all fun x=>OF x.2
def aby:OG=true:=by rfl
def OH{t e}{τ:Ty}{b}(h:ip t=.sl e τ b):(lay Tryz.prog ip 8 e=some (ct τ)∧Tryz.prog.cellsOf e=sz τ)∧Tryz.prog.underlying t=some (.slice e):=by
 have hb:=aby;unfold OG at hb;rw[y1b]at hb;unfold ip at h;cases hl:look t tab with
 |none=>simp_all[tl]
 |some x=>
  rw[hl]at h;have hm:=hb _<|sJ hl;obtain⟨rfl,hp⟩:=abw h;have ht:=(DR (fun _=>none) (fun _=>none) (fun _=>none) (fun _=>none) fun _=>none).ti t;have hti:(gG (fun _=>none) (fun _=>none) (fun _=>none) (fun _=>none) fun _=>none).ti t=.sl e τ b:=by
   simp_all[Mc.ti,gG]
  rw[hti]at ht;exact⟨(abx hm hp).1,ht.2.1⟩
def auR{t e}{τ:Ty}{b}(h:ip t=.sl e τ b):Tryz.prog.bytesOf e=byt τ:=by
 have hb:=aby;unfold OG at hb;rw[y1b]at hb;unfold ip at h;cases hl:look t tab with
 |none=>simp_all[tl]
 |some x=>
  rw[hl]at h;have hm:=hb _<|sJ hl;obtain⟨rfl,hp⟩:=abw h;exact(abx hm hp).2
section
variable {H:Type} {enc':TypeId×Value→H} {w:World} {spare:Nat→Bool} {held:Bool} {base:Nat} {r:Reach} {b0:Nat}
def abz{t cs d ps k fl}(h:∃n,DataW.trod enc' Tryz.prog w 0 spare held n t cs=some (d,ps))(hl:lay Tryz.prog ip k t=some fl):
 ∃vs,All2 (VRel En (iN w) w) cs vs∧vs.map aM=fl.map some∧((∀q∈d.weights Tryz.prog t,q≤reachBytes)→∀v∈vs,VB byt v)∧BKS vs (Rows.uptoBulk d- 1):=by
 obtain⟨n,h⟩:=h;exact aiQ (fun t e τ b ht=>auR ht) (fun t e τ b ht=>⟨8,(OH ht).1.1⟩) OE auQ (fun t e τ b ht=>(OH ht).1.2) n t cs _ k fl h hl
def auS{t e}{τ:Ty}{b}(ht:ip t=.sl e τ b){v d ps}(hval:Value.okWide Tryz.prog w r b0 t v)(hd:DataW.Trod enc' Tryz.prog w 0 spare held t v d ps):
 ∃l:List (Den τ),DRel Tryz.prog En (iN w) w v (.d (.v (.dat (U:=Un) τ l)))∧((∀q∈d.weights Tryz.prog t,q≤reachBytes)→VB byt (.dat (U:=Un) τ l))∧BKL τ l (Rows.uptoBulk d- 1):=by
 have hu:=(OH ht).2;obtain⟨a,len,cap,rfl⟩:=Go.WideShapes.okWide_slice hu hval;obtain⟨vs,h1,h2,h4,h5⟩:=abz (k:=1) (fl:=[.sl τ]) hd (by simp_all[lay,if_true]);obtain⟨l,rs,rfl,h3⟩:=bP h2;refine⟨l,h1.1,fun hq=>h4 hq _ cP,?_⟩;cases h5 with
 |cons _ _ a c _ g1 g2 hn=>
  cases g1 with
  |dat _ _ _ g3=>exact g3.mono (by omega)
def auT{t} τ{fs}(hu:Tryz.prog.underlying t=some (.struct fs))(hl:lay Tryz.prog ip 8 t=some (ct τ)){v d ps}(hval:Value.okWide Tryz.prog w r b0 t v)(hd:DataW.Trod enc' Tryz.prog w 0 spare held t v d ps):
 ∃x:Den τ,DRel Tryz.prog En (iN w) w v (.d<|.agg<|B.enc τ x)∧((∀q∈d.weights Tryz.prog t,q≤reachBytes)→∀c∈B.enc τ x,VB byt c)∧BKS (B.enc τ x) (Rows.uptoBulk d- 1):=by
 obtain⟨cs,rfl,_⟩:=Go.WideShapes.okWide_struct hu hval;obtain⟨vs,h1,h2,h4,h5⟩:=abz hd hl;obtain⟨x,hx⟩:=OE τ vs h2;refine⟨x,?_⟩;rw[zJ τ vs x hx];exact⟨⟨cs,rfl,h1⟩,h4,h5⟩
end
def abA(τ:Ty):TI Un→Bool
 | .sl _ τ' _=>decide<|τ'=τ
 |_=>false
def auU{t τ}(h:abA τ (ip t)=true):ip t=.sl (match ip t with| .sl e _ _=>e|_=>0) τ (match ip t with| .sl _ _ b=>b|_=>0):=by
 cases hx:ip t with
 |sl e τ' b=>
  rw[hx]at h;have:τ'=τ:=of_decide_eq_true h;grind
 |_=>rw[hx]at h;simp[abA]at h
def abB:Option TypeDesc→Bool
 |some (.struct _)=>true
 |_=>false
def auV{t}(h:abB (Tryz.prog.underlying t)=true):∃fs,Tryz.prog.underlying t=some (.struct fs):=by
 unfold abB at h;grind
theorem auW τ x:dS τ (.d<|.agg<|B.enc τ x)=some x:=by
 obtain⟨y,hy⟩:=OE τ (B.enc τ x)<|auz τ x;show dec τ (B.enc τ x)=some x;rw[hy];exact congrArg some<|auP<|zJ τ _ y hy
def auX{f F}(hok:aj f F){args ob}(hF:F args=some (ob,[.c<|.s<|.bool true],[]))(hob:∀p∈ob,p){w vs}(hrel:All2 (DRel Tryz.prog En (iN w) w) vs args)(hld:Laid w:=by exact Laid.none _):
 Calls Tryz.prog f vs.toArray w fun e w'=>e=.returned (.bool true)∧Ext w w':=by
 refine((hok args ob _ [] hF hob).1 w (iN w) vs (fun b o h=>h) hrel hld).mono ?_;rintro e w' ⟨v,rfl,hx,g,-,-,-,hr,-⟩;exact⟨by rw[show v=.bool true from hr.1],hx⟩
end B
end Go.Proofs.YtjfpbchdcbhfgaaGreat
