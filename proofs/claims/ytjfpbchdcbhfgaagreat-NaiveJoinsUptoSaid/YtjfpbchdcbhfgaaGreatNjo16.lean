/- Part 16 of the proof: Lstx5 Lordr Lnord Snaive4 Snvspec Lnlb Lnlc Lbulkn BLaw. -/
import Derived.Sort.Statements
import Derived.Test.YtjfpbchdcbhfgaaGreatNjo15
set_option linter.unusedVariables false
set_option linter.unusedSimpArgs false
namespace Go.Proofs.YtjfpbchdcbhfgaaGreat
namespace B
open Go Go.RowKit Go.Shelf Go.Lib Go.Sort
set_option maxRecDepth 1000000
set_option linter.unusedVariables false
noncomputable section
section
variable {α:Type} [Inhabited α]
set_option maxHeartbeats 4000000 in
theorem z2py(enc:α→Value)(cf:α→α→Int)(g:Nat)(cb:Array Value)(blk off cap:Nat)(d0 d:Array α)(w0 w:World)
  (eg:∀args w,(callFunc g args).run Tryz.prog w=.ok (.enter g args) w)(hcmp:CmpX Tryz.prog g cb enc cf blk off d0.size w0)
  (R:Row1 enc w0 blk off d0)(hs:d0.size=d.size)(S:SX enc w0 blk off d w)(hsz:d.size<1152921504606846976):
  Calls Tryz.prog 145 #[.slice (some ⟨blk,off,none⟩) d.size cap,.func (.func g) #[] cb] w fun e w'=>e=.returned (.tuple #[])∧SX enc w0 blk off (stF (ltOf cf) d d.size) w':=by
 have H:=Lib.hid (z2ld enc cf g cb blk off cap d0 d w0 w eg hcmp R hs S hsz);clear S hcmp;obtain⟨n,hn⟩:∃n,n=d.size:=⟨_,rfl⟩;rw[←hn]at H hsz ⊢;clear hn
 go_enter Tryz.func145,Tryz.ntmps145
 go_wp2_with (first
  |(go_at_call 191;refine H.out.mono ?_;rintro e1 w1 ⟨rfl,T⟩;have S1:=Lib.hid T;clear T)
  |fail)
 go_end0
 exact⟨rfl,S1.out⟩
end
theorem z2ni(p:Option Addr)(cap g:Nat)(cb:Array Value)(w:World):Calls Tryz.prog 226 #[.slice p 0 cap,.int .i64 0,.int .i64 0,.func (.func g) #[] cb] w fun e w'=>e=.returned (.tuple #[])∧w'=w:=by
 go_enter Tryz.func226,Tryz.ntmps226
 go_wp2_with fail
 go_loopg [8] 0 (fun kx s8 wr=>s8=.int .i64 1∧wr=w)
 case atStart=>exact⟨by go_num,rfl⟩
 case round=>
  obtain⟨rfl,rfl⟩:=hrel
  go_wp2_with fail
  go_end0
  exact⟨rfl,rfl⟩
theorem z2et(p:Option Addr)(cap g:Nat)(cb:Array Value)(w:World):Calls Tryz.prog 191 #[.slice p 0 cap,.int .i64 0,.func (.func g) #[] cb] w fun e w'=>e=.returned (.tuple #[])∧w'=w:=by
 go_enter Tryz.func191,Tryz.ntmps191
 go_wp2_with fail
 go_loopg [7,8] 0 (fun kx s7 s8 wr=>s7=.int .i64 0∧s8=.int .i64 20∧wr=w)
 case atStart=>exact⟨by go_num,by go_num,rfl⟩
 case round=>
  obtain⟨rfl,rfl,rfl⟩:=hrel
  go_wp2_with (first
   |(go_at_call 226;refine(z2ni _ _ _ _ _).mono ?_;rintro e1 w1 ⟨rfl,rfl⟩)
   |fail)
  go_loopg [6,7,8,9] 0 (fun kx s6 s7 s8 s9 wr=>s6=.int .i64 20∧wr=w1)
  case atStart=>exact⟨by go_num,rfl⟩
  case round=>
   obtain⟨rfl,rfl⟩:=hrel
   go_wp2_with fail
   go_end0
   exact⟨rfl,rfl⟩
theorem z2nj(p:Option Addr)(cap g:Nat)(cb:Array Value)(w:World):Calls Tryz.prog 145 #[.slice p 0 cap,.func (.func g) #[] cb] w fun e w'=>e=.returned (.tuple #[])∧w'=w:=by
 go_enter Tryz.func145,Tryz.ntmps145
 go_wp2_with (first
  |(go_at_call 191;refine(z2et _ _ _ _ _).mono ?_;rintro e1 w1 ⟨rfl,rfl⟩)
  |fail)
 go_end0
 exact⟨rfl,rfl⟩
theorem z2bo{α:Type}[Inhabited α]{enc:α→Value}{w W:World}{b off:Nat}{d0 d:Array α}(hb:b<w.heap.size)(hH:Holds enc w b off d0)(hs:d.size=d0.size)(h:SX enc w b off d W):PutR w W b off (d.toList.map enc):=by
 have q:=z2bn (n:=0) (os:=#[]) hb hH hs;rw[grow_empty]at q;have q:PutR w (putRow enc w b off d) b off (d.toList.map enc):=q;refine⟨h.os.trans q.os,h.tape.trans q.tape,h.output.trans q.output,h.le,fun k hk hne=>(h.block k hk).trans (q.block k hk hne),fun i v hv=>?_,fun p hp ho=>?_,fun p hp=>?_⟩
 ·exact(Below.cell h hb).trans (q.cell i v hv)
 ·exact(Below.cell h hp).trans (q.other p hp ho)
 ·exact(z13b (h.block p.block hp)).trans (q.frozen p hp)
theorem z2ik{w w':World}(h:Ext w w'):Below w.heap.size w w':=⟨h.os,h.tape,h.output,h.size,fun k hk=>h.block hk⟩
theorem z2le{α β:Type}(f:α→β)(le:β→β→Bool)(l:List α)(x:α):(insS (fun a b=>le (f a) (f b)) l x).map f=insS le (l.map f) (f x):=by
 unfold insS;rw[y4d,yy,List.takeWhile_map,List.dropWhile_map];rfl
theorem z2il{α β:Type}(f:α→β)(le:β→β→Bool)(l:List α):(z27 (fun a b=>le (f a) (f b)) l).map f=z27 le (l.map f):=by
 have key:∀(l s:List α),(l.foldl (insS fun a b=>le (f a) (f b)) s).map f=(l.map f).foldl (insS le) (s.map f):=by
  intro l
  induction l with
  |nil=>intro s;rfl
  |cons x l ih=>intro s;rw[yx,yy,yx,ih,z2le]
 exact key l []
theorem z2nk{St:Nat→Nat→Prop}{w:World}{v:Value}{τ:Ty}{xs:List (Den τ)}(h:VRel En St w v (.dat (U:=Un) τ xs)):∃a n c,v=.slice a n c:=by
 rcases h.inv with⟨_,a,c,rfl⟩|⟨b,o,c,cv,rfl,_⟩
 ·exact⟨_,_,_,rfl⟩
 ·exact⟨_,_,_,rfl⟩
theorem z2p0{β:Type}(xs:List β):((List.finRange xs.length).map fun i=>xs[i.1]'i.2)=xs:=by
 apply List.ext_getElem
 ·simp
 ·intro i h1 h2;simp
def leP{β:Type}(p:β→β→Int)(a b:β):Bool:=!decide (p b a<0)
def znq:FnU Un:=fun τ xs args=>match τ,xs,args with
 | .row,xs,[x1]=>(dF x1).bind fun φ=>some ([xs.length≤1000000000,φ=z12 (z2m φ) (z1w φ),(∀x∈xs,∀y∈xs,z2m φ x y),Pre (leP (z1w φ))],z27 (leP (z1w φ)) xs)
 |_,_,_=>none
theorem z1vj:UpOK 145 znq:=by
  intro τ xs ds ob ys h hob;unfold znq at h;split at h
  · rename_i xs x1;simp only[y7,y8,ym]at h;obtain⟨φ,e1,rfl,rfl⟩:=h;obtain rfl:=zpb e1;have hlen:xs.length≤1000000000:=hob _ (by simp);have hφ:φ=z12 (z2m φ) (z1w φ):=hob _ (by simp);have ho:∀x∈xs,∀y∈xs,z2m φ x y:=hob _ (by simp);have hP:Pre (leP (z1w φ)):=hob _ (by simp);generalize z2m φ=o at hφ ho;generalize z1w φ=p at hφ hP ⊢;refine⟨fun w g k ver live vs hO hown hvs hld hnl=>?_,zk Tryz.func145 (by kernel_rfl) (by kernel_rfl)⟩
    match vs,hvs with
    |[v1],⟨hv,_⟩=>
      obtain⟨f,caps,rfl,hbody,hg⟩:=hv;have hsl:(z27 (leP p) xs).length=xs.length:=z78 hP xs;by_cases hne:xs=[]
      · subst hne;refine(z2nj (g.tk k).1 (g.tk k).2 f caps w).mono ?_;rintro e w' ⟨rfl,rfl⟩;exact⟨rfl,hsl,⟨rfl,rfl,rfl,y6 _,fun _ _ _=>rfl,fun _ _ _ _=>rfl,fun _ _ _ _=>rfl,hld,fun b hl=>hld.lt b hl,hnl⟩,hO⟩
      · obtain⟨b,off,htk,hcap,hA⟩:=hO.open1 hne;have hpos:0<xs.length:=y2p.2 hne;have hb:b<w.heap.size:=z6j (hA.cell 0 0 hpos (show(0:Nat)<1 from Nat.one_pos)).1;have h0:(g.tk k).1=some ⟨b,off,none⟩:=by rw[htk]
        rw[h0];have hcl:∀i,i<xs.length→w.cell? ⟨b,off+i,none⟩=some ((w.cell? ⟨b,off+i,none⟩).getD undef)∧w.frozen? ⟨b,off+i,none⟩=false∧VRel En g.St w ((w.cell? ⟨b,off+i,none⟩).getD undef) (.dat (U:=Un) Ty.val (xs.getD i [])):=fun i hi=>by
          have hc:=hA.cell i 0 hi (show(0:Nat)<1 from Nat.one_pos);have hr:=hA.rel i hi 0 (.dat (U:=Un) Ty.val xs[i]) rfl;have e:off+i*Un.sz Ty.row+0=off+i:=by show off+i*1+0=off+i;omega
          rw[e]at hc hr;have hm:=hc.2.2 (yb _);refine⟨hc.1,?_,?_⟩
          · exact zo6 hm.2
          · rw[yd,ya hi];exact hr
        haveI:Inhabited (Fin xs.length):=⟨⟨0,hpos⟩⟩
        let enc:Fin xs.length→Value:=fun i=>(w.cell? ⟨b,off+i.1,none⟩).getD undef;let cf:Fin xs.length→Fin xs.length→Int:=fun i j=>p (xs.getD i.1 []) (xs.getD j.1 []);let d:Array (Fin xs.length):=(List.finRange xs.length).toArray;have hds:d.size=xs.length:=by simp[d]
        have hdj:∀j(hj:j<xs.length),d[j]! =⟨j,hj⟩:=fun j hj=>by
          rw[getElem!_pos d j (by omega)];simp[d]
        have hH:Holds enc w b off d:=fun j hj=>by
          rw[hds]at hj;rw[hdj j hj];exact⟨(hcl j hj).1,(hcl j hj).2.1⟩
        have h1c:OneCell enc:=fun x=>by obtain⟨a,n,c,e⟩:=z2nk (hcl x.1 x.2).2.2;show(enc x).oneCell'=true;rw[show enc x=.slice a n c from e];rfl
        have R:Row1 enc w b off d:=⟨h1c,hH,hb⟩;have S0:SX enc w b off d w:=by unfold SX;rw[putRow_self enc w b off d hH];exact Below.refl _ _
        have hbnd:∀b o,g.St b o→b<w.heap.size:=fun b o h=>hown b o _ h;have hcmp:CmpX Tryz.prog f caps enc cf b off d.size w:=fun W dk hsz hW x y=>by
          have hpr:=z2bo hb hH hsz hW;have hdl:(dk.toList.map enc).length=xs.length:=by rw[yu,y1n,hsz,hds]
          have hk:Keeps g.St w g.St W:=fun b' o hs=>⟨hs,hpr.other _ (hbnd b' o hs) (by
            by_cases e1:b'=b
            · subst e1;by_cases e2:o<off
              · exact .inl e2
              · by_cases e3:off+xs.length≤o
                · right;left;rw[hdl];exact e3
                · exfalso;have hc:=(hA.cell (o- off) 0 (show o- off<xs.length by omega) (show(0:Nat)<1 from Nat.one_pos)).2.2 (yb _);have e:off+(o- off)*Un.sz Ty.row+0=o:=by show off+(o- off)*1+0=o;omega
                  rw[e]at hc;have h9:g.ω b' o=some .st:=hs;rw[h9]at hc;simp at hc
            · exact .inr (.inr e1))⟩
          have hldW:Laid W:=hld.on hW.le fun k hl=>hpr.block k (hld.lt k hl) fun e=>hnl k (off+0) hl (by
            have hc:=(hA.cell 0 0 hpos (show(0:Nat)<1 from Nat.one_pos)).2.2 (yb _)
            rw[e];simpa using hc.1)
          have hvx:=(hcl x.1 x.2).2.2.mono hk;have hvy:=(hcl y.1 y.2).2.2.mono hk;have hm:∀i:Fin xs.length,xs.getD i.1 []∈xs:=fun i=>by rw[yd,ya i.2];exact y1z _
          refine(hg g.St W hk (fun b' o hs=>yn (hbnd b' o hs) hW.le) hldW [.v (.dat (U:=Un) Ty.val (xs.getD x.1 [])),.v (.dat (U:=Un) Ty.val (xs.getD y.1 []))] [o (xs.getD x.1 []) (xs.getD y.1 [])] [.v (.s (.int .i64 (cf x y)))]
            (by rw[hφ];unfold z12;simp only[z1ml,yh];rfl) (fun q hq=>by rw[yi.1 hq];exact ho _ (hm x) _ (hm y)) [enc x,enc y] ⟨hvx,hvy,trivial⟩).mono ?_
          rintro e w' ⟨v,rfl,⟨hx,St',-,-,hr⟩,-⟩;exact⟨by rw[show v=.int .i64 (cf x y)from(z2ij hr).1],z2ik hx⟩
        have eg:∀args W,(callFunc f args).run Tryz.prog W=.ok (.enter f args) W:=fun args W=>by
          obtain⟨fn,c,q1,q2,q3⟩:=hbody;have hn:fn.name≠ "runtime.NumGoroutine" :=by simpa using q3
          simp[callFunc,q1,q2,hn]
        have hle:∀x y:Fin xs.length,leP p (xs.getD x.1 []) (xs.getD y.1 [])=!ltOf cf y x:=fun x y=>rfl;have hPF:Pre fun x y:Fin xs.length=>leP p (xs.getD x.1 []) (xs.getD y.1 []):=⟨fun a b c=>hP.trans _ _ _,fun a b=>hP.total _ _⟩;have hst:=z2lb hle hPF d;have hmap:=z2il (fun i:Fin xs.length=>xs.getD i.1 []) (leP p) (List.finRange xs.length);have hfm:((List.finRange xs.length).map fun i=>xs.getD i.1 [])=xs:=by
          have:=z2p0 xs
          conv=>rhs;rw[←this]
          apply y41;intro i _;rw[yd,ya i.2];rfl
        rw[hfm]at hmap;have hss:(stF (ltOf cf) d d.size).size=d.size:=by rw[←y1n,hst,z78 hPF,y1n]
        have hw:=(z2py enc cf f caps b off (g.tk k).2 d d w w eg hcmp R rfl S0 (by omega)).mono (fun e w' hq=>show e=.returned (.tuple #[])∧PutR w w' b off ((z27 (fun x y:Fin xs.length=>leP p (xs.getD x.1 []) (xs.getD y.1 [])) d.toList).map enc) by
          have hp:=z2bo hb hH hss hq.2;rw[hst]at hp
          exact⟨hq.1,hp⟩)
        rw[hds]at hw;refine hw.mono ?_;rintro e w' ⟨rfl,hp⟩;have hul:((z27 (fun x y:Fin xs.length=>leP p (xs.getD x.1 []) (xs.getD y.1 [])) d.toList).map enc).length=xs.length:=by rw[yu,z78 hPF,y1n,hds]
        obtain⟨r1,_⟩:=ObRel.put (w':=w') (ys:=z27 (leP p) xs) (τ:=.row) rfl htk hb hown hA hp hul (by rw[hul,hsl];exact y6 _) hcap (by omega) (fun i hi dd hd=>by
          have hd':some (V.dat (U:=Un) Ty.val (z27 (leP p) xs)[i])=some dd:=hd;cases hd';have hi2:i<(z27 (fun x y:Fin xs.length=>leP p (xs.getD x.1 []) (xs.getD y.1 [])) d.toList).length:=by rw[yu]at hul;omega
          refine⟨enc (z27 (fun x y:Fin xs.length=>leP p (xs.getD x.1 []) (xs.getD y.1 [])) d.toList)[i],by rw[y14,ya hi2];rfl,?_⟩;have h3:(z27 (leP p) xs)[i]?=some (xs.getD ((z27 (fun x y:Fin xs.length=>leP p (xs.getD x.1 []) (xs.getD y.1 [])) d.toList)[i]).1 []):=by
            rw[←hmap,y14];have:(List.finRange xs.length)=d.toList:=rfl;rw[this,ya hi2];rfl
          rw[ya hi]at h3;rw[yk h3]
          exact(hcl _ (Fin.isLt _)).2.2)
        refine⟨rfl,hsl,?_,r1⟩;refine FExt.put (fr:=⟨w,fun b i=>g.ω b i=some (.obj k),g.St,0,g.β⟩) hp (fun i hi=>?_) (by rw[hul];exact hpos) hld hnl;rw[hul]at hi;have hc:=(hA.cell i 0 hi (show(0:Nat)<1 from Nat.one_pos)).2.2 (yb _);have e:off+i*Un.sz Ty.row+0=off+i:=by show off+i*1+0=off+i;omega
        rw[e]at hc;exact hc.1
  · simp at h
end
end B
namespace B
open Go Go.RowKit
set_option linter.unusedVariables false
theorem z1ys:∀a b:List Val,ordR b a=- ordR a b
 |[],[]=>rfl
 |[],_::_=>rfl
 |_::_,[]=>rfl
 |a::l,b::r=>by
  simp only[ordR];have h:=zl9 a b;by_cases e:ordV a b=0
  ·rw[if_pos e,if_pos (by omega)];exact z1ys l r
  ·rw[if_neg e,if_neg (by omega)];exact h
theorem z1ra:∀{a b c:List Val},ordR a b<0→ordR b c<0→ordR a c<0
 |[],[],_,h,_=>by simp[ordR]at h
 |[],_::_,[],_,h=>by simp[ordR]at h
 |[],_::_,_::_,_,_=>by simp[ordR]
 |_::_,[],_,h,_=>by simp[ordR]at h
 |_::_,_::_,[],_,h=>by simp[ordR]at h
 |a::l,b::r,c::t,h1,h2=>by
  simp only[ordR]at h1 h2 ⊢;by_cases e1:ordV a b=0
  ·rw[if_pos e1]at h1;rw[ordV_zero]at e1;subst e1;by_cases e2:ordV a c=0
   ·rw[if_pos e2]at h2 ⊢;exact z1ra h1 h2
   ·rw[if_neg e2]at h2 ⊢;exact h2
  ·rw[if_neg e1]at h1;by_cases e2:ordV b c=0
   ·rw[ordV_zero]at e2;subst e2;rw[if_neg e1];exact h1
   ·rw[if_neg e2]at h2;have:=znk h1 h2;rw[if_neg (by omega)];exact this
end B
namespace B
open Go Go.RowKit
set_option linter.unusedVariables false
theorem z1kv(x y:Int): -1≤cmpI x y∧cmpI x y≤1:=by unfold cmpI;split<;>(try split)<;>omega
theorem z26k:∀(a b:List UInt8),-1≤cmpL a b∧cmpL a b≤1
 |[],[]=>by simp[cmpL]
 |[],_::_=>by simp[cmpL]
 |_::_,[]=>by simp[cmpL]
 |a::l,b::r=>by
  rw[cmpL];split
  ·exact z26k l r
  ·exact z1kv _ _
theorem z2lf(a b:Val): -1≤ordV a b∧ordV a b≤1:=by
 unfold ordV;split
 ·split
  ·exact z26k _ _
  ·exact z1kv _ _
 ·exact z1kv _ _
theorem zyn(a b:List Val)(k:By):kc a b k=if k.down=true then- ordV (z15 a k.at_) (z15 b k.at_)else ordV (z15 a k.at_) (z15 b k.at_):=by
 have hb:=z2lf (z15 a k.at_) (z15 b k.at_);unfold kc zbg;rw[IntWalk.i64_in _ (by omega),Int.zero_sub]
theorem z2nl(a b:List Val)(k:By):kc b a k=- kc a b k:=by
 rw[zyn,zyn,zl9 (z15 a k.at_)];split<;>omega
theorem kc_zero{a b:List Val}{k:By}:kc a b k=0↔z15 a k.at_=z15 b k.at_:=by
 rw[zyn,←ordV_zero];split<;>omega
theorem z2lg{a b c:List Val}{k:By}(h1:kc a b k<0)(h2:kc b c k<0):kc a c k<0:=by
 rw[zyn]at h1 h2 ⊢;split at h1
 ·rename_i hd;rw[if_pos hd]at h2 ⊢;have e1:=zl9 (z15 a k.at_) (z15 b k.at_);have e2:=zl9 (z15 b k.at_) (z15 c k.at_);have e3:=zl9 (z15 a k.at_) (z15 c k.at_);have:=znk (show ordV (z15 c k.at_) (z15 b k.at_)<0 by omega) (show ordV (z15 b k.at_) (z15 a k.at_)<0 by omega);omega
 ·rename_i hd;rw[if_neg hd]at h2 ⊢;exact znk h1 h2
theorem z2nm{a b c:List Val}{k:By}(h:kc a b k=0):kc a c k=kc b c k:=by
 rw[zyn,zyn,kc_zero.1 h]
theorem z2lh{a b c:List Val}{k:By}(h:kc b c k=0):kc a c k=kc a b k:=by
 rw[zyn,zyn,kc_zero.1 h]
theorem z26l(a b:List Val):ord1 a b []=ordR a b:=rfl
theorem zyo(a b:List Val)(k:By)(r:List By):ord1 a b (k::r)=if kc a b k=0 then ord1 a b r else kc a b k:=by
 show(if(kc a b k !=0)=true then kc a b k else ord1 a b r)=_;by_cases h:kc a b k=0
 ·rw[if_neg (by simp[h]),if_pos h]
 ·rw[if_pos (by simpa using h),if_neg h]
theorem z1c0(a b:List Val):∀keys:List By,ord1 b a keys=- ord1 a b keys
 |[]=>by rw[z26l,z26l];exact z1ys a b
 |k::r=>by
  rw[zyo,zyo,z2nl a b,z1c0 a b r];by_cases h:kc a b k=0
  ·rw[if_pos h,if_pos (by omega)]
  ·rw[if_neg h,if_neg (by omega)]
theorem z1yt{a b:List Val}:∀{keys:List By},ord1 a b keys=0→a=b
 |[],h=>ordR_zero.1 h
 |k::r,h=>by
  rw[zyo]at h;by_cases e:kc a b k=0
  ·rw[if_pos e]at h;exact z1yt h
  ·rw[if_neg e]at h;exact absurd h e
theorem z1rb{a b c:List Val}:∀{keys:List By},ord1 a b keys<0→ord1 b c keys<0→ord1 a c keys<0
 |[],h1,h2=>z1ra h1 h2
 |k::r,h1,h2=>by
  rw[zyo]at h1 h2 ⊢;by_cases e1:kc a b k=0
  ·rw[if_pos e1]at h1;rw[z2nm e1];by_cases e2:kc b c k=0
   ·rw[if_pos e2]at h2 ⊢;exact z1rb h1 h2
   ·rw[if_neg e2]at h2 ⊢;exact h2
  ·rw[if_neg e1]at h1;by_cases e2:kc b c k=0
   ·rw[z2lh e2,if_neg e1];exact h1
   ·rw[if_neg e2]at h2;have:=z2lg h1 h2;rw[if_neg (by omega)];exact this
theorem z1kw(keys:List By):Pre (leP fun a b=>ord1 a b keys) where
 trans:=fun a b c h1 h2=>by
  have g1:¬ord1 b a keys<0:=by simpa[leP]using h1
  have g2:¬ord1 c b keys<0:=by simpa[leP]using h2
  have g3:¬ord1 c a keys<0:=by
   intro h;have e1:=z1c0 b a keys;by_cases e:ord1 b a keys=0
   ·have:=z1yt e;subst this;exact g2 h
   ·exact g2 (z1rb h (show ord1 a b keys<0 by omega))
  simpa[leP]using g3
 total:=fun a b=>by
  have:=z1c0 a b keys;by_cases h:ord1 b a keys<0
  ·right;have g:¬ord1 a b keys<0:=by omega
   simpa[leP]using g
  ·left;simpa[leP]using h
end B
namespace B
open Go Go.RowKit
set_option maxRecDepth 100000
noncomputable section
attribute [local irreducible] awp ctxK zw z1a retQ z1m awf ctxF z1l
def znr:Mc Un:=mcF_ [] [] [(146,z1r5)] [] [(145,znq)]
def zyp(r:List (List Val)):List (A Un):=[.c (.ob 0 0)]
def zyq(r:List (List Val)):List (Bool×List (C Un)):=[]
def zyr(r:List (List Val)):List (Ob Un):=[⟨0,Ty.row,r,some 0,true⟩]
def zys(r:List (List Val)):RGF Un:=(zyp r,zyq r,zyr r)
def zwu(l:List (List Val))(keys:List By):Option (RGF Un):=awf znr z286 (zf Tryz.f93) (z1lp Tryz.f93.ntmps 0 [.c (.ob 0 0),.c (.sl (U:=Un) Ty.by_ keys false)] [] [⟨0,Ty.row,l,(some 0),true⟩]) (z21u znr 0 Tryz.f93.results.toList [.m])
theorem z1kx(l:List (List Val))(keys:List By):zwu l keys=obO (l.length≤(1000000000:Nat)) (obO ((z12 (fun a b=>True) fun a b=>ord1 a b keys)=z12 (z2m (z12 (fun a b=>True) fun a b=>ord1 a b keys)) (z1w (z12 (fun a b=>True) fun a b=>ord1 a b keys))) (obO (∀(x:Un.Den Ty.row),x∈l→∀(y:Un.Den Ty.row),y∈l→z2m (z12 (fun a b=>True) fun a b=>ord1 a b keys) x y) (obO (Pre (leP (z1w (z12 (fun a b=>True) fun a b=>ord1 a b keys)))) (some (zys (z27 (leP (z1w (z12 (fun a b=>True) fun a b=>ord1 a b keys))) l)))))):=by kernel_rfl
def z55(l:List (List Val))(keys:List By):List (List Val):=z27 (leP fun a b=>ord1 a b keys) l
theorem z1c1(l:List (List Val))(keys:List By)(_hl:WL .row l)(_hk:WL .by_ keys)(h:l.length≤100000000):zwu l keys=some (zys (z55 l keys)):=by
 rw[z1kx];simp only[zse,zsd];rw[z6 (by omega),z6 trivial,z6 (fun _ _ _ _=>trivial),z6 (z1kw keys)];rfl
def zns:List Bool×FnG Un:=([true,false],fun args bxs os=>match args,bxs,os with
 |[.c (.ob 0 0),x1],[],[o0]=>(oM .row o0).bind fun l=>(aL .by_ x1).bind fun keys=>some ([l.length≤100000000],zyp (z55 l keys),zyq (z55 l keys),zyr (z55 l keys))
 |_,_,_=>none)
theorem z1ej:GnOK 93 zns:=by
 intro args bxs os ob rs bxs' os' h hob;unfold zns at h;dsimp only at h;split at h
 ·rename_i x1 o0;simp only[y7,y8,ym]at h;obtain⟨l,e0,keys,e1,rfl,rfl,rfl,rfl⟩:=h;have q0:=z21r e0;obtain rfl:=z2mb e1;refine⟨GContract.weak ?_,zk Tryz.func93 (by kernel_rfl) (by kernel_rfl)⟩;rw[q0];refine z282 (M:=znr) rfl (nb:=0) rfl (z4o (l1:=[]) (l2:=[]) (l3:=[(146,z1r5)]) (l4:=[]) (l5:=[(145,znq)]) trivial trivial ⟨z2l3,trivial⟩ trivial ⟨z1vj,trivial⟩) Tryz.func93 (by kernel_rfl) z286 0 [.m] (fun ha hb ho=>?_);have hsp:=z1c1 l keys (z2pl (τ:=.row) (l:=l) (fr:=some 0) ho (by simp)) (z2om ha (a:=.c (.sl (U:=Un) Ty.by_ keys false)) (by simp)) (hob _ (ye (i:=0) rfl));exact z284 (r:=(_,_,_)) hsp
 ·simp at h
end
end B
namespace B
open Go Go.RowKit
set_option maxRecDepth 100000
noncomputable section
attribute [local irreducible] awp ctxK zw z1a retQ z1m awf ctxF z1l
def capQ{α:Type}(l:List α):Option (List α):=if l.length≤100000000 then some l else none
open Classical in
def chkQ{α:Type}(p:Prop)(o:Option α):Option α:=if p then o else none
theorem chkQ_some{α:Type}{p:Prop}{o:Option α}{x:α}:chkQ p o=some x↔p∧o=some x:=by
 simp[chkQ]
theorem zko{α:Type}{p:Prop}{o:Option α}(h:p):chkQ p o=o:=by unfold chkQ;grind
def mapQ{α β:Type}(f:α→Option β):List α→Option (List β)
 |[]=>some []
 |x::l=>(f x).bind fun y=>(mapQ f l).bind fun s=>some (y::s)
def zau{α:Type}(f:α→Option Bool):List α→Option (List α)
 |[]=>some []
 |x::l=>(f x).bind fun b=>(zau f l).bind fun s=>some (if b=true then x::s else s)
def zfk(left:Bool)(none_:List Val)(f:List Val→Option Bool)(right:List (List Val)):List (List Val)→Option (List (List Val))
 |[]=>some []
 |a::l=>(zau f (right.map (a++·))).bind fun u=>(if u.length=0∧left=true then(if(a++none_).length≤100000000 then some [a++none_]else none)else some u).bind fun u=>(zfk left none_ f right l).bind fun s=>some (u++s)
def z8b(out:List Bunch)(key x:List Val):List Bunch:=match out.findIdx? (fun b=>zbh b.key key==0)with
 |some i=>out.set i ⟨(out.getD i zn).key,(out.getD i zn).rows++[x]⟩
 |none=>out++[⟨key,[x]⟩]
def bunQ(f:List Val→Option (List Val)):List (List Val)→List Bunch→Option (List Bunch)
 |[],out=>some out
 |x::l,out=>(f x).bind fun key=>bunQ f l (z8b out key x)
def setL(inter:Bool):List (List Val)→List (List Val)→List (List Val)
 |[],_=>[]
 |x::l,left=>(if decide (0≤zg left x)=inter then[x]else[])++setL inter l (if 0≤zg left x then left.eraseIdx (zg left x).toNat else left)
def setE(op:Int)(all:Bool)(a b:List (List Val)):List (List Val):=
 if op=9 then(if all=true then a else z1q a)else setL (decide (op=10)) (if all=true then a else z1q a) b
def z3k(l:List (List Val))(limit skip:Int):List (List Val):=
 if 0≤limit∧limit<((l.drop (min skip l.length).toNat).length:Int)then(l.drop (min skip l.length).toNat).take limit.toNat else l.drop (min skip l.length).toNat
abbrev Rows:Type:=List (List Val)
def filO(kid:Wld→Option Rows)(so:Wld→Option Bool)(w:Wld):Option Rows:=
 if w.env.length≤100000000 then(kid w).bind fun l=>zau (fun x=>so (zi w x)) l else none
def z1dq(kid:Wld→Option Rows)(ts:Wld→Option (List Val))(n:Nat)(w:Wld):Option Rows:=
 if w.env.length≤100000000∧n≤100000000 then(kid w).bind fun l=>mapQ (fun x=>ts (zi w x)) l else none
def zyu(kid0 kid1:Wld→Option Rows)(so:Wld→Option Bool)(n cols:Nat)(left:Bool)(w:Wld):Option Rows:=
 if n<2 then some []else if w.env.length≤100000000∧cols≤100000000 then(kid1 w).bind fun right=>(kid0 w).bind fun l=>(zfk left (List.replicate cols z7) (fun x=>if x.length≤100000000 then so (zi w x)else none) right l).bind capQ else none
def bunO(ts:Wld→Option (List Val))(n:Nat)(w:Wld)(l:Rows):Option (List Bunch):=
 if w.env.length≤100000000∧n≤100000000∧l.length≤100000000 then bunQ (fun x=>ts (zi w x)) l (if n=0 then[⟨[],[]⟩]else[])else none
def grpO(kid:Wld→Option Rows)(ts:Wld→Option (List Val))(as_:Wld→Rows→Option (List Val))(n k:Nat)(w:Wld):Option Rows:=
 if k≤100000000 then(kid w).bind fun l=>(bunO ts n w l).bind fun bs=>(mapQ (fun b=>(as_ w b.rows).bind fun vs=>some (b.key++vs)) bs)else none
def setO(kid0 kid1:Wld→Option Rows)(op:Int)(all:Bool)(w:Wld):Option Rows:=
 (kid0 w).bind fun a=>(kid1 w).bind fun b=>(if op=9 then capQ (a++b)else some a).bind fun a=>some (setE op all a b)
mutual
def nT:Term→Wld→Option Val
 | .mk op v depth at_ name kids sub type,w=>
  if op=1∨op=2 then chkQ ((Term.mk op v depth at_ name kids sub type).sz≤2000000∧strT (.mk op v depth at_ name kids sub type)∧z6v w.env) (some (z54 (.mk op v depth at_ name kids sub type) w.env))
  else if op=26 then(nSub sub w).bind fun l=>some (if l.length=1∧0<(l.getD 0 []).length then(l.getD 0 []).getD 0 z7 else z7)
  else if op=27 then(nSub sub w).bind fun l=>some (z2z (decide (0<l.length)))
  else if op=28 then(if kids.length=0 then some z7 else(nHd kids w).bind fun v=>(nSub sub w).bind fun l=>some (ziz v l))
  else if kids.length≤2000000 then(nTs kids w).bind fun l=>chkQ (txts l) (some (z1y op name l))
  else none
def nHd:List Term→Wld→Option Val
 |[],_=>some z7
 |t::_,w=>nT t w
def nTs:List Term→Wld→Option (List Val)
 |[],_=>some []
 |t::l,w=>(nT t w).bind fun v=>(nTs l w).bind fun s=>some (v::s)
def nSo:List Term→Wld→Option Bool
 |[],_=>some true
 |t::l,w=>(nT t w).bind fun v=>if z2k v=2 then nSo l w else some false
def nSub:List Rel→Wld→Option Rows
 |[],_=>some []
 |r::_,w=>nR r w
def nKid:List Rel→Nat→Wld→Option Rows
 |[],_,_=>some []
 |r::_,0,w=>nR r w
 |_::l,n+1,w=>nKid l n w
def nA:Agg→Wld→Rows→Option Val
 | .mk name distinct t,w,rows=>if w.env.length≤100000000 then(mapQ (fun x=>nHd t (zi w x)) rows).bind fun l=>(if l.length≤400000 then some (zf8 (.mk name distinct t) l)else none)else none
def nAs:List Agg→Wld→Rows→Option (List Val)
 |[],_,_=>some []
 |a::l,w,rows=>(nA a w rows).bind fun v=>(nAs l w rows).bind fun s=>some (v::s)
def nR:Rel→Wld→Option Rows
  | .mk op table cols kids terms aggs keys limit skip all rows,w=>
    (if op=1 then chkQ (dbOK w.db) (some (z6i w table))
     else if op=2 then some rows
     else if op=3 then filO (fun w=>nKid kids 0 w) (fun w=>nSo terms w) w
     else if op=4 then z1dq (fun w=>nKid kids 0 w) (fun w=>nTs terms w) terms.length w
     else if op=5∨op=6 then zyu (fun w=>nKid kids 0 w) (fun w=>nKid kids 1 w) (fun w=>nSo terms w) kids.length (kids.getD 1 za).cols.length (decide (op=6)) w
     else if op=7 then grpO (fun w=>nKid kids 0 w) (fun w=>nTs terms w) (fun w l=>nAs aggs w l) terms.length aggs.length w
     else if op=8 then(nKid kids 0 w).bind fun l=>some (z1q l)
     else if op=9∨op=10∨op=11 then setO (fun w=>nKid kids 0 w) (fun w=>nKid kids 1 w) op all w
     else if op=12 then(nKid kids 0 w).bind fun l=>some (z55 l keys)
     else if op=13 then(nKid kids 0 w).bind fun l=>some (z3k l limit skip)
     else some []).bind capQ
end
theorem z1rc(t:Term)(w:Wld):nT t w=if t.op=1∨t.op=2 then chkQ (t.sz≤2000000∧strT t∧z6v w.env) (some (z54 t w.env))
  else if t.op=26 then(nSub t.sub w).bind fun l=>some (if l.length=1∧0<(l.getD 0 []).length then(l.getD 0 []).getD 0 z7 else z7)
  else if t.op=27 then(nSub t.sub w).bind fun l=>some (z2z (decide (0<l.length)))
  else if t.op=28 then(if t.kids.length=0 then some z7 else(nHd t.kids w).bind fun v=>(nSub t.sub w).bind fun l=>some (ziz v l))
  else if t.kids.length≤2000000 then(nTs t.kids w).bind fun l=>chkQ (txts l) (some (z1y t.op t.name l))
  else none:=by cases t;rfl
theorem z156(r:Rel)(w:Wld):nR r w=(if r.op=1 then chkQ (dbOK w.db) (some (z6i w r.table))
     else if r.op=2 then some r.rows
     else if r.op=3 then filO (fun w=>nKid r.kids 0 w) (fun w=>nSo r.terms w) w
     else if r.op=4 then z1dq (fun w=>nKid r.kids 0 w) (fun w=>nTs r.terms w) r.terms.length w
     else if r.op=5∨r.op=6 then zyu (fun w=>nKid r.kids 0 w) (fun w=>nKid r.kids 1 w) (fun w=>nSo r.terms w) r.kids.length (r.kids.getD 1 za).cols.length (decide (r.op=6)) w
     else if r.op=7 then grpO (fun w=>nKid r.kids 0 w) (fun w=>nTs r.terms w) (fun w l=>nAs r.aggs w l) r.terms.length r.aggs.length w
     else if r.op=8 then(nKid r.kids 0 w).bind fun l=>some (z1q l)
     else if r.op=9∨r.op=10∨r.op=11 then setO (fun w=>nKid r.kids 0 w) (fun w=>nKid r.kids 1 w) r.op r.all w
     else if r.op=12 then(nKid r.kids 0 w).bind fun l=>some (z55 l r.keys)
     else if r.op=13 then(nKid r.kids 0 w).bind fun l=>some (z3k l r.limit r.skip)
     else some []).bind capQ:=by cases r;rfl
theorem z2bp(l:List Rel)(w:Wld):nSub l w=if l.length=0 then some []else nR (l.getD 0 za) w:=by
 cases l with
 |nil=>rfl
 |cons r l=>rfl
theorem z1c2(l:List Term)(w:Wld):nHd l w=if l.length=0 then some z7 else nT (l.getD 0 zb) w:=by
 cases l with
 |nil=>rfl
 |cons r l=>rfl
theorem z12s(w:Wld):∀(l:List Rel)(n:Nat),nKid l n w=if n<l.length then nR (l.getD n za) w else some []
 |[],n=>by rfl
 |r::l,0=>by rfl
 |_::l,n+1=>by rw[nKid,z12s w l n];simp
theorem z1c3(w:Wld):∀l:List Term,nTs l w=mapQ (fun t=>nT t w) l
 |[]=>by rfl
 |t::l=>by simp only[nTs,mapQ,z1c3 w l]
theorem z26m(w:Wld)(rows:Rows):∀l:List Agg,nAs l w rows=mapQ (fun a=>nA a w rows) l
 |[]=>by rfl
 |t::l=>by simp only[nAs,mapQ,z26m w rows l]
theorem z2mg(a:Agg)(w:Wld)(rows:Rows):nA a w rows=if w.env.length≤100000000 then(mapQ (fun x=>nHd a.t (zi w x)) rows).bind fun l=>(if l.length≤400000 then some (zf8 a l)else none)else none:=by cases a;rfl
def okT(w:Wld)(t:Term):Prop:=∃v,nT t w=some v
def okTs(w:Wld)(l:List Term):Prop:=l.length≤100000000∧∃v,nTs l w=some v
def z1rd(w:Wld)(t:Term):Prop:=∃v,nSub t.sub w=some v
def okSo(w:Wld)(l:List Term)(x:List Val):Prop:=w.env.length≤100000000∧∃v,nSo l (zi w x)=some v
def zfl(w:Wld)(r:Rel)(n:Int):Prop:=0≤n∧∃v,nKid r.kids n.toNat w=some v
def okRl(w:Wld)(r:Rel):Prop:=∃v,nR r w=some v
def z1dr(w:Wld)(r:Rel):Option Rows:=filO (fun w=>nKid r.kids 0 w) (fun w=>nSo r.terms w) w
def z157(w:Wld)(r:Rel):Option Rows:=z1dq (fun w=>nKid r.kids 0 w) (fun w=>nTs r.terms w) r.terms.length w
def z21z(w:Wld)(r:Rel):Option Rows:=zyu (fun w=>nKid r.kids 0 w) (fun w=>nKid r.kids 1 w) (fun w=>nSo r.terms w) r.kids.length (r.kids.getD 1 za).cols.length (decide (r.op=6)) w
def z1re(w:Wld)(r:Rel):Option Rows:=grpO (fun w=>nKid r.kids 0 w) (fun w=>nTs r.terms w) (fun w l=>nAs r.aggs w l) r.terms.length r.aggs.length w
def nSet(w:Wld)(r:Rel):Option Rows:=setO (fun w=>nKid r.kids 0 w) (fun w=>nKid r.kids 1 w) r.op r.all w
def nBun(w:Wld)(rows:Rows)(terms:List Term):Option (List Bunch):=bunO (fun w=>nTs terms w) terms.length w rows
def z1ky(w:Wld)(r:Rel):Prop:=∃v,z1dr w r=some v
def z1c4(w:Wld)(r:Rel):Prop:=∃v,z157 w r=some v
def z1rf(w:Wld)(r:Rel):Prop:=∃v,z21z w r=some v
def z1vk(w:Wld)(r:Rel):Prop:=∃v,z1re w r=some v
def z1rg(w:Wld)(r:Rel):Prop:=∃v,nSet w r=some v
def z2eu(w:Wld)(rows:Rows)(terms:List Term):Prop:=∃v,nBun w rows terms=some v
def z6x(w:Wld)(t:Term):Val:=(nT t w).getD z7
def z56(w:Wld)(l:List Term):List Val:=(nTs l w).getD []
def z5x(w:Wld)(t:Term):Rows:=(nSub t.sub w).getD []
def ze8(w:Wld)(l:List Term)(x:List Val):Bool:=(nSo l (zi w x)).getD false
def zp(w:Wld)(r:Rel)(n:Int):Rows:=(nKid r.kids n.toNat w).getD []
def z9o(w:Wld)(r:Rel):Rows:=(nR r w).getD []
def zal(w:Wld)(r:Rel):Rows:=(z1dr w r).getD []
def z8w(w:Wld)(r:Rel):Rows:=(z157 w r).getD []
def zbu(w:Wld)(r:Rel):Rows:=(z21z w r).getD []
def zcf(w:Wld)(r:Rel):Rows:=(z1re w r).getD []
def zbv(w:Wld)(r:Rel):Rows:=(nSet w r).getD []
def z19(w:Wld)(rows:Rows)(terms:List Term):List Bunch:=(nBun w rows terms).getD []
theorem zyv{α:Type}{l s:List α}(h:capQ l=some s):l=s∧s.length≤100000000:=by
 unfold capQ at h;grind
theorem z2im{r:Rel}{w:Wld}{l:Rows}(h:nR r w=some l):l.length≤100000000:=by
 grind[z156,Option.bind_eq_some_iff,zyv]
theorem zcg{l:List Rel}{n:Nat}{w:Wld}{s:Rows}(h:nKid l n w=some s):s.length≤100000000:=by
 rw[z12s]at h;split at h
 ·exact z2im h
 grind
theorem zs3{α β:Type}{f:α→Option β}{x:α}{l:List α}{s:List β}(h:mapQ f (x::l)=some s):∃y r,f x=some y∧mapQ f l=some r∧s=y::r:=by
 grind[mapQ,Option.bind_eq_some_iff,Option.some.injEq]
theorem zow{α β:Type}{f:α→Option β}:∀{l:List α}{s:List β},mapQ f l=some s→s.length=l.length
 |[],s,h=>by simp_all[mapQ,y8]
 |x::l,s,h=>by
  obtain⟨y,r,_,h2,rfl⟩:=zs3 h;rw[yt,yt,zow h2]
theorem zwv{α β:Type}{f:α→Option β}:∀{l:List α}{s:List β},mapQ f l=some s→∀x∈l,∃y,f x=some y
 |x::l,s,h,z,hz=>by
  obtain⟨y,r,h1,h2,rfl⟩:=zs3 h;rcases yg.1 hz with rfl|hz
  ·grind
  ·exact zwv h2 z hz
theorem zww{α β:Type}{f:α→Option β}(g:α→β):∀{l:List α}{s:List β},mapQ f l=some s→(∀x∈l,∀y,f x=some y→g x=y)→l.map g=s
 |[],s,h,_=>by simp_all[mapQ,y8]
 |x::l,s,h,hg=>by
  obtain⟨y,r,h1,h2,rfl⟩:=zs3 h;rw[yy,hg x y10 y h1,zww g h2 fun z hz=>hg z (y12 _ hz)]
theorem z158{α:Type}{f:α→Option Bool}{x:α}{l s:List α}(h:zau f (x::l)=some s):∃b r,f x=some b∧zau f l=some r∧s=if b=true then x::r else r:=by
 grind[zau,Option.bind_eq_some_iff,Option.some.injEq]
theorem z1yu{α:Type}{f:α→Option Bool}:∀{l s:List α},zau f l=some s→∀x∈l,∃b,f x=some b
 |x::l,s,h,z,hz=>by
  obtain⟨y,r,h1,h2,rfl⟩:=z158 h;rcases yg.1 hz with rfl|hz
  ·grind
  ·exact z1yu h2 z hz
theorem z1rh{α:Type}{f:α→Option Bool}(g:α→Bool):∀{l s:List α}(o:List α),zau f l=some s→(∀x∈l,∀b,f x=some b→g x=b)→l.foldl (fun o x=>if g x=true then o++[x]else o) o=o++s
 |[],s,o,h,_=>by simp_all[zau,y8]
 |x::l,s,o,h,hg=>by
  obtain⟨b,r,h1,h2,rfl⟩:=z158 h;rw[yx,hg x y10 b h1,z1rh g _ h2 fun z hz=>hg z (y12 _ hz)];grind
theorem z1yv{f:List Val→Option (List Val)}{N:Nat}:∀{l:Rows}{out bs:List Bunch},(∀x∈l,∀key,f x=some key→key.length≤N)→(∀b∈out,b.key.length≤N)→bunQ f l out=some bs→(∀b∈bs,b.key.length≤N)∧bs.length≤out.length+l.length
 |[],out,bs,_,ho,h=>by
  simp_all[bunQ,y8]
 |x::l,out,bs,hf,ho,h=>by
  simp only[bunQ,y7]at h;obtain⟨key,h1,h2⟩:=h;have hb:(∀b∈z8b out key x,b.key.length≤N)∧(z8b out key x).length≤out.length+1:=by
   unfold z8b;split
   ·rename_i i hi;have hil:=(y2b.1 hi).1;grind
   grind
  obtain⟨g1,g2⟩:=z1yv (fun z hz=>hf z (y12 _ hz)) hb.1 h2;grind
theorem z2nn{l:List Term}{w:Wld}{s:List Val}(h:nTs l w=some s):s.length=l.length:=by grind[z1c3,zow]
theorem z1c5{terms:List Term}{w:Wld}{l:Rows}{bs:List Bunch}(h:bunO (fun w=>nTs terms w) terms.length w l=some bs):(w.env.length≤100000000∧terms.length≤100000000∧l.length≤100000000)∧(∀b∈bs,b.key.length≤terms.length)∧bs.length≤l.length+1:=by
 unfold bunO at h;split at h
 ·obtain⟨g1,g2⟩:=z1yv (N:=terms.length) (fun x _ key hk=>by rw[z2nn hk];simp) (fun b hb=>by
   grind) h
  grind
 grind
theorem z1c6{f:List Val→Option (List Val)}:∀{l:Rows}{out bs:List Bunch}{N:Nat},(∀b∈out,b.rows.length≤N)→bunQ f l out=some bs→∀b∈bs,b.rows.length≤N+l.length
 |[],out,bs,N,ho,h=>by
  simp_all[bunQ,y8]
 |x::l,out,bs,N,ho,h=>by
  simp only[bunQ,y7]at h;obtain⟨key,h1,h2⟩:=h;have hb:∀b∈z8b out key x,b.rows.length≤N+1:=by
   unfold z8b;split
   ·rename_i i hi;have hil:=(y2b.1 hi).1;grind
   grind
  intro b hbm;have:=z1c6 hb h2 b hbm;grind
theorem z2in{terms:List Term}{w:Wld}{l:Rows}{bs:List Bunch}(h:bunO (fun w=>nTs terms w) terms.length w l=some bs)(j:Nat)(hj:j<bs.length):(bs.getD j zn).rows.length≤100000000:=by
 unfold bunO at h;split at h
 ·have:=z1c6 (N:=0) (fun b hb=>by
   grind) h _ (z8r (d:=zn) hj)
  omega
 grind
end
end B
namespace B
open Go Go.RowKit
theorem zox{α β:Type}{f:α→Option β}{P:β→Prop}:∀(l:List α),(∀x∈l,∃y,f x=some y∧P y)→∃s,mapQ f l=some s∧s.length=l.length∧∀y∈s,P y
 |[],_=>⟨[],rfl,rfl,fun y hy=>absurd hy (by simp)⟩
 |x::l,h=>by
  obtain⟨y,h1,h2⟩:=h x y10;obtain⟨s,h3,h4,h5⟩:=zox (P:=P) l fun z hz=>h z (y12 _ hz);refine⟨y::s,by simp only[mapQ,h1,h3,yh],by simp only[yt,h4],fun z hz=>?_⟩;rcases yg.1 hz with rfl|hz
  ·exact h2
  ·exact h5 z hz
theorem z1kz{α:Type}{f:α→Option Bool}:∀(l:List α),(∀x∈l,∃b,f x=some b)→∃s,zau f l=some s∧s.length≤l.length∧∀y∈s,y∈l
 |[],_=>⟨[],rfl,y6 _,fun y hy=>hy⟩
 |x::l,h=>by
  obtain⟨b,h1⟩:=h x y10;obtain⟨s,h3,h4,h5⟩:=z1kz l fun z hz=>h z (y12 _ hz);refine⟨if b=true then x::s else s,by simp_all[zau,yh],by grind,fun z hz=>?_⟩;grind
theorem z26n{left:Bool}{nn:List Val}{f:List Val→Option Bool}{right:Rows}:∀(l:Rows),(∀a∈l,(∀b∈right,∃c,f (a++b)=some c)∧(a++nn).length≤100000000)→
  ∃s,zfk left nn f right l=some s∧s.length≤l.length*max right.length 1∧∀x∈s,∃a∈l,∃b,(b∈right∨b=nn)∧x=a++b
 |[],_=>⟨[],rfl,by simp,fun x hx=>absurd hx (by simp)⟩
 |a::l,h=>by
  obtain⟨h1,h2⟩:=h a y10;obtain⟨u,g1,g2,g3⟩:=z1kz (f:=f) (right.map (a++·)) fun x hx=>by
   grind
  obtain⟨s,k1,k2,k3⟩:=z26n (left:=left) (nn:=nn) (f:=f) (right:=right) l fun z hz=>h z (y12 _ hz)
  have key:∀v:Rows,(if u.length=0∧left=true then(if(a++nn).length≤100000000 then some [a++nn]else none)else some u)=some v→v.length≤max right.length 1→(∀x∈v,∃b,(b∈right∨b=nn)∧x=a++b)→
    ∃s,zfk left nn f right (a::l)=some s∧s.length≤(a::l).length*max right.length 1∧∀x∈s,∃a'∈a::l,∃b,(b∈right∨b=nn)∧x=a'++b:=fun v hv hl hm=>by
   refine⟨v++s,by simp_all[zfk,yh],?_,fun x hx=>?_⟩
   ·rw[y9,yt,y4j];omega
   ·rcases yc.1 hx with hx|hx
    ·obtain⟨b,q1,q2⟩:=hm x hx;exact⟨a,y10,b,q1,q2⟩
    ·obtain⟨a',q0,q⟩:=k3 x hx;exact⟨a',y12 _ q0,q⟩
  grind
theorem z2bq{f:List Val→Option (List Val)}{K:List Val→Prop}{M:Rows}:∀(l:Rows)(out:List Bunch),(∀x∈l,x∈M∧∃k,f x=some k∧K k)→(∀b∈out,K b.key∧∀x∈b.rows,x∈M)→
  ∃bs,bunQ f l out=some bs∧bs.length≤out.length+l.length∧∀b∈bs,K b.key∧∀x∈b.rows,x∈M
 |[],out,_,ho=>⟨out,rfl,by simp,ho⟩
 |x::l,out,h,ho=>by
  obtain⟨hx,k,h1,h2⟩:=h x y10;have hb:(z8b out k x).length≤out.length+1∧∀b∈z8b out k x,K b.key∧∀x∈b.rows,x∈M:=by
   unfold z8b;split
   ·rename_i i hi;have hil:=(y2b.1 hi).1;grind
   grind
  obtain⟨bs,g1,g2,g3⟩:=z2bq (f:=f) (K:=K) (M:=M) l (z8b out k x) (fun z hz=>h z (y12 _ hz)) hb.2;exact⟨bs,by simp only[bunQ,h1,yh,g1],by rw[yt];omega,g3⟩
theorem z26o{f:List Val→Option (List Val)}:∀(l:Rows)(b:Bunch),(∀x∈l,f x=some [])→b.key=[]→∃b',bunQ f l [b]=some [b']
 |[],b,_,_=>⟨b,rfl⟩
 |x::l,b,h,hb=>by
  have e:z8b [b] [] x=[⟨[],b.rows++[x]⟩]:=by
   unfold z8b;have:[b].findIdx? (fun b=>zbh b.key []==0)=some 0:=by rw[y2n,if_pos (by rw[hb];rfl)]
   grind
  obtain⟨b',hb'⟩:=z26o l ⟨[],b.rows++[x]⟩ (fun z hz=>h z (y12 _ hz)) rfl;simp_all[bunQ,y10,yh]
theorem z26p:∀(l o:Rows),(l.foldl (fun o x=>if zg o x<0 then o++[x]else o) o).length≤o.length+l.length∧∀x∈l.foldl (fun o x=>if zg o x<0 then o++[x]else o) o,x∈o∨x∈l
 |[],o=>⟨by simp,fun x hx=>.inl hx⟩
 |y::l,o=>by
  obtain⟨h1,h2⟩:=z26p l (if zg o y<0 then o++[y]else o);grind
theorem zoy(l:Rows):(z1q l).length≤l.length∧∀x∈z1q l,x∈l:=by
 grind[z26p,z1q]
theorem z26q(inter:Bool):∀(a b:Rows),(setL inter a b).length≤a.length∧∀x∈setL inter a b,x∈a
 |[],b=>⟨y6 _,fun x hx=>hx⟩
 |y::l,b=>by
  simp only[setL];obtain⟨h1,h2⟩:=z26q inter l (if 0≤zg b y then b.eraseIdx (zg b y).toNat else b);grind
theorem z2li(op:Int)(all:Bool)(a b:Rows):(setE op all a b).length≤a.length∧∀x∈setE op all a b,x∈a:=by
 have h:(if all=true then a else z1q a).length≤a.length∧∀x∈(if all=true then a else z1q a),x∈a:=by
  split
  all_goals simp_all[y6,zoy]
 grind[setE,z26q,decide,z1q,Nat.le_trans]
theorem z2a9(l:Rows)(limit skip:Int):(z3k l limit skip).length≤l.length∧∀x∈z3k l limit skip,x∈l:=by
 grind[z3k,List.length_take,List.length_drop,List.mem_of_mem_drop,List.mem_of_mem_take]
theorem z2aa(l:Rows)(keys:List By):(z55 l keys).length≤l.length∧∀x∈z55 l keys,x∈l:=
 ⟨Nat.le_of_eq (z78 (z1kw keys) l),fun _ hx=>(z1r6 (z1kw keys) l).mem_iff.1 hx⟩
mutual
def txT:Term→Prop
 | .mk _ v _ _ _ kids sub _=>z16 v∧txTs kids∧txRs sub
def txTs:List Term→Prop
 |[]=>True
 |t::l=>txT t∧txTs l
def txA:Agg→Prop
 | .mk _ _ t=>txTs t
def txAs:List Agg→Prop
 |[]=>True
 |a::l=>txA a∧txAs l
def txR:Rel→Prop
 | .mk _ _ _ kids terms aggs _ _ _ _ rows=>txRs kids∧txTs terms∧txAs aggs∧z6v rows
def txRs:List Rel→Prop
 |[]=>True
 |r::l=>txR r∧txRs l
end
theorem z159:∀{l:List Term},txTs l→∀t∈l,txT t
 |x::l,h,t,ht=>by
  rcases yg.1 ht with rfl|ht
  ·exact h.1
  ·exact z159 h.2 t ht
theorem z1l0:∀{l:List Rel},txRs l→∀t∈l,txR t
 |x::l,h,t,ht=>by
  rcases yg.1 ht with rfl|ht
  ·exact h.1
  ·exact z1l0 h.2 t ht
theorem z26r:∀{l:List Agg},txAs l→∀a∈l,txTs a.t
 | .mk _ _ t::l,h,a,ha=>by
  rcases yg.1 ha with rfl|ha
  ·exact h.1
  ·exact z26r h.2 a ha
theorem z2io(t:Term):txT t↔(z16 t.v∧txTs t.kids∧txRs t.sub):=by cases t;rfl
theorem z26s(r:Rel):txR r↔(txRs r.kids∧txTs r.terms∧txAs r.aggs∧z6v r.rows):=by cases r;rfl
mutual
theorem z1vl:∀t:Term,txT t→strT t
 | .mk _ _ _ _ _ kids _ _,h=>⟨h.1,z26t kids h.2.1⟩
theorem z26t:∀l:List Term,txTs l→zua l
 |[],_=>trivial
 |t::l,h=>⟨z1vl t h.1,z26t l h.2⟩
end
theorem zs4{t:Term}:∀{l:List Agg},t∈z8k l→∃a∈l,t∈a.t
 |a::l,h=>by
  rcases yc.1 h with h|h
  ·grind
  ·obtain⟨b,h1,h2⟩:=zs4 h;grind
theorem z2p1{r:Rel}(h:txR r):∀t∈z10 r,txT t:=by
 obtain⟨_,h2,h3,_⟩:=(z26s r).1 h;intro t ht;rcases yc.1 ht with ht|ht
 ·exact z159 h2 t ht
 ·obtain⟨a,ha,hta⟩:=zs4 ht;exact z159 (z26r h3 a ha) t hta
def ze9(x:Acc):Prop:=z16 x.v∧∀v∈x.l,z16 v
theorem z2ab(a:Agg):ze9 (zix a):=by
 unfold zix
 repeat' split
 all_goals exact⟨z3j,fun v hv=>absurd hv (by simp)⟩
theorem z1hr{x:Acc}{v:Val}(h:ze9 x)(hv:z16 v):ze9 (zbt x v):=by
 unfold zbt
 repeat' split
 all_goals first|exact⟨h.1,h.2⟩|exact⟨hv,h.2⟩
theorem z2ev{x:Acc}{v:Val}(h:ze9 x)(hv:z16 v):ze9 (zqn x v):=by
 unfold zqn;split
 ·split
  ·refine⟨h.1,fun w hw=>?_⟩;unfold insV at hw;split at hw
   ·exact h.2 w hw
   ·rcases yc.1 hw with hw|hw
    ·exact h.2 w (y3a hw)
    ·rcases yg.1 hw with rfl|hw
     ·omega
     ·exact h.2 w (y29 hw)
  grind[z1hr]
 omega
theorem z15a{f:Acc→Val→Acc}(hf:∀{x v},ze9 x→z16 v→ze9 (f x v)):∀(l:List Val)(x:Acc),ze9 x→(∀v∈l,z16 v)→ze9 (l.foldl f x)
 |[],_,h,_=>h
 |v::l,x,h,hl=>z15a hf l (f x v) (hf h (hl v y10)) fun w hw=>hl w (y12 _ hw)
theorem z2ew(n:Int):z16 (numV n):=yb _
theorem z2ip(a:Agg){l:List Val}(h:∀v∈l,z16 v):z16 (zf8 a l):=by
 rw[z2eo];have h1:=z15a (fun h hv=>z2ev h hv) l (zix a) (z2ab a) h;unfold runA z1bf;generalize hx:l.foldl zqn (zix a)=x at*;have h2:=z15a (fun h hv=>z1hr h hv) x.l x h1 h1.2;unfold endA z1qg
 repeat' split
 all_goals first|exact z2ew _|exact z3j|exact h2.1
end B
namespace B
open Go Go.RowKit
structure DbG(db:List Data):Prop where
 ok:dbOK db
 rows:zd8 db≤2000000
 tx:∀d∈db,z6v d.rows
structure Fine(db:List Data)(r:Rel)(l:Rows):Prop where
 short:z6v l
 wide:∀x∈l,(x.length:Int)=z29 r
 few:(l.length:Int)≤(wghR db r).1
structure GoT(db:List Data)(t:Term)(env:List Int)(w:Wld):Prop where
 v:zcr t env=true
 fit:fitT db t=true
 sz:t.sz≤2000000
 cl:clT t≤2000000
 tx:txT t
 wgh:wghT db t≤20000
 db:w.db=db
 env:z6v w.env
 deep:w.env.length+t.ht≤8000000
structure GoR(db:List Data)(r:Rel)(env:List Int)(w:Wld):Prop where
 v:zlu r env=true
 fit:fitR db r=true
 sz:r.sz≤2000000
 cl:clR r≤2000000
 tx:txR r
 wgh:(wghR db r).2≤20000
 db:w.db=db
 env:z6v w.env
 deep:w.env.length+r.ht≤8000000
def TOK(db:List Data)(n:Nat):Prop:=∀(t:Term)(env:List Int)(w:Wld),t.ht<n→GoT db t env w→∃v,nT t w=some v∧z16 v
def ROK(db:List Data)(n:Nat):Prop:=∀(r:Rel)(env:List Int)(w:Wld),r.ht<n→GoR db r env w→∃l,nR r w=some l∧Fine db r l
theorem z2iq{l:Rows}(h:z6v l)(i:Nat):∀v∈l.getD i [],z16 v:=fun v hv=>by
 by_cases hi:i<l.length
 ·exact h _ (z8r hi) v hv
 grind
theorem GoT.kid{db:List Data}(G:DbG db){t k:Term}{env:List Int}{w:Wld}(h:GoT db t env w)(hk:k∈t.kids):GoT db k env w where
 v:=(z14q h.v).2.1 k hk
 fit:=by have:=h.fit;rw[z1tv,yp,y1f]at this;grind
 sz:=by have:=zlz hk;have:=h.sz;omega
 cl:=by have:=zkh hk;have:=z24k t;have:=h.cl;omega
 tx:=z159 ((z2io t).1 h.tx).2.1 k hk
 wgh:=(z1p4 G.rows h.sz h.wgh).1 k hk
 db:=h.db
 env:=h.env
 deep:=by have:=Term.ht_kid hk;have:=h.deep;omega
theorem GoT.subq{db:List Data}(G:DbG db){t:Term}{k:Rel}{env:List Int}{w:Wld}(h:GoT db t env w)(hk:k∈t.sub):GoR db k env w where
 v:=(z14q h.v).2.2 k hk
 fit:=by have:=h.fit;rw[z1tv,yp,y1f,y1f]at this;grind
 sz:=by have:=zm0 hk;have:=h.sz;omega
 cl:=by have:=zgb hk;have:=z24k t;have:=h.cl;omega
 tx:=z1l0 ((z2io t).1 h.tx).2.2 k hk
 wgh:=(z1p4 G.rows h.sz h.wgh).2 k hk
 db:=h.db
 env:=h.env
 deep:=by have:=Term.ht_sub hk;have:=h.deep;omega
theorem GoR.kid{db:List Data}(G:DbG db){r k:Rel}{env:List Int}{w:Wld}(h:GoR db r env w)(hop:r.op≠1)(hk:k∈r.kids):GoR db k env w where
 v:=(z4s h.v).2.1 k hk
 fit:=by have:=h.fit;rw[z1dd,if_neg hop,yp,y1f]at this;grind
 sz:=by have:=z9x hk;have:=h.sz;omega
 cl:=by have:=zgb hk;have:=zbo r;have:=h.cl;omega
 tx:=z1l0 ((z26s r).1 h.tx).1 k hk
 wgh:=(zrm G.rows h.sz h.wgh).1 k hk
 db:=h.db
 env:=h.env
 deep:=by have:=Rel.ht_kid hk;have:=h.deep;omega
theorem GoR.term{db:List Data}(G:DbG db){r:Rel}{t:Term}{env:List Int}{w:Wld}(h:GoR db r env w)(hop:r.op≠1)(hi:1≤(ioR db r).1)(ht:t∈z10 r){x:List Val}(hx:∀v∈x,z16 v):GoT db t (z94 r::env) (zi w x) where
 v:=by
  obtain⟨_,_,_,h1,h2,_⟩:=z4s h.v;rcases yc.1 ht with ht|ht
  ·exact h1 t ht
  ·obtain⟨a,ha,hta⟩:=zs4 ht;exact h2 a ha t hta
 fit:=by
  have:=h.fit;rw[z1dd,if_neg hop,yp,yp,y1f,y1f,y1f]at this;rcases yc.1 ht with ht|ht
  ·exact this.2.1 t ht
  ·obtain⟨a,ha,hta⟩:=zs4 ht;exact y1f.1 (this.2.2 a ha) t hta
 sz:=by have:=(z9c ht).2;have:=h.sz;omega
 cl:=by
  have h0:=zbo r;have hc:=h.cl;rcases yc.1 ht with ht|ht
  ·have:=zkh ht;omega
  ·obtain⟨a,ha,hta⟩:=zs4 ht;have h1:=z1jq ha;have h2:=zkh hta;grind[z2gw]
 tx:=z2p1 h.tx t ht
 wgh:=(zrm G.rows h.sz h.wgh).2.2.2.1 hi t ht
 db:=h.db
 env:=fun y hy=>by
  rcases yg.1 hy with rfl|hy
  ·omega
  ·exact h.env y hy
 deep:=by have:=(z9c ht).1;have:=h.deep;show(x::w.env).length+_≤_;grind
theorem z2p2{db:List Data}(G:DbG db){n:Nat}(hR:ROK db n){t:Term}{env:List Int}{w:Wld}(hn:t.ht<n+1)(h:GoT db t env w):∃l,nSub t.sub w=some l∧z6v l:=by
 rw[z2bp];by_cases c:t.sub.length=0
 ·exact⟨[],by grind,fun x hx=>absurd hx (by simp)⟩
 ·have hm:t.sub.getD 0 za∈t.sub:=z8r (by omega);obtain⟨l,h1,h2⟩:=hR _ env w (by have:=Term.ht_sub hm;omega) (h.subq G hm);exact⟨l,by grind,h2.short⟩
theorem z2ir{db:List Data}(G:DbG db){n:Nat}(hT:TOK db n)(hR:ROK db n):TOK db (n+1):=by
 intro t env w hn h;have hkl:t.kids.length≤2000000:=by have:=z60 t.kids;have:=t.sz_eq;have:=h.sz;omega
 have hkid:=fun k(hk:k∈t.kids)=>hT k env w (by have:=Term.ht_kid hk;omega) (h.kid G hk);obtain⟨l,hl1,hl2⟩:=z2p2 G hR hn h;rw[z1rc,hl1,yh,yh];by_cases c1:t.op=1∨t.op=2
 ·rw[if_pos c1,zko ⟨h.sz,z1vl t h.tx,h.env⟩];exact⟨_,rfl,z1qc h.env t (z1vl t h.tx)⟩
 rw[if_neg c1];by_cases c2:t.op=26
 ·rw[if_pos c2];exact⟨_,rfl,z1yh (fun _=>zub (z2iq hl2 0) 0) (fun _=>z3j)⟩
 rw[if_neg c2];by_cases c3:t.op=27
 ·rw[if_pos c3];exact⟨_,rfl,z1qb _⟩
 rw[if_neg c3];by_cases c4:t.op=28
 ·rw[if_pos c4];by_cases c5:t.kids.length=0
  ·rw[if_pos c5];exact⟨_,rfl,z3j⟩
  ·rw[if_neg c5,z1c2,if_neg c5];obtain⟨v,h1,_⟩:=hkid _ (z8r (d:=zb) (show 0<t.kids.length by omega));rw[h1,yh];exact⟨_,rfl,zyj _⟩
 rw[if_neg c4,if_pos hkl,z1c3];obtain⟨s,h1,h2,h3⟩:=zox (P:=z16) t.kids hkid;rw[h1,yh,zko ⟨by omega,h3⟩];exact⟨_,rfl,z1hb _ _ h3⟩
theorem z2ex{w:Wld}:∀(l:List Term),(∀t∈l,∃v,nT t w=some v∧z16 v)→∃b,nSo l w=some b
 |[],_=>⟨true,by rfl⟩
 |t::l,h=>by
  obtain⟨v,h1,_⟩:=h t y10;obtain⟨b,h2⟩:=z2ex l fun x hx=>h x (y12 _ hx);simp only[nSo,h1,yh];grind
theorem z2is(db:List Data)(r:Rel):(ioR db r).2=(ioR db r).1∨(ioR db r).2=maxI (ioR db r).1 1:=by
 unfold ioR ioW;grind
theorem z1ri{db:List Data}{r:Rel}(h1:r.op≠1)(hk:r.kids.length=1):ioR db r=((wghR db (r.kids.getD 0 za)).1,maxI (wghR db (r.kids.getD 0 za)).1 1):=by
 simp_all[ioR,ioW,if_neg,yu,if_pos,zah]
theorem z1yw{r:Rel}(h:r.op=3∨r.op=8∨r.op=12∨r.op=13)(hk:r.kids.length=1):z29 r=z29 (r.kids.getD 0 za):=by
 have hkn:z3s r.op=1:=by rcases h with e|e|e|e<;>rw[e]<;>rfl
 rw[zky,if_neg (by omega),if_neg (by omega),if_neg (by omega),if_neg (by omega),if_neg (by omega),zc4 _ _ (by omega)]
theorem z2it{r:Rel}(h:r.op=9∨r.op=10∨r.op=11)(hk:r.kids.length=2):z29 r=z29 (r.kids.getD 0 za):=by
 have hkn:z3s r.op=2:=by rcases h with e|e|e<;>rw[e]<;>rfl
 rw[zky,if_neg (by omega),if_neg (by omega),if_neg (by omega),if_neg (by omega),if_neg (by omega),zc4 _ _ (by omega)]
theorem Fine.fin{db:List Data}{r:Rel}{X:Option Rows}{l:Rows}(hb:(wghR db r).1≤1048576)(hX:X=some l)(h:Fine db r l):∃l,X.bind capQ=some l∧Fine db r l:=by
 have:=h.few;unfold capQ;grind
theorem Fine.sub{db:List Data}{r k:Rel}{l s:Rows}(h:Fine db k l)(hw:z29 r=z29 k)(hm:∀x∈s,x∈l)(hf:(s.length:Int)≤(wghR db r).1):Fine db r s:=
 ⟨fun x hx=>h.short x (hm x hx),fun x hx=>(h.wide x (hm x hx)).trans hw.symm,hf⟩
theorem z2p3{x:List Val}{cols:List Col}(h:z8y x cols=true):x.length=cols.length:=by
 simp_all[z8y,yp,decide_eq_true_eq]
section
variable {db:List Data} {n:Nat} {r:Rel} {env:List Int} {w:Wld}
structure StepR(db:List Data)(r:Rel)(env:List Int)(w:Wld):Prop where
 go:GoR db r env w
 io:0≤(ioR db r).1∧(ioR db r).1≤20000
 out:(wghR db r).1=(ioR db r).2
 kid:r.op≠1→∀i,i<r.kids.length→∃l,nKid r.kids i w=some l∧Fine db (r.kids.getD i za) l
 term:r.op≠1→1≤(ioR db r).1→∀t∈z10 r,∀x:List Val,(∀v∈x,z16 v)→∃v,nT t (zi w x)=some v∧z16 v
theorem StepR.mk'(G:DbG db)(hT:TOK db n)(hR:ROK db n)(hn:r.ht<n+1)(h:GoR db r env w):StepR db r env w:=by
 obtain⟨_,i0,i1,_,e⟩:=zrm G.rows h.sz h.wgh;have ho:=z2is db r;refine⟨h,⟨i0,i1⟩,?_,fun hop i hi=>?_,fun hop h1 t ht x hx=>?_⟩
 ·rw[e,zb6,if_neg];grind[zhe]
 ·have hm:r.kids.getD i za∈r.kids:=z8r hi;obtain⟨l,h1,h2⟩:=hR _ env w (by have:=Rel.ht_kid hm;omega) (h.kid G hop hm);simp_all[z12s,if_pos]
 ·exact hT t _ _ (by have:=(z9c ht).1;omega) (h.term G hop h1 ht hx)
theorem z1c7{t:Term}(h:t∈r.terms):t∈z10 r:=y1p _ h
theorem z2ey(G:DbG db)(hS:StepR db r env w)(c:r.op=1):∃l,(chkQ (dbOK w.db) (some (z6i w r.table))).bind capQ=some l∧Fine db r l:=by
 have hb:=(z5f G.rows hS.go.sz).1.2;have hf:=hS.go.fit;rw[z1dd,if_pos c]at hf;unfold zof at hf;have hc:=(z4s hS.go.v).2.2.1;have ho:(ioR db r).2=zc8 r.table db:=by unfold ioR ioW;grind
 have hh:=z1dh r.table db 0 (by omega) (by have:=G.rows;omega);refine Fine.fin (l:=z6i w r.table) hb (zko (by rw[hS.go.db];exact G.ok)) ?_;unfold z6i;rw[hS.go.db];cases hfd:db.find? (fun d=>d.table.toList==r.table.toList)with
 |none=>exact⟨fun x hx=>absurd hx (by simp),fun x hx=>absurd hx (by simp),by rw[hS.out,ho];exact hh.1⟩
 |some d=>
  have hm:=List.mem_of_find?_eq_some hfd;have ht:(d.table.toList==r.table.toList)=true:=List.find?_some (p:=fun d:Data=>d.table.toList==r.table.toList) hfd;refine⟨G.tx d hm,fun x hx=>?_,?_⟩
  ·grind[z2p3]
  ·rw[hS.out,ho];simp_all[zc8]
theorem z2iu(G:DbG db)(hS:StepR db r env w)(c:r.op=2):∃l,(some r.rows).bind capQ=some l∧Fine db r l:=by
 have hb:=(z5f G.rows hS.go.sz).1.2;obtain⟨⟨hk,_⟩,_,hc,_,_,hr⟩:=z4s hS.go.v;rw[c]at hk;have hk0:r.kids.length=0:=by have:z3s 2=0:=rfl;omega
 unfold zeh at hr;unfold zoe at hr;refine Fine.fin hb rfl ⟨((z26s r).1 hS.go.tx).2.2.2,fun x hx=>?_,?_⟩
 ·grind
 ·rw[hS.out];simp_all[ioR,ioW,if_neg,if_pos,yu,y2f]
theorem z2ac(G:DbG db)(hS:StepR db r env w)(c:r.op=3):∃l,(filO (fun w=>nKid r.kids 0 w) (fun w=>nSo r.terms w) w).bind capQ=some l∧Fine db r l:=by
 have hb:=(z5f G.rows hS.go.sz).1.2;have hk:=(z4s hS.go.v).1.1;rw[c]at hk;have hk1:r.kids.length=1:=by have:z3s 3=1:=rfl;omega
 obtain⟨l,h1,h2⟩:=hS.kid (by omega) 0 (by omega);have hio:=z1ri (db:=db) (by omega) hk1;have hfew:=h2.few;obtain⟨s,g1,g2,g3⟩:=z1kz (f:=fun x=>nSo r.terms (zi w x)) l fun x hx=>z2ex _ fun t ht=>hS.term (by omega) (by grind) t (z1c7 ht) x (h2.short x hx);refine Fine.fin (l:=s) hb ?_ (h2.sub (z1yw (.inl c) hk1) g3 ?_)
 ·unfold filO;dsimp only;rw[if_pos (by have:=hS.go.deep;omega),h1,yh,g1]
 ·rw[hS.out,hio,zhe];omega
theorem z26u(hS:StepR db r env w)(hop:r.op≠1)(hi:1≤(ioR db r).1){x:List Val}(hx:∀v∈x,z16 v):∃s,nTs r.terms (zi w x)=some s∧s.length=r.terms.length∧∀v∈s,z16 v:=by
 rw[z1c3];exact zox (P:=z16) _ fun t ht=>hS.term hop hi t (z1c7 ht) x hx
theorem z26v(G:DbG db)(hS:StepR db r env w)(c:r.op=4):∃l,(z1dq (fun w=>nKid r.kids 0 w) (fun w=>nTs r.terms w) r.terms.length w).bind capQ=some l∧Fine db r l:=by
 have hb:=(z5f G.rows hS.go.sz).1.2;have hk:=(z4s hS.go.v).1.1;rw[c]at hk;have hk1:r.kids.length=1:=by have:z3s 4=1:=rfl;omega
 obtain⟨l,h1,h2⟩:=hS.kid (by omega) 0 (by omega);have hio:=z1ri (db:=db) (by omega) hk1;have hfew:=h2.few;have htl:r.terms.length≤2000000:=by have:=z60 r.terms;have:=r.sz_eq;have:=hS.go.sz;omega
 obtain⟨s,g1,g2,g3⟩:=zox (f:=fun x=>nTs r.terms (zi w x)) (P:=fun y=>y.length=r.terms.length∧∀v∈y,z16 v) l fun x hx=>z26u hS (by omega) (by grind) (h2.short x hx);have hw:z29 r=r.terms.length:=by rw[zky,c,if_neg (by omega),if_neg (by omega),if_pos rfl]
 refine Fine.fin (l:=s) hb ?_ ⟨fun x hx=>(g3 x hx).2,fun x hx=>by grind,?_⟩
 ·unfold z1dq;dsimp only;rw[if_pos ⟨by have:=hS.go.deep;omega,by omega⟩,h1,yh,g1]
 ·rw[hS.out,hio,zhe];omega
theorem z2iv(G:DbG db)(hS:StepR db r env w)(c:r.op=5∨r.op=6):∃l,(zyu (fun w=>nKid r.kids 0 w) (fun w=>nKid r.kids 1 w) (fun w=>nSo r.terms w) r.kids.length (r.kids.getD 1 za).cols.length (decide (r.op=6)) w).bind capQ=some l∧Fine db r l:=by
 have hb:=(z5f G.rows hS.go.sz).1.2;obtain⟨⟨hk,_⟩,hkv,_,_,_,_⟩:=z4s hS.go.v;rw[z18q c]at hk;have hk2:r.kids.length=2:=by omega
 have hop:r.op≠1:=by omega
 obtain⟨l,h1,h2⟩:=hS.kid hop 0 (by omega);obtain⟨t,h3,h4⟩:=hS.kid hop 1 (by omega);have m0:r.kids.getD 0 za∈r.kids:=z8r (by omega);have m1:r.kids.getD 1 za∈r.kids:=z8r (by omega);have c0:=(z4s (hkv _ m0)).2.2.1;have c1:=(z4s (hkv _ m1)).2.2.1;have hcl0:=zbo (r.kids.getD 0 za);have hcl1:=zbo (r.kids.getD 1 za);have b0:=zgb m0;have b1:=zgb m1;have hcl:=zbo r;have hclr:=hS.go.cl;have hd:=hS.go.deep;have w0:=(z5f G.rows (show(r.kids.getD 0 za).sz≤2000000 by have:=z9x m0;have:=hS.go.sz;omega)).1;have w1:=(z5f G.rows (show(r.kids.getD 1 za).sz≤2000000 by have:=z9x m1;have:=hS.go.sz;omega)).1;have hw:z29 r=z29 (r.kids.getD 0 za)+z29 (r.kids.getD 1 za):=by
  rw[zky,if_neg (by rw[z18q c];omega),if_neg (by omega),if_neg (by omega),if_neg (by omega),if_pos c,zc4 _ _ (by omega),zc4 _ _ (by omega),z1f (by omega)]
 obtain⟨W0,e0⟩:=y3e w0.1;obtain⟨W1,e1⟩:=y3e w1.1;have hio:(ioR db r).1=((W0*max W1 1:Nat):Int)∧(ioR db r).2=((W0*max W1 1:Nat):Int):=by
  have hmx:maxI (W1:Int) 1=((max W1 1:Nat):Int):=by rw[zhe];split<;>omega
  have hp:=z11u (a:=(W0:Int)) (b:=((max W1 1:Nat):Int)) (by omega) (by omega) (by omega) (by omega);unfold ioR ioW;rw[if_neg hop,if_neg (by rw[yu];omega),if_neg (by rw[yu];omega),if_pos c,zah db r 0 (by omega),zah db r 1 (by omega),e0,e1,hmx,z1f (by omega),y4k];exact⟨rfl,rfl⟩
 have f0:=h2.few;have f1:=h4.few;rw[e0]at f0;rw[e1]at f1;have hone:∀x∈l,1≤(ioR db r).1:=fun x hx=>by
  have:=y3s hx;have:=y22 (show 1≤W0 by omega) (show 1≤max W1 1 by omega);rw[hio.1];omega
 obtain⟨s,g1,g2,g3⟩:=z26n (left:=decide (r.op=6)) (nn:=List.replicate (r.kids.getD 1 za).cols.length z7) (f:=fun x=>if x.length≤100000000 then nSo r.terms (zi w x)else none) (right:=t) l fun a ha=>by
  have la:=h2.wide a ha;refine⟨fun b hb'=>?_,by rw[y9,y2u];omega⟩;have lb:=h4.wide b hb';rw[if_pos (by rw[y9];omega)];exact z2ex _ fun t ht=>hS.term hop (hone a ha) t (z1c7 ht) _ fun v hv=>by
   rcases yc.1 hv with hv|hv
   ·exact h2.short a ha v hv
   ·exact h4.short b hb' v hv
 have hlen:(s.length:Int)≤(wghR db r).1:=by
  rw[hS.out,hio.2];have:=y22 (show l.length≤W0 by omega) (show max t.length 1≤max W1 1 by omega);omega
 refine Fine.fin (l:=s) hb ?_ ⟨fun x hx v hv=>?_,fun x hx=>?_,hlen⟩
 ·unfold zyu;dsimp only;rw[if_neg (by omega),if_pos ⟨by omega,by omega⟩,h3,yh,h1,yh,g1,yh];unfold capQ;rw[if_pos (by omega)]
 ·obtain⟨a,ha,b,hb',rfl⟩:=g3 x hx;rcases yc.1 hv with hv|hv
  ·exact h2.short a ha v hv
  ·rcases hb' with hb'|rfl
   ·exact h4.short b hb' v hv
   ·rw[List.eq_of_mem_replicate hv];exact z3j
 ·obtain⟨a,ha,b,hb',rfl⟩:=g3 x hx;have la:=h2.wide a ha;have lb:(b.length:Int)=z29 (r.kids.getD 1 za):=by
   rcases hb' with hb'|rfl
   ·exact h4.wide b hb'
   ·rw[y2u];exact c1
  rw[y9,hw];omega
theorem z2ez(G:DbG db)(hS:StepR db r env w)(c:r.op=7):∃l,(grpO (fun w=>nKid r.kids 0 w) (fun w=>nTs r.terms w) (fun w l=>nAs r.aggs w l) r.terms.length r.aggs.length w).bind capQ=some l∧Fine db r l:=by
 have hb:=(z5f G.rows hS.go.sz).1.2;have hk:=(z4s hS.go.v).1.1;rw[c]at hk;have hk1:r.kids.length=1:=by have:z3s 7=1:=rfl;omega
 have hop:r.op≠1:=by omega
 obtain⟨l,h1,h2⟩:=hS.kid hop 0 (by omega);have hio:=z1ri (db:=db) hop hk1;have hfew:=h2.few;have hd:=hS.go.deep;have hle:(l.length:Int)≤20000:=by have:=hS.io.2;rw[hio]at this;dsimp only at this;omega
 have htl:r.terms.length≤2000000∧r.aggs.length≤2000000:=by have:=z60 r.terms;have:=z1iw r.aggs;have:=r.sz_eq;have:=hS.go.sz;omega
 have hi:∀x∈l,1≤(ioR db r).1:=fun x hx=>by rw[hio];have:=y3s hx;dsimp only;omega
 have hkey:=fun x(hx:x∈l)=>z26u hS hop (hi x hx) (h2.short x hx);obtain⟨bs,g1,g2,g3⟩:∃bs,bunO (fun w=>nTs r.terms w) r.terms.length w l=some bs∧(bs.length:Int)≤(ioR db r).2∧∀b∈bs,(b.key.length=r.terms.length∧∀v∈b.key,z16 v)∧(∀x∈b.rows,x∈l)∧b.rows.length≤20000:=by
  unfold bunO;rw[if_pos ⟨by omega,by omega,by omega⟩]
  obtain⟨bs,k1,k2,k3⟩:=z2bq (f:=fun x=>nTs r.terms (zi w x)) (K:=fun k=>k.length=r.terms.length∧∀v∈k,z16 v) (M:=l) l (if r.terms.length=0 then[⟨[],[]⟩]else[]) (fun x hx=>⟨hx,hkey x hx⟩) (fun b hb'=>by
   split at hb'
   ·rename_i e;rw[yi]at hb';subst hb';exact⟨⟨e.symm,fun v hv=>absurd hv (by simp)⟩,fun x hx=>absurd hx (by simp)⟩
   ·simp at hb')
  have hr:=z1c6 (N:=0) (fun b hb'=>by
   split at hb'
   ·rw[yi]at hb';subst hb';exact yb _
   ·simp at hb') k1
  refine⟨bs,k1,?_,fun b hb'=>⟨(k3 b hb').1,(k3 b hb').2,by have:=hr b hb';omega⟩⟩;rw[hio,zhe];by_cases e:r.terms.length=0
  ·rw[if_pos e]at k1
   obtain⟨b',hb'⟩:=z26o (f:=fun x=>nTs r.terms (zi w x)) l ⟨[],[]⟩ (fun x hx=>by
    obtain⟨k,q1,q2,_⟩:=hkey x hx
    rw[q1,yz (q2.trans e)]) rfl
   rw[hb']at k1;rw[←yk k1];simp only[yf];split<;>omega
  ·rw[if_neg e]at k2;simp only[y1r]at k2;dsimp only;split<;>omega
 have hagg:∀b∈bs,∀a∈r.aggs,∃v,nA a w b.rows=some v∧z16 v:=fun b hb' a ha=>by
  obtain⟨_,q2,q3⟩:=g3 b hb';rw[z2mg,if_pos (by omega)];obtain⟨s,k1,k2,k3⟩:=zox (f:=fun x=>nHd a.t (zi w x)) (P:=z16) b.rows fun x hx=>by
   rw[z1c2];by_cases e:a.t.length=0
   ·rw[if_pos e];exact⟨_,rfl,z3j⟩
   ·rw[if_neg e];refine hS.term hop (hi x (q2 x hx)) _ (y1v _ ?_) x (h2.short x (q2 x hx));have:∀{l:List Agg}{a:Agg}{t:Term},a∈l→t∈a.t→t∈z8k l:=by
     intro l
     induction l with
     |nil=>intro a t h;simp at h
     |cons y l ih=>
      intro a t h ht;rw[z8k];rcases yg.1 h with rfl|h
      ·exact y1p _ ht
      ·exact y1v _ (ih h ht)
    exact this ha (z8r (by omega))
  rw[k1,yh,if_pos (by omega)];exact⟨_,rfl,z2ip a k3⟩
 obtain⟨s,k1,k2,k3⟩:=zox (f:=fun b:Bunch=>(nAs r.aggs w b.rows).bind fun vs=>some (b.key++vs)) (P:=fun y=>y.length=r.terms.length+r.aggs.length∧∀v∈y,z16 v) bs fun b hb'=>by
  obtain⟨vs,j1,j2,j3⟩:=zox (P:=z16) r.aggs (hagg b hb');obtain⟨q1,_,_⟩:=g3 b hb';rw[z26m,j1,yh];refine⟨_,rfl,by rw[y9];omega,fun v hv=>?_⟩;rcases yc.1 hv with hv|hv
  ·exact q1.2 v hv
  ·exact j3 v hv
 have hw:z29 r=r.terms.length+r.aggs.length:=by rw[zky,c,if_neg (by have:z3s 7=1:=rfl;omega),if_neg (by omega),if_neg (by omega),if_pos rfl,z1f (by omega)]
 refine Fine.fin (l:=s) hb ?_ ⟨fun x hx=>(k3 x hx).2,fun x hx=>by rw[(k3 x hx).1,hw];omega,by rw[hS.out];omega⟩;unfold grpO;dsimp only;rw[if_pos (by omega),h1,yh,g1,yh];exact k1
theorem z1l1(G:DbG db)(hS:StepR db r env w)(c:r.op=3∨r.op=8∨r.op=12∨r.op=13)(g:Rows→Rows)(hg:∀l,(g l).length≤l.length∧∀x∈g l,x∈l):∃l,((nKid r.kids 0 w).bind fun l=>some (g l)).bind capQ=some l∧Fine db r l:=by
 have hb:=(z5f G.rows hS.go.sz).1.2;have hk:=(z4s hS.go.v).1.1;have hk1:r.kids.length=1:=by
  have:z3s r.op=1:=by rcases c with e|e|e|e<;>rw[e]<;>rfl
  omega
 obtain⟨l,h1,h2⟩:=hS.kid (by omega) 0 (by omega);have hio:=z1ri (db:=db) (by omega) hk1;have hfew:=h2.few;obtain⟨g1,g2⟩:=hg l;refine Fine.fin (l:=g l) hb (by rw[h1];rfl) (h2.sub (z1yw c hk1) g2 ?_);rw[hS.out,hio,zhe];dsimp only;split<;>omega
theorem z2lj(G:DbG db)(hS:StepR db r env w)(c:r.op=9∨r.op=10∨r.op=11):∃l,(setO (fun w=>nKid r.kids 0 w) (fun w=>nKid r.kids 1 w) r.op r.all w).bind capQ=some l∧Fine db r l:=by
 have hb:=(z5f G.rows hS.go.sz).1.2;obtain⟨⟨hk,_⟩,_,_,_,_,hrest⟩:=z4s hS.go.v;have hk2:r.kids.length=2:=by
  have:z3s r.op=2:=by rcases c with e|e|e<;>rw[e]<;>rfl
  omega
 have hop:r.op≠1:=by omega
 obtain⟨a,h1,h2⟩:=hS.kid hop 0 (by omega);obtain⟨b,h3,h4⟩:=hS.kid hop 1 (by omega);have m0:r.kids.getD 0 za∈r.kids:=z8r (by omega);have m1:r.kids.getD 1 za∈r.kids:=z8r (by omega);have w0:=(z5f G.rows (show(r.kids.getD 0 za).sz≤2000000 by have:=z9x m0;have:=hS.go.sz;omega)).1;have w1:=(z5f G.rows (show(r.kids.getD 1 za).sz≤2000000 by have:=z9x m1;have:=hS.go.sz;omega)).1;have hio:(ioR db r).2=(wghR db (r.kids.getD 0 za)).1+(wghR db (r.kids.getD 1 za)).1:=by
  unfold ioR ioW;rw[if_neg hop,if_neg (by rw[yu];omega),if_neg (by rw[yu];omega),if_neg (by omega),zah db r 0 (by omega),zah db r 1 (by omega),z1f (by omega)]
 unfold zeh at hrest;rw[if_neg (by omega),if_neg (by omega),if_neg (by omega),if_neg (by omega),if_neg (by omega),if_neg (by omega),if_pos c,beq_iff_eq]at hrest;have f0:=h2.few;have f1:=h4.few;obtain⟨u,e,hu,hul⟩:∃u,(if r.op=9 then capQ (a++b)else some a)=some u∧(∀x∈u,x∈a∨x∈b)∧u.length≤a.length+b.length:=by
  by_cases c9:r.op=9
  ·refine⟨a++b,?_,fun x hx=>yc.1 hx,by rw[y9];omega⟩;rw[if_pos c9];unfold capQ;rw[if_pos (by rw[y9];omega)]
  ·exact⟨a,by rw[if_neg c9],fun x hx=>.inl hx,by omega⟩
 obtain⟨g1,g2⟩:=z2li r.op r.all u b;have hw:=z2it c hk2;refine Fine.fin (l:=setE r.op r.all u b) hb ?_ ⟨fun x hx=>?_,fun x hx=>?_,by rw[hS.out,hio];omega⟩
 ·unfold setO;dsimp only;rw[h1,yh,h3,yh,e,yh]
 ·rcases hu x (g2 x hx)with h|h
  ·exact h2.short x h
  ·exact h4.short x h
 ·rcases hu x (g2 x hx)with h|h
  ·rw[h2.wide x h,hw]
  ·rw[h4.wide x h,hw,hrest]
theorem z2lk(G:DbG db)(hT:TOK db n)(hR:ROK db n):ROK db (n+1):=by
 intro r env w hn h;have hS:=StepR.mk' G hT hR hn h;rw[z156];by_cases c1:r.op=1
 ·rw[if_pos c1];exact z2ey G hS c1
 rw[if_neg c1];by_cases c2:r.op=2
 ·rw[if_pos c2];exact z2iu G hS c2
 rw[if_neg c2];by_cases c3:r.op=3
 ·rw[if_pos c3];exact z2ac G hS c3
 rw[if_neg c3];by_cases c4:r.op=4
 ·rw[if_pos c4];exact z26v G hS c4
 rw[if_neg c4];by_cases c5:r.op=5∨r.op=6
 ·rw[if_pos c5];exact z2iv G hS c5
 rw[if_neg c5];by_cases c7:r.op=7
 ·rw[if_pos c7];exact z2ez G hS c7
 rw[if_neg c7];by_cases c8:r.op=8
 ·rw[if_pos c8];exact z1l1 G hS (.inr (.inl c8)) z1q zoy
 rw[if_neg c8];by_cases c9:r.op=9∨r.op=10∨r.op=11
 ·rw[if_pos c9];exact z2lj G hS c9
 rw[if_neg c9];by_cases c12:r.op=12
 ·rw[if_pos c12];exact z1l1 G hS (.inr (.inr (.inl c12))) (fun l=>z55 l r.keys) fun l=>z2aa l r.keys
 rw[if_neg c12];by_cases c13:r.op=13
 ·rw[if_pos c13];exact z1l1 G hS (.inr (.inr (.inr c13))) (fun l=>z3k l r.limit r.skip) fun l=>z2a9 l r.limit r.skip
 rw[if_neg c13];exact Fine.fin (z5f G.rows h.sz).1.2 rfl ⟨fun x hx=>absurd hx (by simp),fun x hx=>absurd hx (by simp),(z5f G.rows h.sz).1.1⟩
end
theorem z12t{db:List Data}(G:DbG db):∀n,TOK db n∧ROK db n
 |0=>⟨fun _ _ _ h=>absurd h (y18 _),fun _ _ _ h=>absurd h (y18 _)⟩
 |n+1=>⟨z2ir G (z12t G n).1 (z12t G n).2,z2lk G (z12t G n).1 (z12t G n).2⟩
theorem z2iw{db:List Data}(G:DbG db){r:Rel}{env:List Int}{w:Wld}(h:GoR db r env w):∃l,nR r w=some l∧Fine db r l:=(z12t G (r.ht+1)).2 r env w (y2l _) h
theorem z2no{db:List Data}(G:DbG db){t:Term}{env:List Int}{w:Wld}(h:GoT db t env w):∃v,nT t w=some v∧z16 v:=(z12t G (t.ht+1)).1 t env w (y2l _) h
theorem z26w{db:List Data}{r:Rel}(h:zl0 r db=true)(hs:r.sz≤2000000)(hc:clR r≤2000000)(ht:txR r):GoR db r [] ⟨[],db⟩:=by
 unfold zl0 z1ai at h;simp only[yp,y1y]at h;obtain⟨_,_,_,_,_,h1,h2,_,h3⟩:=h;refine⟨h1,h2,hs,hc,ht,?_,rfl,fun x hx=>absurd hx (by simp),by have:=z1aj r;simp only[y1r];omega⟩;unfold zrl z6n at h3;simpa using h3
end B
namespace B
open Go Go.RowKit
set_option linter.unusedVariables false
theorem BK.str_inv{s:ByteArray}{n:Nat}(h:BK (cs s) n):s.size≤n:=by
 cases h with
 |s _ _ h=>exact h s rfl
theorem z2pz{v:Val}{n:Nat}(h:BKS (enc .val v) n)(hn:n≤2000000):z16 v:=by
 obtain⟨_,_,_,h,q2⟩:=h.cons_inv;obtain⟨_,_,_,h,q3⟩:=h.cons_inv;obtain⟨_,_,k0,_,q4⟩:=h.cons_inv;have e0:v.s.size≤_:=k0.str_inv;show v.s.size≤_;omega
theorem z2mh:∀(l:List Val)(n:Nat),BKL .val l n→n≤2000000→∀v∈l,z16 v
 |[],_,_,_=>by simp
 |x::r,n,h,hn=>by
  obtain⟨_,_,h1,h2,_⟩:=h.cons_inv;intro v hv;rcases yg.1 hv with rfl|hv
  ·exact z2pz h1 (by omega)
  ·exact z2mh r _ h2 (by omega) v hv
theorem z26x:∀(l:List (List Val))(n:Nat),BKL .row l n→n≤2000000→z6v l∧l.length≤n
 |[],_,_,_=>⟨fun x hx=>absurd hx (by simp),yb _⟩
 |x::r,n,h,hn=>by
  obtain⟨_,_,h1,h2,_⟩:=h.cons_inv;obtain⟨_,_,k0,_,_⟩:=h1.cons_inv;obtain⟨g1,g2⟩:=z26x r _ h2 (by omega);refine⟨fun y hy=>?_,by rw[yt];omega⟩;rcases yg.1 hy with rfl|hy
  ·exact z2mh _ _ k0.dat_inv (by omega)
  ·exact g1 y hy
mutual
theorem bkTx:∀(t:Term)(n:Nat),BKS (enc .term t) n→n≤2000000→txT t∧clT t≤n
 | .mk op v depth at_ name kids sub type,n,h,hn=>by
  obtain⟨_,_,_,h,q1⟩:=h.cons_inv;obtain⟨_,_,_,h,q2⟩:=h.cons_inv;obtain⟨_,_,_,h,q3⟩:=h.cons_inv;obtain⟨_,_,k0,h,q4⟩:=h.cons_inv;obtain⟨_,_,_,h,q5⟩:=h.cons_inv;obtain⟨_,_,_,h,q6⟩:=h.cons_inv;obtain⟨_,_,_,h,q7⟩:=h.cons_inv;obtain⟨_,_,k1,h,q8⟩:=h.cons_inv;obtain⟨_,_,k2,h,q9⟩:=h.cons_inv;have e0:v.s.size≤_:=k0.str_inv;have e1:=z220 kids _ k1.dat_inv (by omega);have e2:=z26y sub _ k2.dat_inv (by omega);simp only[txT,clT];exact⟨⟨by show v.s.size≤_;omega,e1.1,e2.1⟩,by omega⟩
theorem z220:∀(l:List Term)(n:Nat),BKL .term l n→n≤2000000→txTs l∧clTs l≤n
 |[],_,_,_=>⟨trivial,yb _⟩
 |t::r,n,h,hn=>by
  obtain⟨_,_,h1,h2,_⟩:=h.cons_inv;have e1:=bkTx t _ h1 (by omega);have e2:=z220 r _ h2 (by omega);simp only[clTs];exact⟨⟨e1.1,e2.1⟩,by omega⟩
theorem z2q0:∀(a:Agg)(n:Nat),BKS (enc .agg a) n→n≤2000000→txA a∧clA a≤n
 | .mk name d t,n,h,hn=>by
  obtain⟨_,_,_,h,q1⟩:=h.cons_inv;obtain⟨_,_,_,h,q2⟩:=h.cons_inv;obtain⟨_,_,k1,h,q3⟩:=h.cons_inv;have e1:=z220 t _ k1.dat_inv (by omega);simp only[clA];exact⟨e1.1,by omega⟩
theorem z2ix:∀(l:List Agg)(n:Nat),BKL .agg l n→n≤2000000→txAs l∧clAs l≤n
 |[],_,_,_=>⟨trivial,yb _⟩
 |t::r,n,h,hn=>by
  obtain⟨_,_,h1,h2,_⟩:=h.cons_inv;have e1:=z2q0 t _ h1 (by omega);have e2:=z2ix r _ h2 (by omega);simp only[clAs];exact⟨⟨e1.1,e2.1⟩,by omega⟩
theorem z2f0:∀(r:Rel)(n:Nat),BKS (enc .rel r) n→n≤2000000→txR r∧clR r≤n
 | .mk op table cols kids terms aggs keys limit skip all rows,n,h,hn=>by
  obtain⟨_,_,_,h,q1⟩:=h.cons_inv;obtain⟨_,_,_,h,q2⟩:=h.cons_inv;obtain⟨_,_,k0,h,q3⟩:=h.cons_inv;obtain⟨_,_,k1,h,q4⟩:=h.cons_inv;obtain⟨_,_,k2,h,q5⟩:=h.cons_inv;obtain⟨_,_,k3,h,q6⟩:=h.cons_inv;obtain⟨_,_,_,h,q7⟩:=h.cons_inv;obtain⟨_,_,_,h,q8⟩:=h.cons_inv;obtain⟨_,_,_,h,q9⟩:=h.cons_inv;obtain⟨_,_,_,h,q10⟩:=h.cons_inv;obtain⟨_,_,k4,h,q11⟩:=h.cons_inv;have e0:(cols:List Col).length≤_:=(BK.dat_inv k0).len;have e1:=z26y kids _ k1.dat_inv (by omega);have e2:=z220 terms _ k2.dat_inv (by omega);have e3:=z2ix aggs _ k3.dat_inv (by omega);have e4:=z26x rows _ k4.dat_inv (by omega);simp only[txR,clR];exact⟨⟨e1.1,e2.1,e3.1,e4.1⟩,by omega⟩
theorem z26y:∀(l:List Rel)(n:Nat),BKL .rel l n→n≤2000000→txRs l∧clRs l≤n
 |[],_,_,_=>⟨trivial,yb _⟩
 |t::r,n,h,hn=>by
  obtain⟨_,_,h1,h2,_⟩:=h.cons_inv;have e1:=z2f0 t _ h1 (by omega);have e2:=z26y r _ h2 (by omega);simp only[clRs];exact⟨⟨e1.1,e2.1⟩,by omega⟩
end
theorem bkDb:∀(db:List Data)(n:Nat),BKL .data db n→n≤2000000→db.length+zd8 db≤n∧(∀d∈db,z6v d.rows)∧∀d∈db,d.rows.length≤2000000
 |[],_,_,_=>⟨yb _,by simp,by simp⟩
 |d::r,n,h,hn=>by
  obtain⟨_,_,h1,h2,_⟩:=h.cons_inv;obtain⟨_,_,_,h1,q1⟩:=h1.cons_inv;obtain⟨_,_,k0,h1,q2⟩:=h1.cons_inv;have e0:z6v d.rows∧d.rows.length≤_:=z26x d.rows _ k0.dat_inv (by omega);obtain⟨g1,g2,g3⟩:=bkDb r _ h2 (by omega);refine⟨by rw[yt];simp only[zd8];omega,fun x hx=>?_,fun x hx=>?_⟩
  ·rcases yg.1 hx with rfl|hx
   ·exact e0.1
   ·exact g2 x hx
  ·rcases yg.1 hx with rfl|hx
   ·have:=e0.2;omega
   ·exact g3 x hx
theorem z2p4{db:List Data}{n:Nat}(h:BKL .data db n)(hn:n≤2000000):DbG db:=by
 obtain⟨h1,h2,h3⟩:=bkDb db n h hn;exact⟨⟨by omega,fun d hd=>by have:=h3 d hd;omega⟩,by omega,h2⟩
end B
namespace B
open Go Go.RowKit Go.ChangeShapes
set_option maxRecDepth 1000000
theorem z2np{vs:List (V Un)}(h:vs.map flOf=(fls .int).map some):∃x,dec .int vs=some x:=by
 have h0:vs.map flOf=([.int]:List Fl).map some:=h;obtain⟨a0,r0,rfl,h1⟩:=z26 h0;obtain rfl:=z3e h1;exact⟨_,rfl⟩
theorem z2nq{vs:List (V Un)}(h:vs.map flOf=(fls .str).map some):∃x,dec .str vs=some x:=by
 have h0:vs.map flOf=([.str]:List Fl).map some:=h;obtain⟨a0,r0,rfl,h1⟩:=zad h0;obtain rfl:=z3e h1;exact⟨_,rfl⟩
theorem z2nr{vs:List (V Un)}(h:vs.map flOf=(fls .row).map some):∃x,dec .row vs=some x:=by
 have h0:vs.map flOf=([.sl .val]:List Fl).map some:=h;obtain⟨a0,r0,rfl,h1⟩:=z2i h0;obtain rfl:=z3e h1;exact⟨_,rfl⟩
theorem z2ll{vs:List (V Un)}(h:vs.map flOf=(fls .ints).map some):∃x,dec .ints vs=some x:=by
 have h0:vs.map flOf=([.sl .int]:List Fl).map some:=h;obtain⟨a0,r0,rfl,h1⟩:=z2i h0;obtain rfl:=z3e h1;exact⟨_,rfl⟩
theorem z2lm{vs:List (V Un)}(h:vs.map flOf=(fls .trms).map some):∃x,dec .trms vs=some x:=by
 have h0:vs.map flOf=([.sl .term]:List Fl).map some:=h;obtain⟨a0,r0,rfl,h1⟩:=z2i h0;obtain rfl:=z3e h1;exact⟨_,rfl⟩
theorem z2iy{vs:List (V Un)}(h:vs.map flOf=(fls .colss).map some):∃x,dec .colss vs=some x:=by
 have h0:vs.map flOf=([.sl .col]:List Fl).map some:=h;obtain⟨a0,r0,rfl,h1⟩:=z2i h0;obtain rfl:=z3e h1;exact⟨_,rfl⟩
theorem z2iz{vs:List (V Un)}(h:vs.map flOf=(fls .rowss).map some):∃x,dec .rowss vs=some x:=by
 have h0:vs.map flOf=([.sl .row]:List Fl).map some:=h;obtain⟨a0,r0,rfl,h1⟩:=z2i h0;obtain rfl:=z3e h1;exact⟨_,rfl⟩
theorem z2ln{vs:List (V Un)}(h:vs.map flOf=(fls .pair).map some):∃x,dec .pair vs=some x:=by
 have h0:vs.map flOf=([.int,.int]:List Fl).map some:=h;obtain⟨a0,r0,rfl,h1⟩:=z26 h0;obtain⟨a1,r1,rfl,h2⟩:=z26 h1;obtain rfl:=z3e h2;exact⟨_,rfl⟩
theorem z2ns{vs:List (V Un)}(h:vs.map flOf=(fls .val).map some):∃x,dec .val vs=some x:=by
 have h0:vs.map flOf=([.int,.int,.str]:List Fl).map some:=h;obtain⟨a0,r0,rfl,h1⟩:=z26 h0;obtain⟨a1,r1,rfl,h2⟩:=z26 h1;obtain⟨a2,r2,rfl,h3⟩:=zad h2;obtain rfl:=z3e h3;exact⟨_,rfl⟩
theorem z2nt{vs:List (V Un)}(h:vs.map flOf=(fls .col).map some):∃x,dec .col vs=some x:=by
 have h0:vs.map flOf=([.str,.str,.int]:List Fl).map some:=h;obtain⟨a0,r0,rfl,h1⟩:=zad h0;obtain⟨a1,r1,rfl,h2⟩:=zad h1;obtain⟨a2,r2,rfl,h3⟩:=z26 h2;obtain rfl:=z3e h3;exact⟨_,rfl⟩
theorem z2nu{vs:List (V Un)}(h:vs.map flOf=(fls .by_).map some):∃x,dec .by_ vs=some x:=by
 have h0:vs.map flOf=([.int,.bool]:List Fl).map some:=h;obtain⟨a0,r0,rfl,h1⟩:=z26 h0;obtain⟨a1,r1,rfl,h2⟩:=z71 h1;obtain rfl:=z3e h2;exact⟨_,rfl⟩
theorem z2j0{vs:List (V Un)}(h:vs.map flOf=(fls .bound).map some):∃x,dec .bound vs=some x:=by
 have h0:vs.map flOf=([.bool,.bool,.sl .val]:List Fl).map some:=h;obtain⟨a0,r0,rfl,h1⟩:=z71 h0;obtain⟨a1,r1,rfl,h2⟩:=z71 h1;obtain⟨a2,r2,rfl,h3⟩:=z2i h2;obtain rfl:=z3e h3;exact⟨_,rfl⟩
theorem z2j1{vs:List (V Un)}(h:vs.map flOf=(fls .often).map some):∃x,dec .often vs=some x:=by
 have h0:vs.map flOf=([.int,.int,.str,.int]:List Fl).map some:=h;obtain⟨a0,r0,rfl,h1⟩:=z26 h0;obtain⟨a1,r1,rfl,h2⟩:=z26 h1;obtain⟨a2,r2,rfl,h3⟩:=zad h2;obtain⟨a3,r3,rfl,h4⟩:=z26 h3;obtain rfl:=z3e h4;exact⟨_,rfl⟩
theorem z2ad{vs:List (V Un)}(h:vs.map flOf=(fls .colStat).map some):∃x,dec .colStat vs=some x:=by
 have h0:vs.map flOf=([.int,.int,.sl .val,.sl .often]:List Fl).map some:=h;obtain⟨a0,r0,rfl,h1⟩:=z26 h0;obtain⟨a1,r1,rfl,h2⟩:=z26 h1;obtain⟨a2,r2,rfl,h3⟩:=z2i h2;obtain⟨a3,r3,rfl,h4⟩:=z2i h3;obtain rfl:=z3e h4;exact⟨_,rfl⟩
theorem z2lo{vs:List (V Un)}(h:vs.map flOf=(fls .data).map some):∃x,dec .data vs=some x:=by
 have h0:vs.map flOf=([.str,.sl .row]:List Fl).map some:=h;obtain⟨a0,r0,rfl,h1⟩:=zad h0;obtain⟨a1,r1,rfl,h2⟩:=z2i h1;obtain rfl:=z3e h2;exact⟨_,rfl⟩
theorem z2nv{vs:List (V Un)}(h:vs.map flOf=(fls .acc).map some):∃x,dec .acc vs=some x:=by
 have h0:vs.map flOf=([.str,.bool,.int,.int,.int,.int,.int,.str,.sl .val]:List Fl).map some:=h;obtain⟨a0,r0,rfl,h1⟩:=zad h0;obtain⟨a1,r1,rfl,h2⟩:=z71 h1;obtain⟨a2,r2,rfl,h3⟩:=z26 h2;obtain⟨a3,r3,rfl,h4⟩:=z26 h3;obtain⟨a4,r4,rfl,h5⟩:=z26 h4;obtain⟨a5,r5,rfl,h6⟩:=z26 h5;obtain⟨a6,r6,rfl,h7⟩:=z26 h6;obtain⟨a7,r7,rfl,h8⟩:=zad h7;obtain⟨a8,r8,rfl,h9⟩:=z2i h8;obtain rfl:=z3e h9;exact⟨_,rfl⟩
theorem z2lp{vs:List (V Un)}(h:vs.map flOf=(fls .stat).map some):∃x,dec .stat vs=some x:=by
 have h0:vs.map flOf=([.str,.int,.int,.sl .colStat]:List Fl).map some:=h;obtain⟨a0,r0,rfl,h1⟩:=zad h0;obtain⟨a1,r1,rfl,h2⟩:=z26 h1;obtain⟨a2,r2,rfl,h3⟩:=z26 h2;obtain⟨a3,r3,rfl,h4⟩:=z2i h3;obtain rfl:=z3e h4;exact⟨_,rfl⟩
theorem z2f1{vs:List (V Un)}(h:vs.map flOf=(fls .column).map some):∃x,dec .column vs=some x:=by
 have h0:vs.map flOf=([.int,.int,.sl .val,.sl .often,.int,.int,.int]:List Fl).map some:=h;obtain⟨a0,r0,rfl,h1⟩:=z26 h0;obtain⟨a1,r1,rfl,h2⟩:=z26 h1;obtain⟨a2,r2,rfl,h3⟩:=z2i h2;obtain⟨a3,r3,rfl,h4⟩:=z2i h3;obtain⟨a4,r4,rfl,h5⟩:=z26 h4;obtain⟨a5,r5,rfl,h6⟩:=z26 h5;obtain⟨a6,r6,rfl,h7⟩:=z26 h6;obtain rfl:=z3e h7;exact⟨_,rfl⟩
theorem z2lq{vs:List (V Un)}(h:vs.map flOf=(fls .term).map some):∃x,dec .term vs=some x:=by
 have h0:vs.map flOf=([.int,.int,.int,.str,.int,.int,.str,.sl .term,.sl .rel,.int]:List Fl).map some:=h;obtain⟨a0,r0,rfl,h1⟩:=z26 h0;obtain⟨a1,r1,rfl,h2⟩:=z26 h1;obtain⟨a2,r2,rfl,h3⟩:=z26 h2;obtain⟨a3,r3,rfl,h4⟩:=zad h3;obtain⟨a4,r4,rfl,h5⟩:=z26 h4;obtain⟨a5,r5,rfl,h6⟩:=z26 h5;obtain⟨a6,r6,rfl,h7⟩:=zad h6;obtain⟨a7,r7,rfl,h8⟩:=z2i h7;obtain⟨a8,r8,rfl,h9⟩:=z2i h8;obtain⟨a9,r9,rfl,h10⟩:=z26 h9;obtain rfl:=z3e h10;exact⟨_,rfl⟩
theorem z2nw{vs:List (V Un)}(h:vs.map flOf=(fls .agg).map some):∃x,dec .agg vs=some x:=by
 have h0:vs.map flOf=([.str,.bool,.sl .term]:List Fl).map some:=h;obtain⟨a0,r0,rfl,h1⟩:=zad h0;obtain⟨a1,r1,rfl,h2⟩:=z71 h1;obtain⟨a2,r2,rfl,h3⟩:=z2i h2;obtain rfl:=z3e h3;exact⟨_,rfl⟩
theorem z2nx{vs:List (V Un)}(h:vs.map flOf=(fls .rel).map some):∃x,dec .rel vs=some x:=by
 have h0:vs.map flOf=([.int,.str,.sl .col,.sl .rel,.sl .term,.sl .agg,.sl .by_,.int,.int,.bool,.sl .row]:List Fl).map some:=h;obtain⟨a0,r0,rfl,h1⟩:=z26 h0;obtain⟨a1,r1,rfl,h2⟩:=zad h1;obtain⟨a2,r2,rfl,h3⟩:=z2i h2;obtain⟨a3,r3,rfl,h4⟩:=z2i h3;obtain⟨a4,r4,rfl,h5⟩:=z2i h4;obtain⟨a5,r5,rfl,h6⟩:=z2i h5;obtain⟨a6,r6,rfl,h7⟩:=z2i h6;obtain⟨a7,r7,rfl,h8⟩:=z26 h7;obtain⟨a8,r8,rfl,h9⟩:=z26 h8;obtain⟨a9,r9,rfl,h10⟩:=z71 h9;obtain⟨a10,r10,rfl,h11⟩:=z2i h10;obtain rfl:=z3e h11;exact⟨_,rfl⟩
theorem z2lr{vs:List (V Un)}(h:vs.map flOf=(fls .plan).map some):∃x,dec .plan vs=some x:=by
 have h0:vs.map flOf=([.int,.str,.str,.sl .col,.sl .plan,.sl .term,.sl .term,.sl .term,.sl .agg,.sl .by_,.sl .int,.bool,.bool,.sl .val,.bool,.bool,.sl .val,.int,.int,.bool,.sl .row,.int,.int]:List Fl).map some:=h;obtain⟨a0,r0,rfl,h1⟩:=z26 h0;obtain⟨a1,r1,rfl,h2⟩:=zad h1;obtain⟨a2,r2,rfl,h3⟩:=zad h2;obtain⟨a3,r3,rfl,h4⟩:=z2i h3;obtain⟨a4,r4,rfl,h5⟩:=z2i h4;obtain⟨a5,r5,rfl,h6⟩:=z2i h5;obtain⟨a6,r6,rfl,h7⟩:=z2i h6;obtain⟨a7,r7,rfl,h8⟩:=z2i h7;obtain⟨a8,r8,rfl,h9⟩:=z2i h8;obtain⟨a9,r9,rfl,h10⟩:=z2i h9;obtain⟨a10,r10,rfl,h11⟩:=z2i h10;obtain⟨a11,r11,rfl,h12⟩:=z71 h11;obtain⟨a12,r12,rfl,h13⟩:=z71 h12;obtain⟨a13,r13,rfl,h14⟩:=z2i h13;obtain⟨a14,r14,rfl,h15⟩:=z71 h14;obtain⟨a15,r15,rfl,h16⟩:=z71 h15;obtain⟨a16,r16,rfl,h17⟩:=z2i h16;obtain⟨a17,r17,rfl,h18⟩:=z26 h17;obtain⟨a18,r18,rfl,h19⟩:=z26 h18;obtain⟨a19,r19,rfl,h20⟩:=z71 h19;obtain⟨a20,r20,rfl,h21⟩:=z2i h20;obtain⟨a21,r21,rfl,h22⟩:=z26 h21;obtain⟨a22,r22,rfl,h23⟩:=z26 h22;obtain rfl:=z3e h23;exact⟨_,rfl⟩
theorem z2ls{vs:List (V Un)}(h:vs.map flOf=(fls .span).map some):∃x,dec .span vs=some x:=by
 have h0:vs.map flOf=([.sl .val,.bool,.bool,.sl .val,.bool,.bool,.sl .val,.int,.sl .term]:List Fl).map some:=h;obtain⟨a0,r0,rfl,h1⟩:=z2i h0;obtain⟨a1,r1,rfl,h2⟩:=z71 h1;obtain⟨a2,r2,rfl,h3⟩:=z71 h2;obtain⟨a3,r3,rfl,h4⟩:=z2i h3;obtain⟨a4,r4,rfl,h5⟩:=z71 h4;obtain⟨a5,r5,rfl,h6⟩:=z71 h5;obtain⟨a6,r6,rfl,h7⟩:=z2i h6;obtain⟨a7,r7,rfl,h8⟩:=z26 h7;obtain⟨a8,r8,rfl,h9⟩:=z2i h8;obtain rfl:=z3e h9;exact⟨_,rfl⟩
theorem z2p5{vs:List (V Un)}(h:vs.map flOf=(fls .u8).map some):∃x,dec .u8 vs=some x:=by
 have h0:vs.map flOf=([.num .u8]:List Fl).map some:=h;obtain⟨a0,r0,rfl,h1⟩:=z2g7 h0;obtain rfl:=z3e h1;exact⟨_,rfl⟩
theorem z2ny{vs:List (V Un)}(h:vs.map flOf=(fls .bol).map some):∃x,dec .bol vs=some x:=by
 have h0:vs.map flOf=([.bool]:List Fl).map some:=h;obtain⟨a0,r0,rfl,h1⟩:=z71 h0;obtain rfl:=z3e h1;exact⟨_,rfl⟩
theorem z2lt{vs:List (V Un)}(h:vs.map flOf=(fls .sign).map some):∃x,dec .sign vs=some x:=by
 have h0:vs.map flOf=([.int,.num .u8]:List Fl).map some:=h;obtain⟨a0,r0,rfl,h1⟩:=z26 h0;obtain⟨a1,r1,rfl,h2⟩:=z2g7 h1;obtain rfl:=z3e h2;exact⟨_,rfl⟩
theorem z2j2{vs:List (V Un)}(h:vs.map flOf=(fls .bunch).map some):∃x,dec .bunch vs=some x:=by
 have h0:vs.map flOf=([.sl .val,.sl .row]:List Fl).map some:=h;obtain⟨a0,r0,rfl,h1⟩:=z2i h0;obtain⟨a1,r1,rfl,h2⟩:=z2i h1;obtain rfl:=z3e h2;exact⟨_,rfl⟩
theorem z2nz{vs:List (V Un)}(h:vs.map flOf=(fls .wld).map some):∃x,dec .wld vs=some x:=by
 have h0:vs.map flOf=([.sl .row,.sl .data]:List Fl).map some:=h;obtain⟨a0,r0,rfl,h1⟩:=z2i h0;obtain⟨a1,r1,rfl,h2⟩:=z2i h1;obtain rfl:=z3e h2;exact⟨_,rfl⟩
theorem z1c8:z2g9:=by
 intro τ vs h;cases τ with
 |int=>exact z2np h
 |str=>exact z2nq h
 |row=>exact z2nr h
 |ints=>exact z2ll h
 |trms=>exact z2lm h
 |colss=>exact z2iy h
 |rowss=>exact z2iz h
 |pair=>exact z2ln h
 |u8=>exact z2p5 h
 |bol=>exact z2ny h
 |val=>exact z2ns h
 |col=>exact z2nt h
 |by_=>exact z2nu h
 |bound=>exact z2j0 h
 |often=>exact z2j1 h
 |colStat=>exact z2ad h
 |data=>exact z2lo h
 |acc=>exact z2nv h
 |stat=>exact z2lp h
 |column=>exact z2f1 h
 |term=>exact z2lq h
 |agg=>exact z2nw h
 |rel=>exact z2nx h
 |plan=>exact z2lr h
 |sign=>exact z2lt h
 |bunch=>exact z2j2 h
 |wld=>exact z2nz h
 |span=>exact z2ls h
theorem z2p6:∀(τ:Ty)(x:Den τ),(B.enc τ x).map flOf=(fls τ).map some:=by intro τ x;cases τ<;>rfl
theorem z1ds{x y:Val}(h:B.enc .val x=B.enc .val y):x=y:=by
 cases x;cases y;simp only[B.enc,y1j,V.s.injEq,V.dat.injEq,Value.int.injEq,Value.bool.injEq,Value.string.injEq,heq_eq_eq,true_and,and_true,ci,cb,cs]at h;grind
theorem z2o0{x y:Col}(h:B.enc .col x=B.enc .col y):x=y:=by
 cases x;cases y;simp only[B.enc,y1j,V.s.injEq,V.dat.injEq,Value.int.injEq,Value.bool.injEq,Value.string.injEq,heq_eq_eq,true_and,and_true,ci,cb,cs]at h;grind
theorem z2o1{x y:By}(h:B.enc .by_ x=B.enc .by_ y):x=y:=by
 cases x;cases y;simp only[B.enc,y1j,V.s.injEq,V.dat.injEq,Value.int.injEq,Value.bool.injEq,Value.string.injEq,heq_eq_eq,true_and,and_true,ci,cb,cs]at h;grind
theorem zs5{x y:Bound}(h:B.enc .bound x=B.enc .bound y):x=y:=by
 cases x;cases y;simp only[B.enc,y1j,V.s.injEq,V.dat.injEq,Value.int.injEq,Value.bool.injEq,Value.string.injEq,heq_eq_eq,true_and,and_true,ci,cb,cs]at h;grind
theorem z2j3{x y:Often}(h:B.enc .often x=B.enc .often y):x=y:=by
 cases x;cases y;simp only[B.enc,y1j,V.s.injEq,V.dat.injEq,Value.int.injEq,Value.bool.injEq,Value.string.injEq,heq_eq_eq,true_and,and_true,ci,cb,cs]at h;simp;obtain⟨e0,e1,e2,e3⟩:=h;exact⟨z1ds (by simp_all[B.enc,ci,cb,cs]),e3⟩
theorem z1hs{x y:ColStat}(h:B.enc .colStat x=B.enc .colStat y):x=y:=by
 cases x;cases y;simp only[B.enc,y1j,V.s.injEq,V.dat.injEq,Value.int.injEq,Value.bool.injEq,Value.string.injEq,heq_eq_eq,true_and,and_true,ci,cb,cs]at h;grind
theorem z2lu{x y:Data}(h:B.enc .data x=B.enc .data y):x=y:=by
 cases x;cases y;simp only[B.enc,y1j,V.s.injEq,V.dat.injEq,Value.int.injEq,Value.bool.injEq,Value.string.injEq,heq_eq_eq,true_and,and_true,ci,cb,cs]at h;grind
theorem z2o2{x y:Acc}(h:B.enc .acc x=B.enc .acc y):x=y:=by
 cases x;cases y;simp only[B.enc,y1j,V.s.injEq,V.dat.injEq,Value.int.injEq,Value.bool.injEq,Value.string.injEq,heq_eq_eq,true_and,and_true,ci,cb,cs]at h;simp;obtain⟨e0,e1,e2,e3,e4,e5,e6,e7,e8⟩:=h;exact⟨e0,e1,e2,e3,e4,z1ds (by simp_all[B.enc,ci,cb,cs]),e8⟩
theorem z2lv{x y:Stat}(h:B.enc .stat x=B.enc .stat y):x=y:=by
 cases x;cases y;simp only[B.enc,y1j,V.s.injEq,V.dat.injEq,Value.int.injEq,Value.bool.injEq,Value.string.injEq,heq_eq_eq,true_and,and_true,ci,cb,cs]at h;grind
theorem z2f2{x y:Column}(h:B.enc .column x=B.enc .column y):x=y:=by
 cases x;cases y;simp only[B.enc,y1j,V.s.injEq,V.dat.injEq,Value.int.injEq,Value.bool.injEq,Value.string.injEq,heq_eq_eq,true_and,and_true,ci,cb,cs]at h;simp;obtain⟨e0,e1,e2,e3,e4,e5,e6⟩:=h;exact⟨z1hs (by simp_all[B.enc,ci,cb,cs]),e4,e5,e6⟩
theorem z2lw{x y:Term}(h:B.enc .term x=B.enc .term y):x=y:=by
 cases x;cases y;simp only[B.enc,Term.op_mk,Term.v_mk,Term.depth_mk,Term.at__mk,Term.name_mk,Term.kids_mk,Term.sub_mk,Term.type_mk,y1j,V.s.injEq,V.dat.injEq,Value.int.injEq,Value.bool.injEq,Value.string.injEq,heq_eq_eq,true_and,and_true,ci,cb,cs]at h;simp;obtain⟨e0,e1,e2,e3,e4,e5,e6,e7,e8,e9⟩:=h;exact⟨e0,z1ds (by simp_all[B.enc,ci,cb,cs]),e4,e5,e6,e7,e8,e9⟩
theorem z2o3{x y:Agg}(h:B.enc .agg x=B.enc .agg y):x=y:=by
 cases x;cases y;simp only[B.enc,Agg.name_mk,Agg.distinct_mk,Agg.t_mk,y1j,V.s.injEq,V.dat.injEq,Value.int.injEq,Value.bool.injEq,Value.string.injEq,heq_eq_eq,true_and,and_true,ci,cb,cs]at h;grind
theorem z2o4{x y:Rel}(h:B.enc .rel x=B.enc .rel y):x=y:=by
 cases x;cases y;simp only[B.enc,Rel.op_mk,Rel.table_mk,Rel.cols_mk,Rel.kids_mk,Rel.terms_mk,Rel.aggs_mk,Rel.keys_mk,Rel.limit_mk,Rel.skip_mk,Rel.all_mk,Rel.rows_mk,y1j,V.s.injEq,V.dat.injEq,Value.int.injEq,Value.bool.injEq,Value.string.injEq,heq_eq_eq,true_and,and_true,ci,cb,cs]at h;grind
theorem z2lx{x y:Plan}(h:B.enc .plan x=B.enc .plan y):x=y:=by
 cases x;cases y;simp only[B.enc,Plan.op_mk,Plan.table_mk,Plan.index_mk,Plan.cols_mk,Plan.kids_mk,Plan.terms_mk,Plan.lkeys_mk,Plan.rkeys_mk,Plan.aggs_mk,Plan.keys_mk,Plan.out_mk,Plan.lo_mk,Plan.hi_mk,Plan.limit_mk,Plan.skip_mk,Plan.all_mk,Plan.rows_mk,Plan.est_mk,Plan.cost_mk,y1j,V.s.injEq,V.dat.injEq,Value.int.injEq,Value.bool.injEq,Value.string.injEq,heq_eq_eq,true_and,and_true,ci,cb,cs]at h;simp;obtain⟨e0,e1,e2,e3,e4,e5,e6,e7,e8,e9,e10,e11,e12,e13,e14,e15,e16,e17,e18,e19,e20,e21,e22⟩:=h;exact⟨e0,e1,e2,e3,e4,e5,e6,e7,e8,e9,e10,zs5 (by simp_all[B.enc,ci,cb,cs]),zs5 (by simp_all[B.enc,ci,cb,cs]),e17,e18,e19,e20,e21,e22⟩
theorem z2ly{x y:Span}(h:B.enc .span x=B.enc .span y):x=y:=by
 cases x;cases y;simp only[B.enc,y1j,V.s.injEq,V.dat.injEq,Value.int.injEq,Value.bool.injEq,Value.string.injEq,heq_eq_eq,true_and,and_true,ci,cb,cs]at h;simp;obtain⟨e0,e1,e2,e3,e4,e5,e6,e7,e8⟩:=h;exact⟨e0,zs5 (by simp_all[B.enc,ci,cb,cs]),zs5 (by simp_all[B.enc,ci,cb,cs]),e7,e8⟩
theorem z2lz{x y:Sign}(h:B.enc .sign x=B.enc .sign y):x=y:=by
 cases x;cases y;simp only[B.enc,y1j,V.s.injEq,V.dat.injEq,Value.int.injEq,Value.bool.injEq,Value.string.injEq,heq_eq_eq,true_and,and_true,ci,cu8,cb,cs]at h;grind
theorem z2j4{x y:Bunch}(h:B.enc .bunch x=B.enc .bunch y):x=y:=by
 cases x;cases y;simp only[B.enc,y1j,V.s.injEq,V.dat.injEq,Value.int.injEq,Value.bool.injEq,Value.string.injEq,heq_eq_eq,true_and,and_true,ci,cu8,cb,cs]at h;grind
theorem z2o5{x y:Wld}(h:B.enc .wld x=B.enc .wld y):x=y:=by
 cases x;cases y;simp only[B.enc,y1j,V.s.injEq,V.dat.injEq,Value.int.injEq,Value.bool.injEq,Value.string.injEq,heq_eq_eq,true_and,and_true,ci,cu8,cb,cs]at h;grind
theorem z2o6:∀{τ:Ty}{x y:Den τ},B.enc τ x=B.enc τ y→x=y:=by
 intro τ x y h;cases τ with
 |int=>simp_all[B.enc,ci,cs]
 |str=>simp_all[B.enc,ci,cs]
 |row=>simp_all[B.enc,ci,cs]
 |ints=>simp_all[B.enc,ci,cs]
 |trms=>simp_all[B.enc,ci,cs]
 |colss=>simp_all[B.enc,ci,cs]
 |rowss=>simp_all[B.enc,ci,cs]
 |pair=>grind[B.enc,ci]
 |u8=>simp_all[B.enc,cu8]
 |bol=>simp_all[B.enc,cb]
 |val=>exact z1ds h
 |col=>exact z2o0 h
 |by_=>exact z2o1 h
 |bound=>exact zs5 h
 |often=>exact z2j3 h
 |colStat=>exact z1hs h
 |data=>exact z2lu h
 |acc=>exact z2o2 h
 |stat=>exact z2lv h
 |column=>exact z2f2 h
 |term=>exact z2lw h
 |agg=>exact z2o3 h
 |rel=>exact z2o4 h
 |plan=>exact z2lx h
 |sign=>exact z2lz h
 |bunch=>exact z2j4 h
 |wld=>exact z2o5 h
 |span=>exact z2ly h
theorem z2p7:∀τ,0<sz τ:=by intro τ;cases τ<;>decide
def byt:Ty→Nat
 | .int=>8
 | .str=>16
 | .row=>24
 | .ints=>24
 | .trms=>24
 | .colss=>24
 | .rowss=>24
 | .pair=>16
 | .u8=>1
 | .bol=>1
 | .sign=>16
 | .bunch=>48
 | .wld=>48
 | .val=>32
 | .col=>40
 | .by_=>16
 | .bound=>32
 | .often=>40
 | .colStat=>64
 | .data=>40
 | .acc=>104
 | .stat=>56
 | .column=>88
 | .term=>128
 | .agg=>48
 | .rel=>192
 | .plan=>360
 | .span=>120
def tl:Option (TI Un)→TI Un
 |some (.sl _ .pair _)=>.oth
 |some x=>x
 |none=>.oth
theorem z2mi{x:TI Un}{e:TypeId}{τ:Ty}{b:Nat}(h:tl (some x)=.sl e τ b):x=.sl e τ b∧τ≠.pair:=by
 cases x with
 |sl e' τ' b'=>
  cases τ'<;>simp[tl]at h<;>(obtain⟨rfl,rfl,rfl⟩:=h;exact⟨rfl,by simp⟩)
 |_=>simp[tl]at h
def tiL(t:TypeId):TI Un:=tl (look t tab)
noncomputable def lay1:TI Un→Bool
 | .sl _ .pair _=>true
 | .sl e τ b=>lay Tryz.prog tiL 8 e==some (fls τ)&&Tryz.prog.cellsOf e==sz τ&&Tryz.prog.bytesOf e==byt τ&&b==byt τ
 |_=>true
theorem z2br{e:TypeId}{τ:Ty}{b:Nat}(h:lay1 (.sl e τ b)=true)(hp:τ≠.pair)   :(lay Tryz.prog tiL 8 e=some (fls τ)∧Tryz.prog.cellsOf e=sz τ)∧Tryz.prog.bytesOf e=byt τ:=by
 cases τ<;>first|exact absurd rfl hp|(simp only[lay1,yp,beq_iff_eq]at h;exact h.1)
noncomputable def layB:Bool:=tab.all fun x=>lay1 x.2
theorem z1yx:layB=true:=by rfl
theorem z2f3{t e:TypeId}{τ:Ty}{b:Nat}(h:tiL t=.sl e τ b):(lay Tryz.prog tiL 8 e=some (fls τ)∧Tryz.prog.cellsOf e=sz τ)∧Tryz.prog.underlying t=some (.slice e):=by
 have hb:=z1yx;unfold layB at hb;rw[y1f]at hb;unfold tiL at h;cases hl:look t tab with
 |none=>simp_all[tl]
 |some x=>
  rw[hl]at h;have hm:=hb _ (zk7 hl);obtain⟨rfl,hp⟩:=z2mi h;have ht:=(z21p (fun _=>none) (fun _=>none) (fun _=>none) (fun _=>none) (fun _=>none)).ti t;have hti:(mach (fun _=>none) (fun _=>none) (fun _=>none) (fun _=>none) (fun _=>none)).ti t=.sl e τ b:=by
   simp_all[Mc.ti,mach]
  rw[hti]at ht;exact⟨(z2br hm hp).1,ht.2.1⟩
theorem z2q1{t e:TypeId}{τ:Ty}{b:Nat}(h:tiL t=.sl e τ b):Tryz.prog.bytesOf e=byt τ:=by
 have hb:=z1yx;unfold layB at hb;rw[y1f]at hb;unfold tiL at h;cases hl:look t tab with
 |none=>simp_all[tl]
 |some x=>
  rw[hl]at h;have hm:=hb _ (zk7 hl);obtain⟨rfl,hp⟩:=z2mi h;exact(z2br hm hp).2
section
variable {H:Type} {enc':TypeId×Value→H} {w:World} {spare:Nat→Bool} {held:Bool} {base:Nat} {r:Reach} {b0:Nat}
theorem z1c9{t:TypeId}{cs:List Value}{d:DataW H}{ps:List MemPlace}{k:Nat}{fl:List Fl}(h:∃n,DataW.trod enc' Tryz.prog w 0 spare held n t cs=some (d,ps))(hl:lay Tryz.prog tiL k t=some fl):
  ∃vs,All2 (VRel En (StA w) w) cs vs∧vs.map flOf=fl.map some∧((∀q∈d.weights Tryz.prog t,q≤reachBytes)→∀v∈vs,VB byt v)∧BKS vs (Rows.uptoBulk d- 1):=by
 obtain⟨n,h⟩:=h;exact z2gb (fun t e τ b ht=>z2q1 ht) (fun t e τ b ht=>⟨8,(z2f3 ht).1.1⟩) z1c8 z2p7 (fun t e τ b ht=>(z2f3 ht).1.2) n t cs _ k fl h hl
theorem z2o7{t e:TypeId}{τ:Ty}{b:Nat}(ht:tiL t=.sl e τ b){v:Value}{d:DataW H}{ps:List MemPlace}(hval:Value.okWide Tryz.prog w r b0 t v)(hd:DataW.Trod enc' Tryz.prog w 0 spare held t v d ps):
  ∃l:List (Den τ),DRel Tryz.prog En (StA w) w v (.d (.v (.dat (U:=Un) τ l)))∧((∀q∈d.weights Tryz.prog t,q≤reachBytes)→VB byt (.dat (U:=Un) τ l))∧BKL τ l (Rows.uptoBulk d- 1):=by
 have hu:=(z2f3 ht).2;obtain⟨a,len,cap,rfl⟩:=Go.WideShapes.okWide_slice hu hval;obtain⟨vs,h1,h2,h4,h5⟩:=z1c9 (k:=1) (fl:=[.sl τ]) hd (by simp_all[lay,if_true]);obtain⟨l,rs,rfl,h3⟩:=z2i h2;refine⟨l,h1.1,fun hq=>h4 hq _ y10,?_⟩;cases h5 with
 |cons _ _ a c _ g1 g2 hn=>
  cases g1 with
  |dat _ _ _ g3=>exact g3.mono (by omega)
theorem z2o8{t:TypeId}(τ:Ty){fs:Array Field}(hu:Tryz.prog.underlying t=some (.struct fs))(hl:lay Tryz.prog tiL 8 t=some (fls τ)){v:Value}{d:DataW H}{ps:List MemPlace}(hval:Value.okWide Tryz.prog w r b0 t v)(hd:DataW.Trod enc' Tryz.prog w 0 spare held t v d ps):
  ∃x:Den τ,DRel Tryz.prog En (StA w) w v (.d (.agg (B.enc τ x)))∧((∀q∈d.weights Tryz.prog t,q≤reachBytes)→∀c∈B.enc τ x,VB byt c)∧BKS (B.enc τ x) (Rows.uptoBulk d- 1):=by
 obtain⟨cs,rfl,_⟩:=Go.WideShapes.okWide_struct hu hval;obtain⟨vs,h1,h2,h4,h5⟩:=z1c9 hd hl;obtain⟨x,hx⟩:=z1c8 τ vs h2;refine⟨x,?_⟩;rw[zdx τ vs x hx];exact⟨⟨cs,rfl,h1⟩,h4,h5⟩
end
def isSl(τ:Ty):TI Un→Bool
 | .sl _ τ' _=>decide (τ'=τ)
 |_=>false
theorem z2p8{t:TypeId}{τ:Ty}(h:isSl τ (tiL t)=true):tiL t=.sl (match tiL t with| .sl e _ _=>e|_=>0) τ (match tiL t with| .sl _ _ b=>b|_=>0):=by
 cases hx:tiL t with
 |sl e τ' b=>
  rw[hx]at h;have:τ'=τ:=of_decide_eq_true h;grind
 |_=>rw[hx]at h;simp[isSl]at h
def isSt:Option TypeDesc→Bool
 |some (.struct _)=>true
 |_=>false
theorem z2p9{t:TypeId}(h:isSt (Tryz.prog.underlying t)=true):∃fs,Tryz.prog.underlying t=some (.struct fs):=by
 unfold isSt at h;grind
theorem z2q2(τ:Ty)(x:Den τ):dS τ (.d (.agg (B.enc τ x)))=some x:=by
 obtain⟨y,hy⟩:=z1c8 τ (B.enc τ x) (z2p6 τ x);show dec τ (B.enc τ x)=some x;rw[hy];exact congrArg some (z2o6 (zdx τ _ y hy))
theorem z2j5{f:FuncId}{F:FnC Un}(hok:FnOK f F){args:List (D Un)}{ob:List Prop}(hF:F args=some (ob,[.c (.s (.bool true))],[]))(hob:∀p∈ob,p){w:World}{vs:List Value}(hrel:All2 (DRel Tryz.prog En (StA w) w) vs args)(hld:Laid w:=by exact Laid.none _):
  Calls Tryz.prog f vs.toArray w fun e w'=>e=.returned (.bool true)∧Ext w w':=by
 refine((hok args ob _ [] hF hob).1 w (StA w) vs (fun b o h=>h) hrel hld).mono ?_;rintro e w' ⟨v,rfl,hx,g,-,-,-,hr,-⟩;exact⟨by rw[show v=.bool true from hr.1],hx⟩
end B
end Go.Proofs.YtjfpbchdcbhfgaaGreat
