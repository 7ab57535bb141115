/- Part 16 of the proof: Lstx5 Lordr Lnord Snaive4 Snvspec Lnlb Lnlc Lbulkn BLaw. -/
import Derived.Sort.Statements
import Derived.Test.YtjfpbchdcbhfgaaGreatNse15
set_option linter.unusedVariables false
set_option linter.unusedSimpArgs false
namespace Go.Proofs.YtjfpbchdcbhfgaaGreat
namespace B
open Go Go.RowKit Go.Shelf Go.Lib Go.Sort
set_option maxRecDepth 1000000
set_option linter.unusedVariables false
noncomputable section
section
variable {α:Type} [Inhabited α]
set_option maxHeartbeats 4000000 in
theorem z2no(enc:α→Value)(cf:α→α→Int)(g:Nat)(cb:Array Value)(blk off cap:Nat)(d0 d:Array α)(w0 w:World)
  (eg:∀args w,(callFunc g args).run Tryz.prog w=.ok (.enter g args) w)(hcmp:CmpX Tryz.prog g cb enc cf blk off d0.size w0)
  (R:Row1 enc w0 blk off d0)(hs:d0.size=d.size)(S:SX enc w0 blk off d w)(hsz:d.size<1152921504606846976):
  Calls Tryz.prog 145 #[.slice (some ⟨blk,off,none⟩) d.size cap,.func (.func g) #[] cb] w fun e w'=>e=.returned (.tuple #[])∧SX enc w0 blk off (stF (ltOf cf) d d.size) w':=by
 have H:=Lib.hid (z2j8 enc cf g cb blk off cap d0 d w0 w eg hcmp R hs S hsz);clear S hcmp;obtain⟨n,hn⟩:∃n,n=d.size:=⟨_,rfl⟩;rw[←hn]at H hsz ⊢;clear hn
 go_enter Tryz.func145,Tryz.ntmps145
 go_wp2_with (first
  |(go_at_call 191;refine H.out.mono ?_;rintro e1 w1 ⟨rfl,T⟩;have S1:=Lib.hid T;clear T)
  |fail)
 go_end0
 exact⟨rfl,S1.out⟩
end
theorem z2lb(p:Option Addr)(cap g:Nat)(cb:Array Value)(w:World):Calls Tryz.prog 226 #[.slice p 0 cap,.int .i64 0,.int .i64 0,.func (.func g) #[] cb] w fun e w'=>e=.returned (.tuple #[])∧w'=w:=by
 go_enter Tryz.func226,Tryz.ntmps226
 go_wp2_with fail
 go_loopg [8] 0 (fun kx s8 wr=>s8=.int .i64 1∧wr=w)
 case atStart=>exact⟨by go_num,rfl⟩
 case round=>
  obtain⟨rfl,rfl⟩:=hrel
  go_wp2_with fail
  go_end0
  exact⟨rfl,rfl⟩
theorem z2cs(p:Option Addr)(cap g:Nat)(cb:Array Value)(w:World):Calls Tryz.prog 191 #[.slice p 0 cap,.int .i64 0,.func (.func g) #[] cb] w fun e w'=>e=.returned (.tuple #[])∧w'=w:=by
 go_enter Tryz.func191,Tryz.ntmps191
 go_wp2_with fail
 go_loopg [7,8] 0 (fun kx s7 s8 wr=>s7=.int .i64 0∧s8=.int .i64 20∧wr=w)
 case atStart=>exact⟨by go_num,by go_num,rfl⟩
 case round=>
  obtain⟨rfl,rfl,rfl⟩:=hrel
  go_wp2_with (first
   |(go_at_call 226;refine(z2lb _ _ _ _ _).mono ?_;rintro e1 w1 ⟨rfl,rfl⟩)
   |fail)
  go_loopg [6,7,8,9] 0 (fun kx s6 s7 s8 s9 wr=>s6=.int .i64 20∧wr=w1)
  case atStart=>exact⟨by go_num,rfl⟩
  case round=>
   obtain⟨rfl,rfl⟩:=hrel
   go_wp2_with fail
   go_end0
   exact⟨rfl,rfl⟩
theorem z2lc(p:Option Addr)(cap g:Nat)(cb:Array Value)(w:World):Calls Tryz.prog 145 #[.slice p 0 cap,.func (.func g) #[] cb] w fun e w'=>e=.returned (.tuple #[])∧w'=w:=by
 go_enter Tryz.func145,Tryz.ntmps145
 go_wp2_with (first
  |(go_at_call 191;refine(z2cs _ _ _ _ _).mono ?_;rintro e1 w1 ⟨rfl,rfl⟩)
  |fail)
 go_end0
 exact⟨rfl,rfl⟩
theorem z29l{α:Type}[Inhabited α]{enc:α→Value}{w W:World}{b off:Nat}{d0 d:Array α}(hb:b<w.heap.size)(hH:Holds enc w b off d0)(hs:d.size=d0.size)(h:SX enc w b off d W):PutR w W b off (d.toList.map enc):=by
 have q:=z29k (n:=0) (os:=#[]) hb hH hs;rw[grow_empty]at q;have q:PutR w (putRow enc w b off d) b off (d.toList.map enc):=q;refine⟨h.os.trans q.os,h.tape.trans q.tape,h.output.trans q.output,h.le,fun k hk hne=>(h.block k hk).trans (q.block k hk hne),fun i v hv=>?_,fun p hp ho=>?_,fun p hp=>?_⟩
 ·exact(Below.cell h hb).trans (q.cell i v hv)
 ·exact(Below.cell h hp).trans (q.other p hp ho)
 ·exact(z128 (h.block p.block hp)).trans (q.frozen p hp)
theorem z2gk{w w':World}(h:Ext w w'):Below w.heap.size w w':=⟨h.os,h.tape,h.output,h.size,fun k hk=>h.block hk⟩
theorem z2j9{α β:Type}(f:α→β)(le:β→β→Bool)(l:List α)(x:α):(insS (fun a b=>le (f a) (f b)) l x).map f=insS le (l.map f) (f x):=by
 unfold insS;rw[y4a,yw,List.takeWhile_map,List.dropWhile_map];rfl
theorem z2gl{α β:Type}(f:α→β)(le:β→β→Bool)(l:List α):(z26 (fun a b=>le (f a) (f b)) l).map f=z26 le (l.map f):=by
 have key:∀(l s:List α),(l.foldl (insS fun a b=>le (f a) (f b)) s).map f=(l.map f).foldl (insS le) (s.map f):=by
  intro l
  induction l with
  |nil=>intro s;rfl
  |cons x l ih=>intro s;rw[yt,yw,yt,ih,z2j9]
 exact key l []
theorem z2ld{St:Nat→Nat→Prop}{w:World}{v:Value}{τ:Ty}{xs:List (Den τ)}(h:VRel En St w v (.dat (U:=Un) τ xs)):∃a n c,v=.slice a n c:=by
 rcases h.inv with⟨_,a,c,rfl⟩|⟨b,o,c,cv,rfl,_⟩
 ·exact⟨_,_,_,rfl⟩
 ·exact⟨_,_,_,rfl⟩
theorem z2mr{β:Type}(xs:List β):((List.finRange xs.length).map fun i=>xs[i.1]'i.2)=xs:=by
 apply List.ext_getElem
 ·simp
 ·intro i h1 h2;simp
def leP{β:Type}(p:β→β→Int)(a b:β):Bool:=!decide (p b a<0)
def zn1:FnU Un:=fun τ xs args=>match τ,xs,args with
 | .row,xs,[x1]=>(dF x1).bind fun φ=>some ([xs.length≤1000000000,φ=z12 (z2i φ) (z1v φ),(∀x∈xs,∀y∈xs,z2i φ x y),Pre (leP (z1v φ))],z26 (leP (z1v φ)) xs)
 |_,_,_=>none
theorem z1tu:UpOK 145 zn1:=by
  intro τ xs ds ob ys h hob;unfold zn1 at h;split at h
  · rename_i xs x1;simp only[y6,y8,yl]at h;obtain⟨φ,e1,rfl,rfl⟩:=h;obtain rfl:=zok e1;have hlen:xs.length≤1000000000:=hob _ (by simp);have hφ:φ=z12 (z2i φ) (z1v φ):=hob _ (by simp);have ho:∀x∈xs,∀y∈xs,z2i φ x y:=hob _ (by simp);have hP:Pre (leP (z1v φ)):=hob _ (by simp);generalize z2i φ=o at hφ ho;generalize z1v φ=p at hφ hP ⊢;refine⟨fun w g k ver live vs hO hown hvs hld hnl=>?_,zk Tryz.func145 (by kernel_rfl) (by kernel_rfl)⟩
    match vs,hvs with
    |[v1],⟨hv,_⟩=>
      obtain⟨f,caps,rfl,hbody,hg⟩:=hv;have hsl:(z26 (leP p) xs).length=xs.length:=z71 hP xs;by_cases hne:xs=[]
      · subst hne;refine(z2lc (g.tk k).1 (g.tk k).2 f caps w).mono ?_;rintro e w' ⟨rfl,rfl⟩;exact⟨rfl,hsl,⟨rfl,rfl,rfl,y7 _,fun _ _ _=>rfl,fun _ _ _ _=>rfl,fun _ _ _ _=>rfl,hld,fun b hl=>hld.lt b hl,hnl⟩,hO⟩
      · obtain⟨b,off,htk,hcap,hA⟩:=hO.open1 hne;have hpos:0<xs.length:=y2m.2 hne;have hb:b<w.heap.size:=z6f (hA.cell 0 0 hpos (show(0:Nat)<1 from Nat.one_pos)).1;have h0:(g.tk k).1=some ⟨b,off,none⟩:=by rw[htk]
        rw[h0];have hcl:∀i,i<xs.length→w.cell? ⟨b,off+i,none⟩=some ((w.cell? ⟨b,off+i,none⟩).getD undef)∧w.frozen? ⟨b,off+i,none⟩=false∧VRel En g.St w ((w.cell? ⟨b,off+i,none⟩).getD undef) (.dat (U:=Un) Ty.val (xs.getD i [])):=fun i hi=>by
          have hc:=hA.cell i 0 hi (show(0:Nat)<1 from Nat.one_pos);have hr:=hA.rel i hi 0 (.dat (U:=Un) Ty.val xs[i]) rfl;have e:off+i*Un.sz Ty.row+0=off+i:=by show off+i*1+0=off+i;omega
          rw[e]at hc hr;have hm:=hc.2.2 (yb _);refine⟨hc.1,?_,?_⟩
          · exact znh hm.2
          · rw[ye,y9 hi];exact hr
        haveI:Inhabited (Fin xs.length):=⟨⟨0,hpos⟩⟩
        let enc:Fin xs.length→Value:=fun i=>(w.cell? ⟨b,off+i.1,none⟩).getD undef;let cf:Fin xs.length→Fin xs.length→Int:=fun i j=>p (xs.getD i.1 []) (xs.getD j.1 []);let d:Array (Fin xs.length):=(List.finRange xs.length).toArray;have hds:d.size=xs.length:=by simp[d]
        have hdj:∀j(hj:j<xs.length),d[j]! =⟨j,hj⟩:=fun j hj=>by
          rw[getElem!_pos d j (by omega)];simp[d]
        have hH:Holds enc w b off d:=fun j hj=>by
          rw[hds]at hj;rw[hdj j hj];exact⟨(hcl j hj).1,(hcl j hj).2.1⟩
        have h1c:OneCell enc:=fun x=>by obtain⟨a,n,c,e⟩:=z2ld (hcl x.1 x.2).2.2;show(enc x).oneCell'=true;rw[show enc x=.slice a n c from e];rfl
        have R:Row1 enc w b off d:=⟨h1c,hH,hb⟩;have S0:SX enc w b off d w:=by unfold SX;rw[putRow_self enc w b off d hH];exact Below.refl _ _
        have hbnd:∀b o,g.St b o→b<w.heap.size:=fun b o h=>hown b o _ h;have hcmp:CmpX Tryz.prog f caps enc cf b off d.size w:=fun W dk hsz hW x y=>by
          have hpr:=z29l hb hH hsz hW;have hdl:(dk.toList.map enc).length=xs.length:=by rw[yz,y1l,hsz,hds]
          have hk:Keeps g.St w g.St W:=fun b' o hs=>⟨hs,hpr.other _ (hbnd b' o hs) (by
            by_cases e1:b'=b
            · subst e1;by_cases e2:o<off
              · exact .inl e2
              · by_cases e3:off+xs.length≤o
                · right;left;rw[hdl];exact e3
                · exfalso;have hc:=(hA.cell (o- off) 0 (show o- off<xs.length by omega) (show(0:Nat)<1 from Nat.one_pos)).2.2 (yb _);have e:off+(o- off)*Un.sz Ty.row+0=o:=by show off+(o- off)*1+0=o;omega
                  rw[e]at hc;have h9:g.ω b' o=some .st:=hs;rw[h9]at hc;simp at hc
            · exact .inr (.inr e1))⟩
          have hldW:Laid W:=hld.on hW.le fun k hl=>hpr.block k (hld.lt k hl) fun e=>hnl k (off+0) hl (by
            have hc:=(hA.cell 0 0 hpos (show(0:Nat)<1 from Nat.one_pos)).2.2 (yb _)
            rw[e];simpa using hc.1)
          have hvx:=(hcl x.1 x.2).2.2.mono hk;have hvy:=(hcl y.1 y.2).2.2.mono hk;have hm:∀i:Fin xs.length,xs.getD i.1 []∈xs:=fun i=>by rw[ye,y9 i.2];exact y1z _
          refine(hg g.St W hk (fun b' o hs=>yp (hbnd b' o hs) hW.le) hldW [.v (.dat (U:=Un) Ty.val (xs.getD x.1 [])),.v (.dat (U:=Un) Ty.val (xs.getD y.1 []))] [o (xs.getD x.1 []) (xs.getD y.1 [])] [.v (.s (.int .i64 (cf x y)))]
            (by rw[hφ];unfold z12;simp only[z1kx,ym];rfl) (fun q hq=>by rw[yh.1 hq];exact ho _ (hm x) _ (hm y)) [enc x,enc y] ⟨hvx,hvy,trivial⟩).mono ?_
          rintro e w' ⟨v,rfl,⟨hx,St',-,-,hr⟩,-⟩;exact⟨by rw[show v=.int .i64 (cf x y)from(z2gj hr).1],z2gk hx⟩
        have eg:∀args W,(callFunc f args).run Tryz.prog W=.ok (.enter f args) W:=fun args W=>by
          obtain⟨fn,c,q1,q2,q3⟩:=hbody;have hn:fn.name≠ "runtime.NumGoroutine" :=by simpa using q3
          simp[callFunc,q1,q2,hn]
        have hle:∀x y:Fin xs.length,leP p (xs.getD x.1 []) (xs.getD y.1 [])=!ltOf cf y x:=fun x y=>rfl;have hPF:Pre fun x y:Fin xs.length=>leP p (xs.getD x.1 []) (xs.getD y.1 []):=⟨fun a b c=>hP.trans _ _ _,fun a b=>hP.total _ _⟩;have hst:=z2j6 hle hPF d;have hmap:=z2gl (fun i:Fin xs.length=>xs.getD i.1 []) (leP p) (List.finRange xs.length);have hfm:((List.finRange xs.length).map fun i=>xs.getD i.1 [])=xs:=by
          have:=z2mr xs
          conv=>rhs;rw[←this]
          apply y3y;intro i _;rw[ye,y9 i.2];rfl
        rw[hfm]at hmap;have hss:(stF (ltOf cf) d d.size).size=d.size:=by rw[←y1l,hst,z71 hPF,y1l]
        have hw:=(z2no enc cf f caps b off (g.tk k).2 d d w w eg hcmp R rfl S0 (by omega)).mono (fun e w' hq=>show e=.returned (.tuple #[])∧PutR w w' b off ((z26 (fun x y:Fin xs.length=>leP p (xs.getD x.1 []) (xs.getD y.1 [])) d.toList).map enc) by
          have hp:=z29l hb hH hss hq.2;rw[hst]at hp
          exact⟨hq.1,hp⟩)
        rw[hds]at hw;refine hw.mono ?_;rintro e w' ⟨rfl,hp⟩;have hul:((z26 (fun x y:Fin xs.length=>leP p (xs.getD x.1 []) (xs.getD y.1 [])) d.toList).map enc).length=xs.length:=by rw[yz,z71 hPF,y1l,hds]
        obtain⟨r1,_⟩:=ObRel.put (w':=w') (ys:=z26 (leP p) xs) (τ:=.row) rfl htk hb hown hA hp hul (by rw[hul,hsl];exact y7 _) hcap (by omega) (fun i hi dd hd=>by
          have hd':some (V.dat (U:=Un) Ty.val (z26 (leP p) xs)[i])=some dd:=hd;cases hd';have hi2:i<(z26 (fun x y:Fin xs.length=>leP p (xs.getD x.1 []) (xs.getD y.1 [])) d.toList).length:=by rw[yz]at hul;omega
          refine⟨enc (z26 (fun x y:Fin xs.length=>leP p (xs.getD x.1 []) (xs.getD y.1 [])) d.toList)[i],by rw[y13,y9 hi2];rfl,?_⟩;have h3:(z26 (leP p) xs)[i]?=some (xs.getD ((z26 (fun x y:Fin xs.length=>leP p (xs.getD x.1 []) (xs.getD y.1 [])) d.toList)[i]).1 []):=by
            rw[←hmap,y13];have:(List.finRange xs.length)=d.toList:=rfl;rw[this,y9 hi2];rfl
          rw[y9 hi]at h3;rw[yj h3]
          exact(hcl _ (Fin.isLt _)).2.2)
        refine⟨rfl,hsl,?_,r1⟩;refine FExt.put (fr:=⟨w,fun b i=>g.ω b i=some (.obj k),g.St,0,g.β⟩) hp (fun i hi=>?_) (by rw[hul];exact hpos) hld hnl;rw[hul]at hi;have hc:=(hA.cell i 0 hi (show(0:Nat)<1 from Nat.one_pos)).2.2 (yb _);have e:off+i*Un.sz Ty.row+0=off+i:=by show off+i*1+0=off+i;omega
        rw[e]at hc;exact hc.1
  · simp at h
end
end B
namespace B
open Go Go.RowKit
set_option linter.unusedVariables false
theorem z1x2:∀a b:List Val,ordR b a=- ordR a b
 |[],[]=>rfl
 |[],_::_=>rfl
 |_::_,[]=>rfl
 |a::l,b::r=>by
  simp only[ordR];have h:=zkn a b;by_cases e:ordV a b=0
  ·rw[if_pos e,if_pos (by omega)];exact z1x2 l r
  ·rw[if_neg e,if_neg (by omega)];exact h
theorem z1pn:∀{a b c:List Val},ordR a b<0→ordR b c<0→ordR a c<0
 |[],[],_,h,_=>by simp[ordR]at h
 |[],_::_,[],_,h=>by simp[ordR]at h
 |[],_::_,_::_,_,_=>by simp[ordR]
 |_::_,[],_,h,_=>by simp[ordR]at h
 |_::_,_::_,[],_,h=>by simp[ordR]at h
 |a::l,b::r,c::t,h1,h2=>by
  simp only[ordR]at h1 h2 ⊢;by_cases e1:ordV a b=0
  ·rw[if_pos e1]at h1;rw[ordV_zero]at e1;subst e1;by_cases e2:ordV a c=0
   ·rw[if_pos e2]at h2 ⊢;exact z1pn h1 h2
   ·rw[if_neg e2]at h2 ⊢;exact h2
  ·rw[if_neg e1]at h1;by_cases e2:ordV b c=0
   ·rw[ordV_zero]at e2;subst e2;rw[if_neg e1];exact h1
   ·rw[if_neg e2]at h2;have:=zmv h1 h2;rw[if_neg (by omega)];exact this
end B
namespace B
open Go Go.RowKit
set_option linter.unusedVariables false
theorem z1jd(x y:Int): -1≤cmpI x y∧cmpI x y≤1:=by unfold cmpI;split<;>(try split)<;>omega
theorem z24l:∀(a b:List UInt8),-1≤cmpL a b∧cmpL a b≤1
 |[],[]=>by simp[cmpL]
 |[],_::_=>by simp[cmpL]
 |_::_,[]=>by simp[cmpL]
 |a::l,b::r=>by
  rw[cmpL];split
  ·exact z24l l r
  ·exact z1jd _ _
theorem z2ja(a b:Val): -1≤ordV a b∧ordV a b≤1:=by
 unfold ordV;split
 ·split
  ·exact z24l _ _
  ·exact z1jd _ _
 ·exact z1jd _ _
theorem zxq(a b:List Val)(k:By):kc a b k=if k.down=true then- ordV (z16 a k.at_) (z16 b k.at_)else ordV (z16 a k.at_) (z16 b k.at_):=by
 have hb:=z2ja (z16 a k.at_) (z16 b k.at_);unfold kc zb4;rw[IntWalk.i64_in _ (by omega),Int.zero_sub]
theorem z2le(a b:List Val)(k:By):kc b a k=- kc a b k:=by
 rw[zxq,zxq,zkn (z16 a k.at_)];split<;>omega
theorem kc_zero{a b:List Val}{k:By}:kc a b k=0↔z16 a k.at_=z16 b k.at_:=by
 rw[zxq,←ordV_zero];split<;>omega
theorem z2jb{a b c:List Val}{k:By}(h1:kc a b k<0)(h2:kc b c k<0):kc a c k<0:=by
 rw[zxq]at h1 h2 ⊢;split at h1
 ·rename_i hd;rw[if_pos hd]at h2 ⊢;have e1:=zkn (z16 a k.at_) (z16 b k.at_);have e2:=zkn (z16 b k.at_) (z16 c k.at_);have e3:=zkn (z16 a k.at_) (z16 c k.at_);have:=zmv (show ordV (z16 c k.at_) (z16 b k.at_)<0 by omega) (show ordV (z16 b k.at_) (z16 a k.at_)<0 by omega);omega
 ·rename_i hd;rw[if_neg hd]at h2 ⊢;exact zmv h1 h2
theorem z2lf{a b c:List Val}{k:By}(h:kc a b k=0):kc a c k=kc b c k:=by
 rw[zxq,zxq,kc_zero.1 h]
theorem z2jc{a b c:List Val}{k:By}(h:kc b c k=0):kc a c k=kc a b k:=by
 rw[zxq,zxq,kc_zero.1 h]
theorem z24m(a b:List Val):ord1 a b []=ordR a b:=rfl
theorem zxr(a b:List Val)(k:By)(r:List By):ord1 a b (k::r)=if kc a b k=0 then ord1 a b r else kc a b k:=by
 show(if(kc a b k !=0)=true then kc a b k else ord1 a b r)=_;by_cases h:kc a b k=0
 ·rw[if_neg (by simp[h]),if_pos h]
 ·rw[if_pos (by simpa using h),if_neg h]
theorem z1ao(a b:List Val):∀keys:List By,ord1 b a keys=- ord1 a b keys
 |[]=>by rw[z24m,z24m];exact z1x2 a b
 |k::r=>by
  rw[zxr,zxr,z2le a b,z1ao a b r];by_cases h:kc a b k=0
  ·rw[if_pos h,if_pos (by omega)]
  ·rw[if_neg h,if_neg (by omega)]
theorem z1x3{a b:List Val}:∀{keys:List By},ord1 a b keys=0→a=b
 |[],h=>ordR_zero.1 h
 |k::r,h=>by
  rw[zxr]at h;by_cases e:kc a b k=0
  ·rw[if_pos e]at h;exact z1x3 h
  ·rw[if_neg e]at h;exact absurd h e
theorem z1po{a b c:List Val}:∀{keys:List By},ord1 a b keys<0→ord1 b c keys<0→ord1 a c keys<0
 |[],h1,h2=>z1pn h1 h2
 |k::r,h1,h2=>by
  rw[zxr]at h1 h2 ⊢;by_cases e1:kc a b k=0
  ·rw[if_pos e1]at h1;rw[z2lf e1];by_cases e2:kc b c k=0
   ·rw[if_pos e2]at h2 ⊢;exact z1po h1 h2
   ·rw[if_neg e2]at h2 ⊢;exact h2
  ·rw[if_neg e1]at h1;by_cases e2:kc b c k=0
   ·rw[z2jc e2,if_neg e1];exact h1
   ·rw[if_neg e2]at h2;have:=z2jb h1 h2;rw[if_neg (by omega)];exact this
theorem z1je(keys:List By):Pre (leP fun a b=>ord1 a b keys) where
 trans:=fun a b c h1 h2=>by
  have g1:¬ord1 b a keys<0:=by simpa[leP]using h1
  have g2:¬ord1 c b keys<0:=by simpa[leP]using h2
  have g3:¬ord1 c a keys<0:=by
   intro h;have e1:=z1ao b a keys;by_cases e:ord1 b a keys=0
   ·have:=z1x3 e;subst this;exact g2 h
   ·exact g2 (z1po h (show ord1 a b keys<0 by omega))
  simpa[leP]using g3
 total:=fun a b=>by
  have:=z1ao a b keys;by_cases h:ord1 b a keys<0
  ·right;have g:¬ord1 a b keys<0:=by omega
   simpa[leP]using g
  ·left;simpa[leP]using h
end B
namespace B
open Go Go.RowKit
set_option maxRecDepth 100000
noncomputable section
attribute [local irreducible] awp ctxK zu z1a retQ z1m awf ctxF z1k
def zn2:Mc Un:=mcF_ [] [] [(146,z1pi)] [] [(145,zn1)]
def zxs(r:List (List Val)):List (A Un):=[.c (.ob 0 0)]
def zxt(r:List (List Val)):List (Bool×List (C Un)):=[]
def zxu(r:List (List Val)):List (Ob Un):=[⟨0,Ty.row,r,some 0,true⟩]
def zxv(r:List (List Val)):RGF Un:=(zxs r,zxt r,zxu r)
def zvy(l:List (List Val))(keys:List By):Option (RGF Un):=awf zn2 z266 (ze Tryz.f93) (z1k0 Tryz.f93.ntmps 0 [.c (.ob 0 0),.c (.sl (U:=Un) Ty.by_ keys false)] [] [⟨0,Ty.row,l,(some 0),true⟩]) (z200 zn2 0 Tryz.f93.results.toList [.m])
theorem z1jf(l:List (List Val))(keys:List By):zvy l keys=obO (l.length≤(1000000000:Nat)) (obO ((z12 (fun a b=>True) fun a b=>ord1 a b keys)=z12 (z2i (z12 (fun a b=>True) fun a b=>ord1 a b keys)) (z1v (z12 (fun a b=>True) fun a b=>ord1 a b keys))) (obO (∀(x:Un.Den Ty.row),x∈l→∀(y:Un.Den Ty.row),y∈l→z2i (z12 (fun a b=>True) fun a b=>ord1 a b keys) x y) (obO (Pre (leP (z1v (z12 (fun a b=>True) fun a b=>ord1 a b keys)))) (some (zxv (z26 (leP (z1v (z12 (fun a b=>True) fun a b=>ord1 a b keys))) l)))))):=by kernel_rfl
def z53(l:List (List Val))(keys:List By):List (List Val):=z26 (leP fun a b=>ord1 a b keys) l
theorem z1ap(l:List (List Val))(keys:List By)(_hl:WL .row l)(_hk:WL .by_ keys)(h:l.length≤100000000):zvy l keys=some (zxv (z53 l keys)):=by
 rw[z1jf];simp only[zrh,zrg];rw[z6 (by omega),z6 trivial,z6 (fun _ _ _ _=>trivial),z6 (z1je keys)];rfl
def zn3:List Bool×FnG Un:=([true,false],fun args bxs os=>match args,bxs,os with
 |[.c (.ob 0 0),x1],[],[o0]=>(oM .row o0).bind fun l=>(aL .by_ x1).bind fun keys=>some ([l.length≤100000000],zxs (z53 l keys),zxt (z53 l keys),zxu (z53 l keys))
 |_,_,_=>none)
theorem z1d6:GnOK 93 zn3:=by
 intro args bxs os ob rs bxs' os' h hob;unfold zn3 at h;dsimp only at h;split at h
 ·rename_i x1 o0;simp only[y6,y8,yl]at h;obtain⟨l,e0,keys,e1,rfl,rfl,rfl,rfl⟩:=h;have q0:=z1zx e0;obtain rfl:=z2k3 e1;refine⟨GContract.weak ?_,zk Tryz.func93 (by kernel_rfl) (by kernel_rfl)⟩;rw[q0];refine z262 (M:=zn2) rfl (nb:=0) rfl (z4p (l1:=[]) (l2:=[]) (l3:=[(146,z1pi)]) (l4:=[]) (l5:=[(145,zn1)]) trivial trivial ⟨z2iy,trivial⟩ trivial ⟨z1tu,trivial⟩) Tryz.func93 (by kernel_rfl) z266 0 [.m] (fun ha hb ho=>?_);have hsp:=z1ap l keys (z2nb (τ:=.row) (l:=l) (fr:=some 0) ho (by simp)) (z2md ha (a:=.c (.sl (U:=Un) Ty.by_ keys false)) (by simp)) (hob _ (yd (i:=0) rfl));exact z264 (r:=(_,_,_)) hsp
 ·simp at h
end
end B
namespace B
open Go Go.RowKit
set_option maxRecDepth 100000
noncomputable section
attribute [local irreducible] awp ctxK zu z1a retQ z1m awf ctxF z1k
def capQ{α:Type}(l:List α):Option (List α):=if l.length≤100000000 then some l else none
open Classical in
def chkQ{α:Type}(p:Prop)(o:Option α):Option α:=if p then o else none
theorem chkQ_some{α:Type}{p:Prop}{o:Option α}{x:α}:chkQ p o=some x↔p∧o=some x:=by
 simp[chkQ]
theorem zk5{α:Type}{p:Prop}{o:Option α}(h:p):chkQ p o=o:=by unfold chkQ;grind
def mapQ{α β:Type}(f:α→Option β):List α→Option (List β)
 |[]=>some []
 |x::l=>(f x).bind fun y=>(mapQ f l).bind fun s=>some (y::s)
def zdm{α:Type}(f:α→Option Bool):List α→Option (List α)
 |[]=>some []
 |x::l=>(f x).bind fun b=>(zdm f l).bind fun s=>some (if b=true then x::s else s)
def zxx(left:Bool)(none_:List Val)(f:List Val→Option Bool)(right:List (List Val)):List (List Val)→Option (List (List Val))
 |[]=>some []
 |a::l=>(zdm f (right.map (a++·))).bind fun u=>(if u.length=0∧left=true then(if(a++none_).length≤100000000 then some [a++none_]else none)else some u).bind fun u=>(zxx left none_ f right l).bind fun s=>some (u++s)
def z85(out:List Bunch)(key x:List Val):List Bunch:=match out.findIdx? (fun b=>z7f b.key key==0)with
 |some i=>out.set i ⟨(out.getD i zn).key,(out.getD i zn).rows++[x]⟩
 |none=>out++[⟨key,[x]⟩]
def bunQ(f:List Val→Option (List Val)):List (List Val)→List Bunch→Option (List Bunch)
 |[],out=>some out
 |x::l,out=>(f x).bind fun key=>bunQ f l (z85 out key x)
def setL(inter:Bool):List (List Val)→List (List Val)→List (List Val)
 |[],_=>[]
 |x::l,left=>(if decide (0≤zi left x)=inter then[x]else[])++setL inter l (if 0≤zi left x then left.eraseIdx (zi left x).toNat else left)
def setE(op:Int)(all:Bool)(a b:List (List Val)):List (List Val):=
 if op=9 then(if all=true then a else z13 a)else setL (decide (op=10)) (if all=true then a else z13 a) b
def z3i(l:List (List Val))(limit skip:Int):List (List Val):=
 if 0≤limit∧limit<((l.drop (min skip l.length).toNat).length:Int)then(l.drop (min skip l.length).toNat).take limit.toNat else l.drop (min skip l.length).toNat
abbrev Rows:Type:=List (List Val)
def filO(kid:Wld→Option Rows)(so:Wld→Option Bool)(w:Wld):Option Rows:=
 if w.env.length≤100000000 then(kid w).bind fun l=>zdm (fun x=>so (zj w x)) l else none
def z1cb(kid:Wld→Option Rows)(ts:Wld→Option (List Val))(n:Nat)(w:Wld):Option Rows:=
 if w.env.length≤100000000∧n≤100000000 then(kid w).bind fun l=>mapQ (fun x=>ts (zj w x)) l else none
def z1cc(kid0 kid1:Wld→Option Rows)(so:Wld→Option Bool)(n cols:Nat)(left:Bool)(w:Wld):Option Rows:=
 if n<2 then some []else if w.env.length≤100000000∧cols≤100000000 then(kid1 w).bind fun right=>(kid0 w).bind fun l=>(zxx left (List.replicate cols z7) (fun x=>if x.length≤100000000 then so (zj w x)else none) right l).bind capQ else none
def bunO(ts:Wld→Option (List Val))(n:Nat)(w:Wld)(l:Rows):Option (List Bunch):=
 if w.env.length≤100000000∧n≤100000000∧l.length≤100000000 then bunQ (fun x=>ts (zj w x)) l (if n=0 then[⟨[],[]⟩]else[])else none
def grpO(kid:Wld→Option Rows)(ts:Wld→Option (List Val))(as_:Wld→Rows→Option (List Val))(n k:Nat)(w:Wld):Option Rows:=
 if k≤100000000 then(kid w).bind fun l=>(bunO ts n w l).bind fun bs=>(mapQ (fun b=>(as_ w b.rows).bind fun vs=>some (b.key++vs)) bs)else none
def setO(kid0 kid1:Wld→Option Rows)(op:Int)(all:Bool)(w:Wld):Option Rows:=
 (kid0 w).bind fun a=>(kid1 w).bind fun b=>(if op=9 then capQ (a++b)else some a).bind fun a=>some (setE op all a b)
mutual
def nT:Term→Wld→Option Val
 | .mk op v depth at_ name kids sub type,w=>
  if op=1∨op=2 then chkQ ((Term.mk op v depth at_ name kids sub type).sz≤2000000∧strT (.mk op v depth at_ name kids sub type)∧z6q w.env) (some (z52 (.mk op v depth at_ name kids sub type) w.env))
  else if op=26 then(nSub sub w).bind fun l=>some (if l.length=1∧0<(l.getD 0 []).length then(l.getD 0 []).getD 0 z7 else z7)
  else if op=27 then(nSub sub w).bind fun l=>some (z2v (decide (0<l.length)))
  else if op=28 then(if kids.length=0 then some z7 else(nHd kids w).bind fun v=>(nSub sub w).bind fun l=>some (zii v l))
  else if kids.length≤2000000 then(nTs kids w).bind fun l=>chkQ (txts l) (some (z1x op name l))
  else none
def nHd:List Term→Wld→Option Val
 |[],_=>some z7
 |t::_,w=>nT t w
def nTs:List Term→Wld→Option (List Val)
 |[],_=>some []
 |t::l,w=>(nT t w).bind fun v=>(nTs l w).bind fun s=>some (v::s)
def nSo:List Term→Wld→Option Bool
 |[],_=>some true
 |t::l,w=>(nT t w).bind fun v=>if z3z v=2 then nSo l w else some false
def nSub:List Rel→Wld→Option Rows
 |[],_=>some []
 |r::_,w=>nR r w
def nKid:List Rel→Nat→Wld→Option Rows
 |[],_,_=>some []
 |r::_,0,w=>nR r w
 |_::l,n+1,w=>nKid l n w
def nA:Agg→Wld→Rows→Option Val
 | .mk name distinct t,w,rows=>if w.env.length≤100000000 then(mapQ (fun x=>nHd t (zj w x)) rows).bind fun l=>(if l.length≤400000 then some (zer (.mk name distinct t) l)else none)else none
def nAs:List Agg→Wld→Rows→Option (List Val)
 |[],_,_=>some []
 |a::l,w,rows=>(nA a w rows).bind fun v=>(nAs l w rows).bind fun s=>some (v::s)
def nR:Rel→Wld→Option Rows
  | .mk op table cols kids terms aggs keys limit skip all rows,w=>
    (if op=1 then chkQ (dbOK w.db) (some (z6e w table))
     else if op=2 then some rows
     else if op=3 then filO (fun w=>nKid kids 0 w) (fun w=>nSo terms w) w
     else if op=4 then z1cb (fun w=>nKid kids 0 w) (fun w=>nTs terms w) terms.length w
     else if op=5∨op=6 then z1cc (fun w=>nKid kids 0 w) (fun w=>nKid kids 1 w) (fun w=>nSo terms w) kids.length (kids.getD 1 za).cols.length (decide (op=6)) w
     else if op=7 then grpO (fun w=>nKid kids 0 w) (fun w=>nTs terms w) (fun w l=>nAs aggs w l) terms.length aggs.length w
     else if op=8 then(nKid kids 0 w).bind fun l=>some (z13 l)
     else if op=9∨op=10∨op=11 then setO (fun w=>nKid kids 0 w) (fun w=>nKid kids 1 w) op all w
     else if op=12 then(nKid kids 0 w).bind fun l=>some (z53 l keys)
     else if op=13 then(nKid kids 0 w).bind fun l=>some (z3i l limit skip)
     else some []).bind capQ
end
theorem z1pp(t:Term)(w:Wld):nT t w=if t.op=1∨t.op=2 then chkQ (t.sz≤2000000∧strT t∧z6q w.env) (some (z52 t w.env))
  else if t.op=26 then(nSub t.sub w).bind fun l=>some (if l.length=1∧0<(l.getD 0 []).length then(l.getD 0 []).getD 0 z7 else z7)
  else if t.op=27 then(nSub t.sub w).bind fun l=>some (z2v (decide (0<l.length)))
  else if t.op=28 then(if t.kids.length=0 then some z7 else(nHd t.kids w).bind fun v=>(nSub t.sub w).bind fun l=>some (zii v l))
  else if t.kids.length≤2000000 then(nTs t.kids w).bind fun l=>chkQ (txts l) (some (z1x t.op t.name l))
  else none:=by cases t;rfl
theorem z1cd(r:Rel)(w:Wld):nR r w=(if r.op=1 then chkQ (dbOK w.db) (some (z6e w r.table))
     else if r.op=2 then some r.rows
     else if r.op=3 then filO (fun w=>nKid r.kids 0 w) (fun w=>nSo r.terms w) w
     else if r.op=4 then z1cb (fun w=>nKid r.kids 0 w) (fun w=>nTs r.terms w) r.terms.length w
     else if r.op=5∨r.op=6 then z1cc (fun w=>nKid r.kids 0 w) (fun w=>nKid r.kids 1 w) (fun w=>nSo r.terms w) r.kids.length (r.kids.getD 1 za).cols.length (decide (r.op=6)) w
     else if r.op=7 then grpO (fun w=>nKid r.kids 0 w) (fun w=>nTs r.terms w) (fun w l=>nAs r.aggs w l) r.terms.length r.aggs.length w
     else if r.op=8 then(nKid r.kids 0 w).bind fun l=>some (z13 l)
     else if r.op=9∨r.op=10∨r.op=11 then setO (fun w=>nKid r.kids 0 w) (fun w=>nKid r.kids 1 w) r.op r.all w
     else if r.op=12 then(nKid r.kids 0 w).bind fun l=>some (z53 l r.keys)
     else if r.op=13 then(nKid r.kids 0 w).bind fun l=>some (z3i l r.limit r.skip)
     else some []).bind capQ:=by cases r;rfl
theorem z29m(l:List Rel)(w:Wld):nSub l w=if l.length=0 then some []else nR (l.getD 0 za) w:=by
 cases l with
 |nil=>rfl
 |cons r l=>rfl
theorem z1aq(l:List Term)(w:Wld):nHd l w=if l.length=0 then some z7 else nT (l.getD 0 zb) w:=by
 cases l with
 |nil=>rfl
 |cons r l=>rfl
theorem z1ce(w:Wld):∀(l:List Rel)(n:Nat),nKid l n w=if n<l.length then nR (l.getD n za) w else some []
 |[],n=>by rfl
 |r::l,0=>by rfl
 |_::l,n+1=>by rw[nKid,z1ce w l n];simp
theorem z1ar(w:Wld):∀l:List Term,nTs l w=mapQ (fun t=>nT t w) l
 |[]=>by rfl
 |t::l=>by simp only[nTs,mapQ,z1ar w l]
theorem z24n(w:Wld)(rows:Rows):∀l:List Agg,nAs l w rows=mapQ (fun a=>nA a w rows) l
 |[]=>by rfl
 |t::l=>by simp only[nAs,mapQ,z24n w rows l]
theorem z2k8(a:Agg)(w:Wld)(rows:Rows):nA a w rows=if w.env.length≤100000000 then(mapQ (fun x=>nHd a.t (zj w x)) rows).bind fun l=>(if l.length≤400000 then some (zer a l)else none)else none:=by cases a;rfl
def okT(w:Wld)(t:Term):Prop:=∃v,nT t w=some v
def okTs(w:Wld)(l:List Term):Prop:=l.length≤100000000∧∃v,nTs l w=some v
def z1pq(w:Wld)(t:Term):Prop:=∃v,nSub t.sub w=some v
def okSo(w:Wld)(l:List Term)(x:List Val):Prop:=w.env.length≤100000000∧∃v,nSo l (zj w x)=some v
def zf3(w:Wld)(r:Rel)(n:Int):Prop:=0≤n∧∃v,nKid r.kids n.toNat w=some v
def okRl(w:Wld)(r:Rel):Prop:=∃v,nR r w=some v
def z1cf(w:Wld)(r:Rel):Option Rows:=filO (fun w=>nKid r.kids 0 w) (fun w=>nSo r.terms w) w
def z13z(w:Wld)(r:Rel):Option Rows:=z1cb (fun w=>nKid r.kids 0 w) (fun w=>nTs r.terms w) r.terms.length w
def z206(w:Wld)(r:Rel):Option Rows:=z1cc (fun w=>nKid r.kids 0 w) (fun w=>nKid r.kids 1 w) (fun w=>nSo r.terms w) r.kids.length (r.kids.getD 1 za).cols.length (decide (r.op=6)) w
def z1pr(w:Wld)(r:Rel):Option Rows:=grpO (fun w=>nKid r.kids 0 w) (fun w=>nTs r.terms w) (fun w l=>nAs r.aggs w l) r.terms.length r.aggs.length w
def nSet(w:Wld)(r:Rel):Option Rows:=setO (fun w=>nKid r.kids 0 w) (fun w=>nKid r.kids 1 w) r.op r.all w
def nBun(w:Wld)(rows:Rows)(terms:List Term):Option (List Bunch):=bunO (fun w=>nTs terms w) terms.length w rows
def z1jg(w:Wld)(r:Rel):Prop:=∃v,z1cf w r=some v
def z1as(w:Wld)(r:Rel):Prop:=∃v,z13z w r=some v
def z1ps(w:Wld)(r:Rel):Prop:=∃v,z206 w r=some v
def z1tv(w:Wld)(r:Rel):Prop:=∃v,z1pr w r=some v
def z1pt(w:Wld)(r:Rel):Prop:=∃v,nSet w r=some v
def z2ct(w:Wld)(rows:Rows)(terms:List Term):Prop:=∃v,nBun w rows terms=some v
def z6s(w:Wld)(t:Term):Val:=(nT t w).getD z7
def z54(w:Wld)(l:List Term):List Val:=(nTs l w).getD []
def z5s(w:Wld)(t:Term):Rows:=(nSub t.sub w).getD []
def zdn(w:Wld)(l:List Term)(x:List Val):Bool:=(nSo l (zj w x)).getD false
def zp(w:Wld)(r:Rel)(n:Int):Rows:=(nKid r.kids n.toNat w).getD []
def z9e(w:Wld)(r:Rel):Rows:=(nR r w).getD []
def za8(w:Wld)(r:Rel):Rows:=(z1cf w r).getD []
def z8m(w:Wld)(r:Rel):Rows:=(z13z w r).getD []
def zbf(w:Wld)(r:Rel):Rows:=(z206 w r).getD []
def zbx(w:Wld)(r:Rel):Rows:=(z1pr w r).getD []
def zbg(w:Wld)(r:Rel):Rows:=(nSet w r).getD []
def z19(w:Wld)(rows:Rows)(terms:List Term):List Bunch:=(nBun w rows terms).getD []
theorem zxy{α:Type}{l s:List α}(h:capQ l=some s):l=s∧s.length≤100000000:=by
 unfold capQ at h;grind
theorem z1pu{r:Rel}{w:Wld}{l:Rows}(h:nR r w=some l):l.length≤100000000:=by
 grind[z1cd,Option.bind_eq_some_iff,zxy]
theorem zby{l:List Rel}{n:Nat}{w:Wld}{s:Rows}(h:nKid l n w=some s):s.length≤100000000:=by
 rw[z1ce]at h;split at h
 ·exact z1pu h
 grind
theorem zr7{α β:Type}{f:α→Option β}{x:α}{l:List α}{s:List β}(h:mapQ f (x::l)=some s):∃y r,f x=some y∧mapQ f l=some r∧s=y::r:=by
 grind[mapQ,Option.bind_eq_some_iff,Option.some.injEq]
theorem zo8{α β:Type}{f:α→Option β}:∀{l:List α}{s:List β},mapQ f l=some s→s.length=l.length
 |[],s,h=>by simp_all[mapQ,y8]
 |x::l,s,h=>by
  obtain⟨y,r,_,h2,rfl⟩:=zr7 h;rw[yr,yr,zo8 h2]
theorem zvz{α β:Type}{f:α→Option β}:∀{l:List α}{s:List β},mapQ f l=some s→∀x∈l,∃y,f x=some y
 |x::l,s,h,z,hz=>by
  obtain⟨y,r,h1,h2,rfl⟩:=zr7 h;rcases yf.1 hz with rfl|hz
  ·grind
  ·exact zvz h2 z hz
theorem zw0{α β:Type}{f:α→Option β}(g:α→β):∀{l:List α}{s:List β},mapQ f l=some s→(∀x∈l,∀y,f x=some y→g x=y)→l.map g=s
 |[],s,h,_=>by simp_all[mapQ,y8]
 |x::l,s,h,hg=>by
  obtain⟨y,r,h1,h2,rfl⟩:=zr7 h;rw[yw,hg x y10 y h1,zw0 g h2 fun z hz=>hg z (y12 _ hz)]
theorem z140{α:Type}{f:α→Option Bool}{x:α}{l s:List α}(h:zdm f (x::l)=some s):∃b r,f x=some b∧zdm f l=some r∧s=if b=true then x::r else r:=by
 grind[zdm,Option.bind_eq_some_iff,Option.some.injEq]
theorem z1x4{α:Type}{f:α→Option Bool}:∀{l s:List α},zdm f l=some s→∀x∈l,∃b,f x=some b
 |x::l,s,h,z,hz=>by
  obtain⟨y,r,h1,h2,rfl⟩:=z140 h;rcases yf.1 hz with rfl|hz
  ·grind
  ·exact z1x4 h2 z hz
theorem z1pv{α:Type}{f:α→Option Bool}(g:α→Bool):∀{l s:List α}(o:List α),zdm f l=some s→(∀x∈l,∀b,f x=some b→g x=b)→l.foldl (fun o x=>if g x=true then o++[x]else o) o=o++s
 |[],s,o,h,_=>by simp_all[zdm,y8]
 |x::l,s,o,h,hg=>by
  obtain⟨b,r,h1,h2,rfl⟩:=z140 h;rw[yt,hg x y10 b h1,z1pv g _ h2 fun z hz=>hg z (y12 _ hz)];grind
theorem z1x5{f:List Val→Option (List Val)}{N:Nat}:∀{l:Rows}{out bs:List Bunch},(∀x∈l,∀key,f x=some key→key.length≤N)→(∀b∈out,b.key.length≤N)→bunQ f l out=some bs→(∀b∈bs,b.key.length≤N)∧bs.length≤out.length+l.length
 |[],out,bs,_,ho,h=>by
  simp_all[bunQ,y8]
 |x::l,out,bs,hf,ho,h=>by
  simp only[bunQ,y6]at h;obtain⟨key,h1,h2⟩:=h;have hb:(∀b∈z85 out key x,b.key.length≤N)∧(z85 out key x).length≤out.length+1:=by
   unfold z85;split
   ·rename_i i hi;have hil:=(y2d.1 hi).1;grind
   grind
  obtain⟨g1,g2⟩:=z1x5 (fun z hz=>hf z (y12 _ hz)) hb.1 h2;grind
theorem z2lg{l:List Term}{w:Wld}{s:List Val}(h:nTs l w=some s):s.length=l.length:=by grind[z1ar,zo8]
theorem z1at{terms:List Term}{w:Wld}{l:Rows}{bs:List Bunch}(h:bunO (fun w=>nTs terms w) terms.length w l=some bs):(w.env.length≤100000000∧terms.length≤100000000∧l.length≤100000000)∧(∀b∈bs,b.key.length≤terms.length)∧bs.length≤l.length+1:=by
 unfold bunO at h;split at h
 ·obtain⟨g1,g2⟩:=z1x5 (N:=terms.length) (fun x _ key hk=>by rw[z2lg hk];simp) (fun b hb=>by
   grind) h
  grind
 grind
theorem z1au{f:List Val→Option (List Val)}:∀{l:Rows}{out bs:List Bunch}{N:Nat},(∀b∈out,b.rows.length≤N)→bunQ f l out=some bs→∀b∈bs,b.rows.length≤N+l.length
 |[],out,bs,N,ho,h=>by
  simp_all[bunQ,y8]
 |x::l,out,bs,N,ho,h=>by
  simp only[bunQ,y6]at h;obtain⟨key,h1,h2⟩:=h;have hb:∀b∈z85 out key x,b.rows.length≤N+1:=by
   unfold z85;split
   ·rename_i i hi;have hil:=(y2d.1 hi).1;grind
   grind
  intro b hbm;have:=z1au hb h2 b hbm;grind
theorem z2gm{terms:List Term}{w:Wld}{l:Rows}{bs:List Bunch}(h:bunO (fun w=>nTs terms w) terms.length w l=some bs)(j:Nat)(hj:j<bs.length):(bs.getD j zn).rows.length≤100000000:=by
 unfold bunO at h;split at h
 ·have:=z1au (N:=0) (fun b hb=>by
   grind) h _ (z8i (d:=zn) hj)
  omega
 grind
end
end B
namespace B
open Go Go.RowKit
theorem zo9{α β:Type}{f:α→Option β}{P:β→Prop}:∀(l:List α),(∀x∈l,∃y,f x=some y∧P y)→∃s,mapQ f l=some s∧s.length=l.length∧∀y∈s,P y
 |[],_=>⟨[],rfl,rfl,fun y hy=>absurd hy (by simp)⟩
 |x::l,h=>by
  obtain⟨y,h1,h2⟩:=h x y10;obtain⟨s,h3,h4,h5⟩:=zo9 (P:=P) l fun z hz=>h z (y12 _ hz);refine⟨y::s,by simp only[mapQ,h1,h3,ym],by simp only[yr,h4],fun z hz=>?_⟩;rcases yf.1 hz with rfl|hz
  ·exact h2
  ·exact h5 z hz
theorem z1jh{α:Type}{f:α→Option Bool}:∀(l:List α),(∀x∈l,∃b,f x=some b)→∃s,zdm f l=some s∧s.length≤l.length∧∀y∈s,y∈l
 |[],_=>⟨[],rfl,y7 _,fun y hy=>hy⟩
 |x::l,h=>by
  obtain⟨b,h1⟩:=h x y10;obtain⟨s,h3,h4,h5⟩:=z1jh l fun z hz=>h z (y12 _ hz);refine⟨if b=true then x::s else s,by simp_all[zdm,ym],by grind,fun z hz=>?_⟩;grind
theorem z24o{left:Bool}{nn:List Val}{f:List Val→Option Bool}{right:Rows}:∀(l:Rows),(∀a∈l,(∀b∈right,∃c,f (a++b)=some c)∧(a++nn).length≤100000000)→
  ∃s,zxx left nn f right l=some s∧s.length≤l.length*max right.length 1∧∀x∈s,∃a∈l,∃b,(b∈right∨b=nn)∧x=a++b
 |[],_=>⟨[],rfl,by simp,fun x hx=>absurd hx (by simp)⟩
 |a::l,h=>by
  obtain⟨h1,h2⟩:=h a y10;obtain⟨u,g1,g2,g3⟩:=z1jh (f:=f) (right.map (a++·)) fun x hx=>by
   grind
  obtain⟨s,k1,k2,k3⟩:=z24o (left:=left) (nn:=nn) (f:=f) (right:=right) l fun z hz=>h z (y12 _ hz)
  have key:∀v:Rows,(if u.length=0∧left=true then(if(a++nn).length≤100000000 then some [a++nn]else none)else some u)=some v→v.length≤max right.length 1→(∀x∈v,∃b,(b∈right∨b=nn)∧x=a++b)→
    ∃s,zxx left nn f right (a::l)=some s∧s.length≤(a::l).length*max right.length 1∧∀x∈s,∃a'∈a::l,∃b,(b∈right∨b=nn)∧x=a'++b:=fun v hv hl hm=>by
   refine⟨v++s,by simp_all[zxx,ym],?_,fun x hx=>?_⟩
   ·rw[ya,yr,Nat.succ_mul];omega
   ·rcases yc.1 hx with hx|hx
    ·obtain⟨b,q1,q2⟩:=hm x hx;exact⟨a,y10,b,q1,q2⟩
    ·obtain⟨a',q0,q⟩:=k3 x hx;exact⟨a',y12 _ q0,q⟩
  grind
theorem z29n{f:List Val→Option (List Val)}{K:List Val→Prop}{M:Rows}:∀(l:Rows)(out:List Bunch),(∀x∈l,x∈M∧∃k,f x=some k∧K k)→(∀b∈out,K b.key∧∀x∈b.rows,x∈M)→
  ∃bs,bunQ f l out=some bs∧bs.length≤out.length+l.length∧∀b∈bs,K b.key∧∀x∈b.rows,x∈M
 |[],out,_,ho=>⟨out,rfl,by simp,ho⟩
 |x::l,out,h,ho=>by
  obtain⟨hx,k,h1,h2⟩:=h x y10;have hb:(z85 out k x).length≤out.length+1∧∀b∈z85 out k x,K b.key∧∀x∈b.rows,x∈M:=by
   unfold z85;split
   ·rename_i i hi;have hil:=(y2d.1 hi).1;grind
   grind
  obtain⟨bs,g1,g2,g3⟩:=z29n (f:=f) (K:=K) (M:=M) l (z85 out k x) (fun z hz=>h z (y12 _ hz)) hb.2;exact⟨bs,by simp only[bunQ,h1,ym,g1],by rw[yr];omega,g3⟩
theorem z24p{f:List Val→Option (List Val)}:∀(l:Rows)(b:Bunch),(∀x∈l,f x=some [])→b.key=[]→∃b',bunQ f l [b]=some [b']
 |[],b,_,_=>⟨b,rfl⟩
 |x::l,b,h,hb=>by
  have e:z85 [b] [] x=[⟨[],b.rows++[x]⟩]:=by
   unfold z85;have:[b].findIdx? (fun b=>z7f b.key []==0)=some 0:=by rw[y2s,if_pos (by rw[hb];rfl)]
   grind
  obtain⟨b',hb'⟩:=z24p l ⟨[],b.rows++[x]⟩ (fun z hz=>h z (y12 _ hz)) rfl;simp_all[bunQ,y10,ym]
theorem z24q:∀(l o:Rows),(l.foldl (fun o x=>if zi o x<0 then o++[x]else o) o).length≤o.length+l.length∧∀x∈l.foldl (fun o x=>if zi o x<0 then o++[x]else o) o,x∈o∨x∈l
 |[],o=>⟨by simp,fun x hx=>.inl hx⟩
 |y::l,o=>by
  obtain⟨h1,h2⟩:=z24q l (if zi o y<0 then o++[y]else o);grind
theorem zoa(l:Rows):(z13 l).length≤l.length∧∀x∈z13 l,x∈l:=by
 grind[z24q,z13]
theorem z1ji(inter:Bool):∀(a b:Rows),(setL inter a b).length≤a.length∧∀x∈setL inter a b,x∈a
 |[],b=>⟨y7 _,fun x hx=>hx⟩
 |y::l,b=>by
  simp only[setL];obtain⟨h1,h2⟩:=z1ji inter l (if 0≤zi b y then b.eraseIdx (zi b y).toNat else b);grind
theorem z24r(op:Int)(all:Bool)(a b:Rows):(setE op all a b).length≤a.length∧∀x∈setE op all a b,x∈a:=by
 have h:(if all=true then a else z13 a).length≤a.length∧∀x∈(if all=true then a else z13 a),x∈a:=by
  split
  all_goals simp_all[y7,zoa]
 grind[setE,z1ji,decide,z13,Nat.le_trans]
theorem z288(l:Rows)(limit skip:Int):(z3i l limit skip).length≤l.length∧∀x∈z3i l limit skip,x∈l:=by
 grind[z3i,List.length_take,List.length_drop,List.mem_of_mem_drop,List.mem_of_mem_take]
theorem z289(l:Rows)(keys:List By):(z53 l keys).length≤l.length∧∀x∈z53 l keys,x∈l:=
 ⟨Nat.le_of_eq (z71 (z1je keys) l),fun _ hx=>(z1pj (z1je keys) l).mem_iff.1 hx⟩
mutual
def txT:Term→Prop
 | .mk _ v _ _ _ kids sub _=>z17 v∧txTs kids∧txRs sub
def txTs:List Term→Prop
 |[]=>True
 |t::l=>txT t∧txTs l
def txA:Agg→Prop
 | .mk _ _ t=>txTs t
def txAs:List Agg→Prop
 |[]=>True
 |a::l=>txA a∧txAs l
def txR:Rel→Prop
 | .mk _ _ _ kids terms aggs _ _ _ _ rows=>txRs kids∧txTs terms∧txAs aggs∧z6q rows
def txRs:List Rel→Prop
 |[]=>True
 |r::l=>txR r∧txRs l
end
theorem z141:∀{l:List Term},txTs l→∀t∈l,txT t
 |x::l,h,t,ht=>by
  rcases yf.1 ht with rfl|ht
  ·exact h.1
  ·exact z141 h.2 t ht
theorem z1jj:∀{l:List Rel},txRs l→∀t∈l,txR t
 |x::l,h,t,ht=>by
  rcases yf.1 ht with rfl|ht
  ·exact h.1
  ·exact z1jj h.2 t ht
theorem z24s:∀{l:List Agg},txAs l→∀a∈l,txTs a.t
 | .mk _ _ t::l,h,a,ha=>by
  rcases yf.1 ha with rfl|ha
  ·exact h.1
  ·exact z24s h.2 a ha
theorem z2gn(t:Term):txT t↔(z17 t.v∧txTs t.kids∧txRs t.sub):=by cases t;rfl
theorem z24t(r:Rel):txR r↔(txRs r.kids∧txTs r.terms∧txAs r.aggs∧z6q r.rows):=by cases r;rfl
mutual
theorem z1tw:∀t:Term,txT t→strT t
 | .mk _ _ _ _ _ kids _ _,h=>⟨h.1,z24u kids h.2.1⟩
theorem z24u:∀l:List Term,txTs l→ztb l
 |[],_=>trivial
 |t::l,h=>⟨z1tw t h.1,z24u l h.2⟩
end
theorem zr8{t:Term}:∀{l:List Agg},t∈z8b l→∃a∈l,t∈a.t
 |a::l,h=>by
  rcases yc.1 h with h|h
  ·grind
  ·obtain⟨b,h1,h2⟩:=zr8 h;grind
theorem z2ms{r:Rel}(h:txR r):∀t∈z10 r,txT t:=by
 obtain⟨_,h2,h3,_⟩:=(z24t r).1 h;intro t ht;rcases yc.1 ht with ht|ht
 ·exact z141 h2 t ht
 ·obtain⟨a,ha,hta⟩:=zr8 ht;exact z141 (z24s h3 a ha) t hta
def zdo(x:Acc):Prop:=z17 x.v∧∀v∈x.l,z17 v
theorem z28a(a:Agg):zdo (zig a):=by
 unfold zig
 repeat' split
 all_goals exact⟨z3h,fun v hv=>absurd hv (by simp)⟩
theorem z1g9{x:Acc}{v:Val}(h:zdo x)(hv:z17 v):zdo (zbe x v):=by
 unfold zbe
 repeat' split
 all_goals first|exact⟨h.1,h.2⟩|exact⟨hv,h.2⟩
theorem z2cu{x:Acc}{v:Val}(h:zdo x)(hv:z17 v):zdo (zpu x v):=by
 unfold zpu;split
 ·split
  ·refine⟨h.1,fun w hw=>?_⟩;unfold insV at hw;split at hw
   ·exact h.2 w hw
   ·rcases yc.1 hw with hw|hw
    ·exact h.2 w (y37 hw)
    ·rcases yf.1 hw with rfl|hw
     ·omega
     ·exact h.2 w (y2a hw)
  grind[z1g9]
 omega
theorem z142{f:Acc→Val→Acc}(hf:∀{x v},zdo x→z17 v→zdo (f x v)):∀(l:List Val)(x:Acc),zdo x→(∀v∈l,z17 v)→zdo (l.foldl f x)
 |[],_,h,_=>h
 |v::l,x,h,hl=>z142 hf l (f x v) (hf h (hl v y10)) fun w hw=>hl w (y12 _ hw)
theorem z2cv(n:Int):z17 (numV n):=yb _
theorem z2go(a:Agg){l:List Val}(h:∀v∈l,z17 v):z17 (zer a l):=by
 rw[z2cn];have h1:=z142 (fun h hv=>z2cu h hv) l (zig a) (z28a a) h;unfold runA z1a3;generalize hx:l.foldl zpu (zig a)=x at*;have h2:=z142 (fun h hv=>z1g9 h hv) x.l x h1 h1.2;unfold endA z1ot
 repeat' split
 all_goals first|exact z2cv _|exact z3h|exact h2.1
end B
namespace B
open Go Go.RowKit
structure DbG(db:List Data):Prop where
 ok:dbOK db
 rows:zco db≤2000000
 tx:∀d∈db,z6q d.rows
structure Fine(db:List Data)(r:Rel)(l:Rows):Prop where
 short:z6q l
 wide:∀x∈l,(x.length:Int)=z27 r
 few:(l.length:Int)≤(wghR db r).1
structure GoT(db:List Data)(t:Term)(env:List Int)(w:Wld):Prop where
 v:zdv t env=true
 fit:fitT db t=true
 sz:t.sz≤2000000
 cl:clT t≤2000000
 tx:txT t
 wgh:wghT db t≤20000
 db:w.db=db
 env:z6q w.env
 deep:w.env.length+t.ht≤8000000
structure GoR(db:List Data)(r:Rel)(env:List Int)(w:Wld):Prop where
 v:zl7 r env=true
 fit:fitR db r=true
 sz:r.sz≤2000000
 cl:clR r≤2000000
 tx:txR r
 wgh:(wghR db r).2≤20000
 db:w.db=db
 env:z6q w.env
 deep:w.env.length+r.ht≤8000000
def TOK(db:List Data)(n:Nat):Prop:=∀(t:Term)(env:List Int)(w:Wld),t.ht<n→GoT db t env w→∃v,nT t w=some v∧z17 v
def ROK(db:List Data)(n:Nat):Prop:=∀(r:Rel)(env:List Int)(w:Wld),r.ht<n→GoR db r env w→∃l,nR r w=some l∧Fine db r l
theorem z2gp{l:Rows}(h:z6q l)(i:Nat):∀v∈l.getD i [],z17 v:=fun v hv=>by
 by_cases hi:i<l.length
 ·exact h _ (z8i hi) v hv
 grind
theorem GoT.kid{db:List Data}(G:DbG db){t k:Term}{env:List Int}{w:Wld}(h:GoT db t env w)(hk:k∈t.kids):GoT db k env w where
 v:=(z13j h.v).2.1 k hk
 fit:=by have:=h.fit;rw[z1s6,yn,y19]at this;grind
 sz:=by have:=zlc hk;have:=h.sz;omega
 cl:=by have:=zjy hk;have:=z22n t;have:=h.cl;omega
 tx:=z141 ((z2gn t).1 h.tx).2.1 k hk
 wgh:=(z1nh G.rows h.sz h.wgh).1 k hk
 db:=h.db
 env:=h.env
 deep:=by have:=Term.ht_kid hk;have:=h.deep;omega
theorem GoT.subq{db:List Data}(G:DbG db){t:Term}{k:Rel}{env:List Int}{w:Wld}(h:GoT db t env w)(hk:k∈t.sub):GoR db k env w where
 v:=(z13j h.v).2.2 k hk
 fit:=by have:=h.fit;rw[z1s6,yn,y19,y19]at this;grind
 sz:=by have:=zld hk;have:=h.sz;omega
 cl:=by have:=zft hk;have:=z22n t;have:=h.cl;omega
 tx:=z1jj ((z2gn t).1 h.tx).2.2 k hk
 wgh:=(z1nh G.rows h.sz h.wgh).2 k hk
 db:=h.db
 env:=h.env
 deep:=by have:=Term.ht_sub hk;have:=h.deep;omega
theorem GoR.kid{db:List Data}(G:DbG db){r k:Rel}{env:List Int}{w:Wld}(h:GoR db r env w)(hop:r.op≠1)(hk:k∈r.kids):GoR db k env w where
 v:=(z5z h.v).2.1 k hk
 fit:=by have:=h.fit;rw[z1bx,if_neg hop,yn,y19]at this;grind
 sz:=by have:=z9m hk;have:=h.sz;omega
 cl:=by have:=zft hk;have:=ze0 r;have:=h.cl;omega
 tx:=z1jj ((z24t r).1 h.tx).1 k hk
 wgh:=(z197 G.rows h.sz h.wgh).1 k hk
 db:=h.db
 env:=h.env
 deep:=by have:=Rel.ht_kid hk;have:=h.deep;omega
theorem GoR.term{db:List Data}(G:DbG db){r:Rel}{t:Term}{env:List Int}{w:Wld}(h:GoR db r env w)(hop:r.op≠1)(hi:1≤(ioR db r).1)(ht:t∈z10 r){x:List Val}(hx:∀v∈x,z17 v):GoT db t (z8v r::env) (zj w x) where
 v:=by
  obtain⟨_,_,_,h1,h2,_⟩:=z5z h.v;rcases yc.1 ht with ht|ht
  ·exact h1 t ht
  ·obtain⟨a,ha,hta⟩:=zr8 ht;exact h2 a ha t hta
 fit:=by
  have:=h.fit;rw[z1bx,if_neg hop,yn,yn,y19,y19,y19]at this;rcases yc.1 ht with ht|ht
  ·exact this.2.1 t ht
  ·obtain⟨a,ha,hta⟩:=zr8 ht;exact y19.1 (this.2.2 a ha) t hta
 sz:=by have:=(z92 ht).2;have:=h.sz;omega
 cl:=by
  have h0:=ze0 r;have hc:=h.cl;rcases yc.1 ht with ht|ht
  ·have:=zjy ht;omega
  ·obtain⟨a,ha,hta⟩:=zr8 ht;have h1:=z1i8 ha;have h2:=zjy hta;grind[z2ew]
 tx:=z2ms h.tx t ht
 wgh:=(z197 G.rows h.sz h.wgh).2.2.2.1 hi t ht
 db:=h.db
 env:=fun y hy=>by
  rcases yf.1 hy with rfl|hy
  ·omega
  ·exact h.env y hy
 deep:=by have:=(z92 ht).1;have:=h.deep;show(x::w.env).length+_≤_;grind
theorem z2mt{db:List Data}(G:DbG db){n:Nat}(hR:ROK db n){t:Term}{env:List Int}{w:Wld}(hn:t.ht<n+1)(h:GoT db t env w):∃l,nSub t.sub w=some l∧z6q l:=by
 rw[z29m];by_cases c:t.sub.length=0
 ·exact⟨[],by grind,fun x hx=>absurd hx (by simp)⟩
 ·have hm:t.sub.getD 0 za∈t.sub:=z8i (by omega);obtain⟨l,h1,h2⟩:=hR _ env w (by have:=Term.ht_sub hm;omega) (h.subq G hm);exact⟨l,by grind,h2.short⟩
theorem z2gq{db:List Data}(G:DbG db){n:Nat}(hT:TOK db n)(hR:ROK db n):TOK db (n+1):=by
 intro t env w hn h;have hkl:t.kids.length≤2000000:=by have:=z5v t.kids;have:=t.sz_eq;have:=h.sz;omega
 have hkid:=fun k(hk:k∈t.kids)=>hT k env w (by have:=Term.ht_kid hk;omega) (h.kid G hk);obtain⟨l,hl1,hl2⟩:=z2mt G hR hn h;rw[z1pp,hl1,ym,ym];by_cases c1:t.op=1∨t.op=2
 ·rw[if_pos c1,zk5 ⟨h.sz,z1tw t h.tx,h.env⟩];exact⟨_,rfl,z1op h.env t (z1tw t h.tx)⟩
 rw[if_neg c1];by_cases c2:t.op=26
 ·rw[if_pos c2];exact⟨_,rfl,z1wr (fun _=>ztc (z2gp hl2 0) 0) (fun _=>z3h)⟩
 rw[if_neg c2];by_cases c3:t.op=27
 ·rw[if_pos c3];exact⟨_,rfl,z1oo _⟩
 rw[if_neg c3];by_cases c4:t.op=28
 ·rw[if_pos c4];by_cases c5:t.kids.length=0
  ·rw[if_pos c5];exact⟨_,rfl,z3h⟩
  ·rw[if_neg c5,z1aq,if_neg c5];obtain⟨v,h1,_⟩:=hkid _ (z8i (d:=zb) (show 0<t.kids.length by omega));rw[h1,ym];exact⟨_,rfl,zxm _⟩
 rw[if_neg c4,if_pos hkl,z1ar];obtain⟨s,h1,h2,h3⟩:=zo9 (P:=z17) t.kids hkid;rw[h1,ym,zk5 ⟨by omega,h3⟩];exact⟨_,rfl,z1ft _ _ h3⟩
theorem z2cw{w:Wld}:∀(l:List Term),(∀t∈l,∃v,nT t w=some v∧z17 v)→∃b,nSo l w=some b
 |[],_=>⟨true,by rfl⟩
 |t::l,h=>by
  obtain⟨v,h1,_⟩:=h t y10;obtain⟨b,h2⟩:=z2cw l fun x hx=>h x (y12 _ hx);simp only[nSo,h1,ym];grind
theorem z2mu(db:List Data)(r:Rel):(ioR db r).2=(ioR db r).1∨(ioR db r).2=maxI (ioR db r).1 1:=by
 unfold ioR ioW;grind
theorem z1pw{db:List Data}{r:Rel}(h1:r.op≠1)(hk:r.kids.length=1):ioR db r=((wghR db (r.kids.getD 0 za)).1,maxI (wghR db (r.kids.getD 0 za)).1 1):=by
 simp_all[ioR,ioW,if_neg,yz,if_pos,zg0]
theorem z1x6{r:Rel}(h:r.op=3∨r.op=8∨r.op=12∨r.op=13)(hk:r.kids.length=1):z27 r=z27 (r.kids.getD 0 za):=by
 have hkn:z3q r.op=1:=by rcases h with e|e|e|e<;>rw[e]<;>rfl
 rw[zkc,if_neg (by omega),if_neg (by omega),if_neg (by omega),if_neg (by omega),if_neg (by omega),zbo _ _ (by omega)]
theorem z2gr{r:Rel}(h:r.op=9∨r.op=10∨r.op=11)(hk:r.kids.length=2):z27 r=z27 (r.kids.getD 0 za):=by
 have hkn:z3q r.op=2:=by rcases h with e|e|e<;>rw[e]<;>rfl
 rw[zkc,if_neg (by omega),if_neg (by omega),if_neg (by omega),if_neg (by omega),if_neg (by omega),zbo _ _ (by omega)]
theorem Fine.fin{db:List Data}{r:Rel}{X:Option Rows}{l:Rows}(hb:(wghR db r).1≤1048576)(hX:X=some l)(h:Fine db r l):∃l,X.bind capQ=some l∧Fine db r l:=by
 have:=h.few;unfold capQ;grind
theorem Fine.sub{db:List Data}{r k:Rel}{l s:Rows}(h:Fine db k l)(hw:z27 r=z27 k)(hm:∀x∈s,x∈l)(hf:(s.length:Int)≤(wghR db r).1):Fine db r s:=
 ⟨fun x hx=>h.short x (hm x hx),fun x hx=>(h.wide x (hm x hx)).trans hw.symm,hf⟩
theorem z2mv{x:List Val}{cols:List Col}(h:z8p x cols=true):x.length=cols.length:=by
 simp_all[z8p,yn,decide_eq_true_eq]
section
variable {db:List Data} {n:Nat} {r:Rel} {env:List Int} {w:Wld}
structure StepR(db:List Data)(r:Rel)(env:List Int)(w:Wld):Prop where
 go:GoR db r env w
 io:0≤(ioR db r).1∧(ioR db r).1≤20000
 out:(wghR db r).1=(ioR db r).2
 kid:r.op≠1→∀i,i<r.kids.length→∃l,nKid r.kids i w=some l∧Fine db (r.kids.getD i za) l
 term:r.op≠1→1≤(ioR db r).1→∀t∈z10 r,∀x:List Val,(∀v∈x,z17 v)→∃v,nT t (zj w x)=some v∧z17 v
theorem StepR.mk'(G:DbG db)(hT:TOK db n)(hR:ROK db n)(hn:r.ht<n+1)(h:GoR db r env w):StepR db r env w:=by
 obtain⟨_,i0,i1,_,e⟩:=z197 G.rows h.sz h.wgh;have ho:=z2mu db r;refine⟨h,⟨i0,i1⟩,?_,fun hop i hi=>?_,fun hop h1 t ht x hx=>?_⟩
 ·rw[e,zcn,if_neg];grind[zns]
 ·have hm:r.kids.getD i za∈r.kids:=z8i hi;obtain⟨l,h1,h2⟩:=hR _ env w (by have:=Rel.ht_kid hm;omega) (h.kid G hop hm);simp_all[z1ce,if_pos]
 ·exact hT t _ _ (by have:=(z92 ht).1;omega) (h.term G hop h1 ht hx)
theorem z1av{t:Term}(h:t∈r.terms):t∈z10 r:=y1u _ h
theorem z2cx(G:DbG db)(hS:StepR db r env w)(c:r.op=1):∃l,(chkQ (dbOK w.db) (some (z6e w r.table))).bind capQ=some l∧Fine db r l:=by
 have hb:=(z5a G.rows hS.go.sz).1.2;have hf:=hS.go.fit;rw[z1bx,if_pos c]at hf;unfold znq at hf;have hc:=(z5z hS.go.v).2.2.1;have ho:(ioR db r).2=zbr r.table db:=by unfold ioR ioW;grind
 have hh:=z1c1 r.table db 0 (by omega) (by have:=G.rows;omega);refine Fine.fin (l:=z6e w r.table) hb (zk5 (by rw[hS.go.db];exact G.ok)) ?_;unfold z6e;rw[hS.go.db];cases hfd:db.find? (fun d=>d.table.toList==r.table.toList)with
 |none=>exact⟨fun x hx=>absurd hx (by simp),fun x hx=>absurd hx (by simp),by rw[hS.out,ho];exact hh.1⟩
 |some d=>
  have hm:=List.mem_of_find?_eq_some hfd;have ht:(d.table.toList==r.table.toList)=true:=List.find?_some (p:=fun d:Data=>d.table.toList==r.table.toList) hfd;refine⟨G.tx d hm,fun x hx=>?_,?_⟩
  ·grind[z2mv]
  ·rw[hS.out,ho];simp_all[zbr]
theorem z2gs(G:DbG db)(hS:StepR db r env w)(c:r.op=2):∃l,(some r.rows).bind capQ=some l∧Fine db r l:=by
 have hb:=(z5a G.rows hS.go.sz).1.2;obtain⟨⟨hk,_⟩,_,hc,_,_,hr⟩:=z5z hS.go.v;rw[c]at hk;have hk0:r.kids.length=0:=by have:z3q 2=0:=rfl;omega
 unfold zdx at hr;unfold znp at hr;refine Fine.fin hb rfl ⟨((z24t r).1 hS.go.tx).2.2.2,fun x hx=>?_,?_⟩
 ·grind
 ·rw[hS.out];simp_all[ioR,ioW,if_neg,if_pos,yz,y27]
theorem z28b(G:DbG db)(hS:StepR db r env w)(c:r.op=3):∃l,(filO (fun w=>nKid r.kids 0 w) (fun w=>nSo r.terms w) w).bind capQ=some l∧Fine db r l:=by
 have hb:=(z5a G.rows hS.go.sz).1.2;have hk:=(z5z hS.go.v).1.1;rw[c]at hk;have hk1:r.kids.length=1:=by have:z3q 3=1:=rfl;omega
 obtain⟨l,h1,h2⟩:=hS.kid (by omega) 0 (by omega);have hio:=z1pw (db:=db) (by omega) hk1;have hfew:=h2.few;obtain⟨s,g1,g2,g3⟩:=z1jh (f:=fun x=>nSo r.terms (zj w x)) l fun x hx=>z2cw _ fun t ht=>hS.term (by omega) (by grind) t (z1av ht) x (h2.short x hx);refine Fine.fin (l:=s) hb ?_ (h2.sub (z1x6 (.inl c) hk1) g3 ?_)
 ·unfold filO;dsimp only;rw[if_pos (by have:=hS.go.deep;omega),h1,ym,g1]
 ·rw[hS.out,hio,zns];omega
theorem z24v(hS:StepR db r env w)(hop:r.op≠1)(hi:1≤(ioR db r).1){x:List Val}(hx:∀v∈x,z17 v):∃s,nTs r.terms (zj w x)=some s∧s.length=r.terms.length∧∀v∈s,z17 v:=by
 rw[z1ar];exact zo9 (P:=z17) _ fun t ht=>hS.term hop hi t (z1av ht) x hx
theorem z24w(G:DbG db)(hS:StepR db r env w)(c:r.op=4):∃l,(z1cb (fun w=>nKid r.kids 0 w) (fun w=>nTs r.terms w) r.terms.length w).bind capQ=some l∧Fine db r l:=by
 have hb:=(z5a G.rows hS.go.sz).1.2;have hk:=(z5z hS.go.v).1.1;rw[c]at hk;have hk1:r.kids.length=1:=by have:z3q 4=1:=rfl;omega
 obtain⟨l,h1,h2⟩:=hS.kid (by omega) 0 (by omega);have hio:=z1pw (db:=db) (by omega) hk1;have hfew:=h2.few;have htl:r.terms.length≤2000000:=by have:=z5v r.terms;have:=r.sz_eq;have:=hS.go.sz;omega
 obtain⟨s,g1,g2,g3⟩:=zo9 (f:=fun x=>nTs r.terms (zj w x)) (P:=fun y=>y.length=r.terms.length∧∀v∈y,z17 v) l fun x hx=>z24v hS (by omega) (by grind) (h2.short x hx);have hw:z27 r=r.terms.length:=by rw[zkc,c,if_neg (by omega),if_neg (by omega),if_pos rfl]
 refine Fine.fin (l:=s) hb ?_ ⟨fun x hx=>(g3 x hx).2,fun x hx=>by grind,?_⟩
 ·unfold z1cb;dsimp only;rw[if_pos ⟨by have:=hS.go.deep;omega,by omega⟩,h1,ym,g1]
 ·rw[hS.out,hio,zns];omega
theorem z2gt(G:DbG db)(hS:StepR db r env w)(c:r.op=5∨r.op=6):∃l,(z1cc (fun w=>nKid r.kids 0 w) (fun w=>nKid r.kids 1 w) (fun w=>nSo r.terms w) r.kids.length (r.kids.getD 1 za).cols.length (decide (r.op=6)) w).bind capQ=some l∧Fine db r l:=by
 have hb:=(z5a G.rows hS.go.sz).1.2;obtain⟨⟨hk,_⟩,hkv,_,_,_,_⟩:=z5z hS.go.v;rw[z17b c]at hk;have hk2:r.kids.length=2:=by omega
 have hop:r.op≠1:=by omega
 obtain⟨l,h1,h2⟩:=hS.kid hop 0 (by omega);obtain⟨t,h3,h4⟩:=hS.kid hop 1 (by omega);have m0:r.kids.getD 0 za∈r.kids:=z8i (by omega);have m1:r.kids.getD 1 za∈r.kids:=z8i (by omega);have c0:=(z5z (hkv _ m0)).2.2.1;have c1:=(z5z (hkv _ m1)).2.2.1;have hcl0:=ze0 (r.kids.getD 0 za);have hcl1:=ze0 (r.kids.getD 1 za);have b0:=zft m0;have b1:=zft m1;have hcl:=ze0 r;have hclr:=hS.go.cl;have hd:=hS.go.deep;have w0:=(z5a G.rows (show(r.kids.getD 0 za).sz≤2000000 by have:=z9m m0;have:=hS.go.sz;omega)).1;have w1:=(z5a G.rows (show(r.kids.getD 1 za).sz≤2000000 by have:=z9m m1;have:=hS.go.sz;omega)).1;have hw:z27 r=z27 (r.kids.getD 0 za)+z27 (r.kids.getD 1 za):=by
  rw[zkc,if_neg (by rw[z17b c];omega),if_neg (by omega),if_neg (by omega),if_neg (by omega),if_pos c,zbo _ _ (by omega),zbo _ _ (by omega),z1p (by omega)]
 obtain⟨W0,e0⟩:=y4c w0.1;obtain⟨W1,e1⟩:=y4c w1.1;have hio:(ioR db r).1=((W0*max W1 1:Nat):Int)∧(ioR db r).2=((W0*max W1 1:Nat):Int):=by
  have hmx:maxI (W1:Int) 1=((max W1 1:Nat):Int):=by rw[zns];split<;>omega
  have hp:=z1c2 (a:=(W0:Int)) (b:=((max W1 1:Nat):Int)) (by omega) (by omega) (by omega) (by omega);unfold ioR ioW;rw[if_neg hop,if_neg (by rw[yz];omega),if_neg (by rw[yz];omega),if_pos c,zg0 db r 0 (by omega),zg0 db r 1 (by omega),e0,e1,hmx,z1p (by omega),Int.natCast_mul];exact⟨rfl,rfl⟩
 have f0:=h2.few;have f1:=h4.few;rw[e0]at f0;rw[e1]at f1;have hone:∀x∈l,1≤(ioR db r).1:=fun x hx=>by
  have:=y4b hx;have:=y28 (show 1≤W0 by omega) (show 1≤max W1 1 by omega);rw[hio.1];omega
 obtain⟨s,g1,g2,g3⟩:=z24o (left:=decide (r.op=6)) (nn:=List.replicate (r.kids.getD 1 za).cols.length z7) (f:=fun x=>if x.length≤100000000 then nSo r.terms (zj w x)else none) (right:=t) l fun a ha=>by
  have la:=h2.wide a ha;refine⟨fun b hb'=>?_,by rw[ya,y36];omega⟩;have lb:=h4.wide b hb';rw[if_pos (by rw[ya];omega)];exact z2cw _ fun t ht=>hS.term hop (hone a ha) t (z1av ht) _ fun v hv=>by
   rcases yc.1 hv with hv|hv
   ·exact h2.short a ha v hv
   ·exact h4.short b hb' v hv
 have hlen:(s.length:Int)≤(wghR db r).1:=by
  rw[hS.out,hio.2];have:=y28 (show l.length≤W0 by omega) (show max t.length 1≤max W1 1 by omega);omega
 refine Fine.fin (l:=s) hb ?_ ⟨fun x hx v hv=>?_,fun x hx=>?_,hlen⟩
 ·unfold z1cc;dsimp only;rw[if_neg (by omega),if_pos ⟨by omega,by omega⟩,h3,ym,h1,ym,g1,ym];unfold capQ;rw[if_pos (by omega)]
 ·obtain⟨a,ha,b,hb',rfl⟩:=g3 x hx;rcases yc.1 hv with hv|hv
  ·exact h2.short a ha v hv
  ·rcases hb' with hb'|rfl
   ·exact h4.short b hb' v hv
   ·rw[List.eq_of_mem_replicate hv];exact z3h
 ·obtain⟨a,ha,b,hb',rfl⟩:=g3 x hx;have la:=h2.wide a ha;have lb:(b.length:Int)=z27 (r.kids.getD 1 za):=by
   rcases hb' with hb'|rfl
   ·exact h4.wide b hb'
   ·rw[y36];exact c1
  rw[ya,hw];omega
theorem z2cy(G:DbG db)(hS:StepR db r env w)(c:r.op=7):∃l,(grpO (fun w=>nKid r.kids 0 w) (fun w=>nTs r.terms w) (fun w l=>nAs r.aggs w l) r.terms.length r.aggs.length w).bind capQ=some l∧Fine db r l:=by
 have hb:=(z5a G.rows hS.go.sz).1.2;have hk:=(z5z hS.go.v).1.1;rw[c]at hk;have hk1:r.kids.length=1:=by have:z3q 7=1:=rfl;omega
 have hop:r.op≠1:=by omega
 obtain⟨l,h1,h2⟩:=hS.kid hop 0 (by omega);have hio:=z1pw (db:=db) hop hk1;have hfew:=h2.few;have hd:=hS.go.deep;have hle:(l.length:Int)≤20000:=by have:=hS.io.2;rw[hio]at this;dsimp only at this;omega
 have htl:r.terms.length≤2000000∧r.aggs.length≤2000000:=by have:=z5v r.terms;have:=z1he r.aggs;have:=r.sz_eq;have:=hS.go.sz;omega
 have hi:∀x∈l,1≤(ioR db r).1:=fun x hx=>by rw[hio];have:=y4b hx;dsimp only;omega
 have hkey:=fun x(hx:x∈l)=>z24v hS hop (hi x hx) (h2.short x hx);obtain⟨bs,g1,g2,g3⟩:∃bs,bunO (fun w=>nTs r.terms w) r.terms.length w l=some bs∧(bs.length:Int)≤(ioR db r).2∧∀b∈bs,(b.key.length=r.terms.length∧∀v∈b.key,z17 v)∧(∀x∈b.rows,x∈l)∧b.rows.length≤20000:=by
  unfold bunO;rw[if_pos ⟨by omega,by omega,by omega⟩]
  obtain⟨bs,k1,k2,k3⟩:=z29n (f:=fun x=>nTs r.terms (zj w x)) (K:=fun k=>k.length=r.terms.length∧∀v∈k,z17 v) (M:=l) l (if r.terms.length=0 then[⟨[],[]⟩]else[]) (fun x hx=>⟨hx,hkey x hx⟩) (fun b hb'=>by
   split at hb'
   ·rename_i e;rw[yh]at hb';subst hb';exact⟨⟨e.symm,fun v hv=>absurd hv (by simp)⟩,fun x hx=>absurd hx (by simp)⟩
   ·simp at hb')
  have hr:=z1au (N:=0) (fun b hb'=>by
   split at hb'
   ·rw[yh]at hb';subst hb';exact yb _
   ·simp at hb') k1
  refine⟨bs,k1,?_,fun b hb'=>⟨(k3 b hb').1,(k3 b hb').2,by have:=hr b hb';omega⟩⟩;rw[hio,zns];by_cases e:r.terms.length=0
  ·rw[if_pos e]at k1
   obtain⟨b',hb'⟩:=z24p (f:=fun x=>nTs r.terms (zj w x)) l ⟨[],[]⟩ (fun x hx=>by
    obtain⟨k,q1,q2,_⟩:=hkey x hx
    rw[q1,yy (q2.trans e)]) rfl
   rw[hb']at k1;rw[←yj k1];simp only[yg];split<;>omega
  ·rw[if_neg e]at k2;simp only[y1v]at k2;dsimp only;split<;>omega
 have hagg:∀b∈bs,∀a∈r.aggs,∃v,nA a w b.rows=some v∧z17 v:=fun b hb' a ha=>by
  obtain⟨_,q2,q3⟩:=g3 b hb';rw[z2k8,if_pos (by omega)];obtain⟨s,k1,k2,k3⟩:=zo9 (f:=fun x=>nHd a.t (zj w x)) (P:=z17) b.rows fun x hx=>by
   rw[z1aq];by_cases e:a.t.length=0
   ·rw[if_pos e];exact⟨_,rfl,z3h⟩
   ·rw[if_neg e];refine hS.term hop (hi x (q2 x hx)) _ (y1w _ ?_) x (h2.short x (q2 x hx));have:∀{l:List Agg}{a:Agg}{t:Term},a∈l→t∈a.t→t∈z8b l:=by
     intro l
     induction l with
     |nil=>intro a t h;simp at h
     |cons y l ih=>
      intro a t h ht;rw[z8b];rcases yf.1 h with rfl|h
      ·exact y1u _ ht
      ·exact y1w _ (ih h ht)
    exact this ha (z8i (by omega))
  rw[k1,ym,if_pos (by omega)];exact⟨_,rfl,z2go a k3⟩
 obtain⟨s,k1,k2,k3⟩:=zo9 (f:=fun b:Bunch=>(nAs r.aggs w b.rows).bind fun vs=>some (b.key++vs)) (P:=fun y=>y.length=r.terms.length+r.aggs.length∧∀v∈y,z17 v) bs fun b hb'=>by
  obtain⟨vs,j1,j2,j3⟩:=zo9 (P:=z17) r.aggs (hagg b hb');obtain⟨q1,_,_⟩:=g3 b hb';rw[z24n,j1,ym];refine⟨_,rfl,by rw[ya];omega,fun v hv=>?_⟩;rcases yc.1 hv with hv|hv
  ·exact q1.2 v hv
  ·exact j3 v hv
 have hw:z27 r=r.terms.length+r.aggs.length:=by rw[zkc,c,if_neg (by have:z3q 7=1:=rfl;omega),if_neg (by omega),if_neg (by omega),if_pos rfl,z1p (by omega)]
 refine Fine.fin (l:=s) hb ?_ ⟨fun x hx=>(k3 x hx).2,fun x hx=>by rw[(k3 x hx).1,hw];omega,by rw[hS.out];omega⟩;unfold grpO;dsimp only;rw[if_pos (by omega),h1,ym,g1,ym];exact k1
theorem z1jk(G:DbG db)(hS:StepR db r env w)(c:r.op=3∨r.op=8∨r.op=12∨r.op=13)(g:Rows→Rows)(hg:∀l,(g l).length≤l.length∧∀x∈g l,x∈l):∃l,((nKid r.kids 0 w).bind fun l=>some (g l)).bind capQ=some l∧Fine db r l:=by
 have hb:=(z5a G.rows hS.go.sz).1.2;have hk:=(z5z hS.go.v).1.1;have hk1:r.kids.length=1:=by
  have:z3q r.op=1:=by rcases c with e|e|e|e<;>rw[e]<;>rfl
  omega
 obtain⟨l,h1,h2⟩:=hS.kid (by omega) 0 (by omega);have hio:=z1pw (db:=db) (by omega) hk1;have hfew:=h2.few;obtain⟨g1,g2⟩:=hg l;refine Fine.fin (l:=g l) hb (by rw[h1];rfl) (h2.sub (z1x6 c hk1) g2 ?_);rw[hS.out,hio,zns];dsimp only;split<;>omega
theorem z2jd(G:DbG db)(hS:StepR db r env w)(c:r.op=9∨r.op=10∨r.op=11):∃l,(setO (fun w=>nKid r.kids 0 w) (fun w=>nKid r.kids 1 w) r.op r.all w).bind capQ=some l∧Fine db r l:=by
 have hb:=(z5a G.rows hS.go.sz).1.2;obtain⟨⟨hk,_⟩,_,_,_,_,hrest⟩:=z5z hS.go.v;have hk2:r.kids.length=2:=by
  have:z3q r.op=2:=by rcases c with e|e|e<;>rw[e]<;>rfl
  omega
 have hop:r.op≠1:=by omega
 obtain⟨a,h1,h2⟩:=hS.kid hop 0 (by omega);obtain⟨b,h3,h4⟩:=hS.kid hop 1 (by omega);have m0:r.kids.getD 0 za∈r.kids:=z8i (by omega);have m1:r.kids.getD 1 za∈r.kids:=z8i (by omega);have w0:=(z5a G.rows (show(r.kids.getD 0 za).sz≤2000000 by have:=z9m m0;have:=hS.go.sz;omega)).1;have w1:=(z5a G.rows (show(r.kids.getD 1 za).sz≤2000000 by have:=z9m m1;have:=hS.go.sz;omega)).1;have hio:(ioR db r).2=(wghR db (r.kids.getD 0 za)).1+(wghR db (r.kids.getD 1 za)).1:=by
  unfold ioR ioW;rw[if_neg hop,if_neg (by rw[yz];omega),if_neg (by rw[yz];omega),if_neg (by omega),zg0 db r 0 (by omega),zg0 db r 1 (by omega),z1p (by omega)]
 unfold zdx at hrest;rw[if_neg (by omega),if_neg (by omega),if_neg (by omega),if_neg (by omega),if_neg (by omega),if_neg (by omega),if_pos c,beq_iff_eq]at hrest;have f0:=h2.few;have f1:=h4.few;obtain⟨u,e,hu,hul⟩:∃u,(if r.op=9 then capQ (a++b)else some a)=some u∧(∀x∈u,x∈a∨x∈b)∧u.length≤a.length+b.length:=by
  by_cases c9:r.op=9
  ·refine⟨a++b,?_,fun x hx=>yc.1 hx,by rw[ya];omega⟩;rw[if_pos c9];unfold capQ;rw[if_pos (by rw[ya];omega)]
  ·exact⟨a,by rw[if_neg c9],fun x hx=>.inl hx,by omega⟩
 obtain⟨g1,g2⟩:=z24r r.op r.all u b;have hw:=z2gr c hk2;refine Fine.fin (l:=setE r.op r.all u b) hb ?_ ⟨fun x hx=>?_,fun x hx=>?_,by rw[hS.out,hio];omega⟩
 ·unfold setO;dsimp only;rw[h1,ym,h3,ym,e,ym]
 ·rcases hu x (g2 x hx)with h|h
  ·exact h2.short x h
  ·exact h4.short x h
 ·rcases hu x (g2 x hx)with h|h
  ·rw[h2.wide x h,hw]
  ·rw[h4.wide x h,hw,hrest]
theorem z2je(G:DbG db)(hT:TOK db n)(hR:ROK db n):ROK db (n+1):=by
 intro r env w hn h;have hS:=StepR.mk' G hT hR hn h;rw[z1cd];by_cases c1:r.op=1
 ·rw[if_pos c1];exact z2cx G hS c1
 rw[if_neg c1];by_cases c2:r.op=2
 ·rw[if_pos c2];exact z2gs G hS c2
 rw[if_neg c2];by_cases c3:r.op=3
 ·rw[if_pos c3];exact z28b G hS c3
 rw[if_neg c3];by_cases c4:r.op=4
 ·rw[if_pos c4];exact z24w G hS c4
 rw[if_neg c4];by_cases c5:r.op=5∨r.op=6
 ·rw[if_pos c5];exact z2gt G hS c5
 rw[if_neg c5];by_cases c7:r.op=7
 ·rw[if_pos c7];exact z2cy G hS c7
 rw[if_neg c7];by_cases c8:r.op=8
 ·rw[if_pos c8];exact z1jk G hS (.inr (.inl c8)) z13 zoa
 rw[if_neg c8];by_cases c9:r.op=9∨r.op=10∨r.op=11
 ·rw[if_pos c9];exact z2jd G hS c9
 rw[if_neg c9];by_cases c12:r.op=12
 ·rw[if_pos c12];exact z1jk G hS (.inr (.inr (.inl c12))) (fun l=>z53 l r.keys) fun l=>z289 l r.keys
 rw[if_neg c12];by_cases c13:r.op=13
 ·rw[if_pos c13];exact z1jk G hS (.inr (.inr (.inr c13))) (fun l=>z3i l r.limit r.skip) fun l=>z288 l r.limit r.skip
 rw[if_neg c13];exact Fine.fin (z5a G.rows h.sz).1.2 rfl ⟨fun x hx=>absurd hx (by simp),fun x hx=>absurd hx (by simp),(z5a G.rows h.sz).1.1⟩
end
theorem z1aw{db:List Data}(G:DbG db):∀n,TOK db n∧ROK db n
 |0=>⟨fun _ _ _ h=>absurd h (y18 _),fun _ _ _ h=>absurd h (y18 _)⟩
 |n+1=>⟨z2gq G (z1aw G n).1 (z1aw G n).2,z2je G (z1aw G n).1 (z1aw G n).2⟩
theorem z2gu{db:List Data}(G:DbG db){r:Rel}{env:List Int}{w:Wld}(h:GoR db r env w):∃l,nR r w=some l∧Fine db r l:=(z1aw G (r.ht+1)).2 r env w (y39 _) h
theorem z24x{db:List Data}{r:Rel}(h:zke r db=true)(hs:r.sz≤2000000)(hc:clR r≤2000000)(ht:txR r):GoR db r [] ⟨[],db⟩:=by
 unfold zke z195 at h;simp only[yn,y1y]at h;obtain⟨_,_,_,_,_,h1,h2,_,h3⟩:=h;refine⟨h1,h2,hs,hc,ht,?_,rfl,fun x hx=>absurd hx (by simp),by have:=z196 r;simp only[y1v];omega⟩;unfold zqq z7l at h3;simpa using h3
end B
namespace B
open Go Go.RowKit
set_option linter.unusedVariables false
theorem BK.str_inv{s:ByteArray}{n:Nat}(h:BK (cs s) n):s.size≤n:=by
 cases h with
 |s _ _ h=>exact h s rfl
theorem z2np{v:Val}{n:Nat}(h:BKS (enc .val v) n)(hn:n≤2000000):z17 v:=by
 obtain⟨_,_,_,h,q2⟩:=h.cons_inv;obtain⟨_,_,_,h,q3⟩:=h.cons_inv;obtain⟨_,_,k0,_,q4⟩:=h.cons_inv;have e0:v.s.size≤_:=k0.str_inv;show v.s.size≤_;omega
theorem z2k9:∀(l:List Val)(n:Nat),BKL .val l n→n≤2000000→∀v∈l,z17 v
 |[],_,_,_=>by simp
 |x::r,n,h,hn=>by
  obtain⟨_,_,h1,h2,_⟩:=h.cons_inv;intro v hv;rcases yf.1 hv with rfl|hv
  ·exact z2np h1 (by omega)
  ·exact z2k9 r _ h2 (by omega) v hv
theorem z24y:∀(l:List (List Val))(n:Nat),BKL .row l n→n≤2000000→z6q l∧l.length≤n
 |[],_,_,_=>⟨fun x hx=>absurd hx (by simp),yb _⟩
 |x::r,n,h,hn=>by
  obtain⟨_,_,h1,h2,_⟩:=h.cons_inv;obtain⟨_,_,k0,_,_⟩:=h1.cons_inv;obtain⟨g1,g2⟩:=z24y r _ h2 (by omega);refine⟨fun y hy=>?_,by rw[yr];omega⟩;rcases yf.1 hy with rfl|hy
  ·exact z2k9 _ _ k0.dat_inv (by omega)
  ·exact g1 y hy
mutual
theorem bkTx:∀(t:Term)(n:Nat),BKS (enc .term t) n→n≤2000000→txT t∧clT t≤n
 | .mk op v depth at_ name kids sub type,n,h,hn=>by
  obtain⟨_,_,_,h,q1⟩:=h.cons_inv;obtain⟨_,_,_,h,q2⟩:=h.cons_inv;obtain⟨_,_,_,h,q3⟩:=h.cons_inv;obtain⟨_,_,k0,h,q4⟩:=h.cons_inv;obtain⟨_,_,_,h,q5⟩:=h.cons_inv;obtain⟨_,_,_,h,q6⟩:=h.cons_inv;obtain⟨_,_,_,h,q7⟩:=h.cons_inv;obtain⟨_,_,k1,h,q8⟩:=h.cons_inv;obtain⟨_,_,k2,h,q9⟩:=h.cons_inv;have e0:v.s.size≤_:=k0.str_inv;have e1:=z207 kids _ k1.dat_inv (by omega);have e2:=z24z sub _ k2.dat_inv (by omega);simp only[txT,clT];exact⟨⟨by show v.s.size≤_;omega,e1.1,e2.1⟩,by omega⟩
theorem z207:∀(l:List Term)(n:Nat),BKL .term l n→n≤2000000→txTs l∧clTs l≤n
 |[],_,_,_=>⟨trivial,yb _⟩
 |t::r,n,h,hn=>by
  obtain⟨_,_,h1,h2,_⟩:=h.cons_inv;have e1:=bkTx t _ h1 (by omega);have e2:=z207 r _ h2 (by omega);simp only[clTs];exact⟨⟨e1.1,e2.1⟩,by omega⟩
theorem z2nq:∀(a:Agg)(n:Nat),BKS (enc .agg a) n→n≤2000000→txA a∧clA a≤n
 | .mk name d t,n,h,hn=>by
  obtain⟨_,_,_,h,q1⟩:=h.cons_inv;obtain⟨_,_,_,h,q2⟩:=h.cons_inv;obtain⟨_,_,k1,h,q3⟩:=h.cons_inv;have e1:=z207 t _ k1.dat_inv (by omega);simp only[clA];exact⟨e1.1,by omega⟩
theorem z2gv:∀(l:List Agg)(n:Nat),BKL .agg l n→n≤2000000→txAs l∧clAs l≤n
 |[],_,_,_=>⟨trivial,yb _⟩
 |t::r,n,h,hn=>by
  obtain⟨_,_,h1,h2,_⟩:=h.cons_inv;have e1:=z2nq t _ h1 (by omega);have e2:=z2gv r _ h2 (by omega);simp only[clAs];exact⟨⟨e1.1,e2.1⟩,by omega⟩
theorem z2cz:∀(r:Rel)(n:Nat),BKS (enc .rel r) n→n≤2000000→txR r∧clR r≤n
 | .mk op table cols kids terms aggs keys limit skip all rows,n,h,hn=>by
  obtain⟨_,_,_,h,q1⟩:=h.cons_inv;obtain⟨_,_,_,h,q2⟩:=h.cons_inv;obtain⟨_,_,k0,h,q3⟩:=h.cons_inv;obtain⟨_,_,k1,h,q4⟩:=h.cons_inv;obtain⟨_,_,k2,h,q5⟩:=h.cons_inv;obtain⟨_,_,k3,h,q6⟩:=h.cons_inv;obtain⟨_,_,_,h,q7⟩:=h.cons_inv;obtain⟨_,_,_,h,q8⟩:=h.cons_inv;obtain⟨_,_,_,h,q9⟩:=h.cons_inv;obtain⟨_,_,_,h,q10⟩:=h.cons_inv;obtain⟨_,_,k4,h,q11⟩:=h.cons_inv;have e0:(cols:List Col).length≤_:=(BK.dat_inv k0).len;have e1:=z24z kids _ k1.dat_inv (by omega);have e2:=z207 terms _ k2.dat_inv (by omega);have e3:=z2gv aggs _ k3.dat_inv (by omega);have e4:=z24y rows _ k4.dat_inv (by omega);simp only[txR,clR];exact⟨⟨e1.1,e2.1,e3.1,e4.1⟩,by omega⟩
theorem z24z:∀(l:List Rel)(n:Nat),BKL .rel l n→n≤2000000→txRs l∧clRs l≤n
 |[],_,_,_=>⟨trivial,yb _⟩
 |t::r,n,h,hn=>by
  obtain⟨_,_,h1,h2,_⟩:=h.cons_inv;have e1:=z2cz t _ h1 (by omega);have e2:=z24z r _ h2 (by omega);simp only[clRs];exact⟨⟨e1.1,e2.1⟩,by omega⟩
end
theorem bkDb:∀(db:List Data)(n:Nat),BKL .data db n→n≤2000000→db.length+zco db≤n∧(∀d∈db,z6q d.rows)∧∀d∈db,d.rows.length≤2000000
 |[],_,_,_=>⟨yb _,by simp,by simp⟩
 |d::r,n,h,hn=>by
  obtain⟨_,_,h1,h2,_⟩:=h.cons_inv;obtain⟨_,_,_,h1,q1⟩:=h1.cons_inv;obtain⟨_,_,k0,h1,q2⟩:=h1.cons_inv;have e0:z6q d.rows∧d.rows.length≤_:=z24y d.rows _ k0.dat_inv (by omega);obtain⟨g1,g2,g3⟩:=bkDb r _ h2 (by omega);refine⟨by rw[yr];simp only[zco];omega,fun x hx=>?_,fun x hx=>?_⟩
  ·rcases yf.1 hx with rfl|hx
   ·exact e0.1
   ·exact g2 x hx
  ·rcases yf.1 hx with rfl|hx
   ·have:=e0.2;omega
   ·exact g3 x hx
theorem z2mw{db:List Data}{n:Nat}(h:BKL .data db n)(hn:n≤2000000):DbG db:=by
 obtain⟨h1,h2,h3⟩:=bkDb db n h hn;exact⟨⟨by omega,fun d hd=>by have:=h3 d hd;omega⟩,by omega,h2⟩
end B
namespace B
open Go Go.RowKit Go.ChangeShapes
set_option maxRecDepth 1000000
theorem z2lh{vs:List (V Un)}(h:vs.map flOf=(fls .int).map some):∃x,dec .int vs=some x:=by
 have h0:vs.map flOf=([.int]:List Fl).map some:=h;obtain⟨a0,r0,rfl,h1⟩:=z25 h0;obtain rfl:=z3d h1;exact⟨_,rfl⟩
theorem z2li{vs:List (V Un)}(h:vs.map flOf=(fls .str).map some):∃x,dec .str vs=some x:=by
 have h0:vs.map flOf=([.str]:List Fl).map some:=h;obtain⟨a0,r0,rfl,h1⟩:=za1 h0;obtain rfl:=z3d h1;exact⟨_,rfl⟩
theorem z2lj{vs:List (V Un)}(h:vs.map flOf=(fls .row).map some):∃x,dec .row vs=some x:=by
 have h0:vs.map flOf=([.sl .val]:List Fl).map some:=h;obtain⟨a0,r0,rfl,h1⟩:=z2g h0;obtain rfl:=z3d h1;exact⟨_,rfl⟩
theorem z2jf{vs:List (V Un)}(h:vs.map flOf=(fls .ints).map some):∃x,dec .ints vs=some x:=by
 have h0:vs.map flOf=([.sl .int]:List Fl).map some:=h;obtain⟨a0,r0,rfl,h1⟩:=z2g h0;obtain rfl:=z3d h1;exact⟨_,rfl⟩
theorem z2jg{vs:List (V Un)}(h:vs.map flOf=(fls .trms).map some):∃x,dec .trms vs=some x:=by
 have h0:vs.map flOf=([.sl .term]:List Fl).map some:=h;obtain⟨a0,r0,rfl,h1⟩:=z2g h0;obtain rfl:=z3d h1;exact⟨_,rfl⟩
theorem z2gw{vs:List (V Un)}(h:vs.map flOf=(fls .colss).map some):∃x,dec .colss vs=some x:=by
 have h0:vs.map flOf=([.sl .col]:List Fl).map some:=h;obtain⟨a0,r0,rfl,h1⟩:=z2g h0;obtain rfl:=z3d h1;exact⟨_,rfl⟩
theorem z2gx{vs:List (V Un)}(h:vs.map flOf=(fls .rowss).map some):∃x,dec .rowss vs=some x:=by
 have h0:vs.map flOf=([.sl .row]:List Fl).map some:=h;obtain⟨a0,r0,rfl,h1⟩:=z2g h0;obtain rfl:=z3d h1;exact⟨_,rfl⟩
theorem z2jh{vs:List (V Un)}(h:vs.map flOf=(fls .pair).map some):∃x,dec .pair vs=some x:=by
 have h0:vs.map flOf=([.int,.int]:List Fl).map some:=h;obtain⟨a0,r0,rfl,h1⟩:=z25 h0;obtain⟨a1,r1,rfl,h2⟩:=z25 h1;obtain rfl:=z3d h2;exact⟨_,rfl⟩
theorem z2lk{vs:List (V Un)}(h:vs.map flOf=(fls .val).map some):∃x,dec .val vs=some x:=by
 have h0:vs.map flOf=([.int,.int,.str]:List Fl).map some:=h;obtain⟨a0,r0,rfl,h1⟩:=z25 h0;obtain⟨a1,r1,rfl,h2⟩:=z25 h1;obtain⟨a2,r2,rfl,h3⟩:=za1 h2;obtain rfl:=z3d h3;exact⟨_,rfl⟩
theorem z2ll{vs:List (V Un)}(h:vs.map flOf=(fls .col).map some):∃x,dec .col vs=some x:=by
 have h0:vs.map flOf=([.str,.str,.int]:List Fl).map some:=h;obtain⟨a0,r0,rfl,h1⟩:=za1 h0;obtain⟨a1,r1,rfl,h2⟩:=za1 h1;obtain⟨a2,r2,rfl,h3⟩:=z25 h2;obtain rfl:=z3d h3;exact⟨_,rfl⟩
theorem z2lm{vs:List (V Un)}(h:vs.map flOf=(fls .by_).map some):∃x,dec .by_ vs=some x:=by
 have h0:vs.map flOf=([.int,.bool]:List Fl).map some:=h;obtain⟨a0,r0,rfl,h1⟩:=z25 h0;obtain⟨a1,r1,rfl,h2⟩:=z6v h1;obtain rfl:=z3d h2;exact⟨_,rfl⟩
theorem z2gy{vs:List (V Un)}(h:vs.map flOf=(fls .bound).map some):∃x,dec .bound vs=some x:=by
 have h0:vs.map flOf=([.bool,.bool,.sl .val]:List Fl).map some:=h;obtain⟨a0,r0,rfl,h1⟩:=z6v h0;obtain⟨a1,r1,rfl,h2⟩:=z6v h1;obtain⟨a2,r2,rfl,h3⟩:=z2g h2;obtain rfl:=z3d h3;exact⟨_,rfl⟩
theorem z2gz{vs:List (V Un)}(h:vs.map flOf=(fls .often).map some):∃x,dec .often vs=some x:=by
 have h0:vs.map flOf=([.int,.int,.str,.int]:List Fl).map some:=h;obtain⟨a0,r0,rfl,h1⟩:=z25 h0;obtain⟨a1,r1,rfl,h2⟩:=z25 h1;obtain⟨a2,r2,rfl,h3⟩:=za1 h2;obtain⟨a3,r3,rfl,h4⟩:=z25 h3;obtain rfl:=z3d h4;exact⟨_,rfl⟩
theorem z28c{vs:List (V Un)}(h:vs.map flOf=(fls .colStat).map some):∃x,dec .colStat vs=some x:=by
 have h0:vs.map flOf=([.int,.int,.sl .val,.sl .often]:List Fl).map some:=h;obtain⟨a0,r0,rfl,h1⟩:=z25 h0;obtain⟨a1,r1,rfl,h2⟩:=z25 h1;obtain⟨a2,r2,rfl,h3⟩:=z2g h2;obtain⟨a3,r3,rfl,h4⟩:=z2g h3;obtain rfl:=z3d h4;exact⟨_,rfl⟩
theorem z2ji{vs:List (V Un)}(h:vs.map flOf=(fls .data).map some):∃x,dec .data vs=some x:=by
 have h0:vs.map flOf=([.str,.sl .row]:List Fl).map some:=h;obtain⟨a0,r0,rfl,h1⟩:=za1 h0;obtain⟨a1,r1,rfl,h2⟩:=z2g h1;obtain rfl:=z3d h2;exact⟨_,rfl⟩
theorem z2ln{vs:List (V Un)}(h:vs.map flOf=(fls .acc).map some):∃x,dec .acc vs=some x:=by
 have h0:vs.map flOf=([.str,.bool,.int,.int,.int,.int,.int,.str,.sl .val]:List Fl).map some:=h;obtain⟨a0,r0,rfl,h1⟩:=za1 h0;obtain⟨a1,r1,rfl,h2⟩:=z6v h1;obtain⟨a2,r2,rfl,h3⟩:=z25 h2;obtain⟨a3,r3,rfl,h4⟩:=z25 h3;obtain⟨a4,r4,rfl,h5⟩:=z25 h4;obtain⟨a5,r5,rfl,h6⟩:=z25 h5;obtain⟨a6,r6,rfl,h7⟩:=z25 h6;obtain⟨a7,r7,rfl,h8⟩:=za1 h7;obtain⟨a8,r8,rfl,h9⟩:=z2g h8;obtain rfl:=z3d h9;exact⟨_,rfl⟩
theorem z2jj{vs:List (V Un)}(h:vs.map flOf=(fls .stat).map some):∃x,dec .stat vs=some x:=by
 have h0:vs.map flOf=([.str,.int,.int,.sl .colStat]:List Fl).map some:=h;obtain⟨a0,r0,rfl,h1⟩:=za1 h0;obtain⟨a1,r1,rfl,h2⟩:=z25 h1;obtain⟨a2,r2,rfl,h3⟩:=z25 h2;obtain⟨a3,r3,rfl,h4⟩:=z2g h3;obtain rfl:=z3d h4;exact⟨_,rfl⟩
theorem z2d0{vs:List (V Un)}(h:vs.map flOf=(fls .column).map some):∃x,dec .column vs=some x:=by
 have h0:vs.map flOf=([.int,.int,.sl .val,.sl .often,.int,.int,.int]:List Fl).map some:=h;obtain⟨a0,r0,rfl,h1⟩:=z25 h0;obtain⟨a1,r1,rfl,h2⟩:=z25 h1;obtain⟨a2,r2,rfl,h3⟩:=z2g h2;obtain⟨a3,r3,rfl,h4⟩:=z2g h3;obtain⟨a4,r4,rfl,h5⟩:=z25 h4;obtain⟨a5,r5,rfl,h6⟩:=z25 h5;obtain⟨a6,r6,rfl,h7⟩:=z25 h6;obtain rfl:=z3d h7;exact⟨_,rfl⟩
theorem z2jk{vs:List (V Un)}(h:vs.map flOf=(fls .term).map some):∃x,dec .term vs=some x:=by
 have h0:vs.map flOf=([.int,.int,.int,.str,.int,.int,.str,.sl .term,.sl .rel,.int]:List Fl).map some:=h;obtain⟨a0,r0,rfl,h1⟩:=z25 h0;obtain⟨a1,r1,rfl,h2⟩:=z25 h1;obtain⟨a2,r2,rfl,h3⟩:=z25 h2;obtain⟨a3,r3,rfl,h4⟩:=za1 h3;obtain⟨a4,r4,rfl,h5⟩:=z25 h4;obtain⟨a5,r5,rfl,h6⟩:=z25 h5;obtain⟨a6,r6,rfl,h7⟩:=za1 h6;obtain⟨a7,r7,rfl,h8⟩:=z2g h7;obtain⟨a8,r8,rfl,h9⟩:=z2g h8;obtain⟨a9,r9,rfl,h10⟩:=z25 h9;obtain rfl:=z3d h10;exact⟨_,rfl⟩
theorem z2lo{vs:List (V Un)}(h:vs.map flOf=(fls .agg).map some):∃x,dec .agg vs=some x:=by
 have h0:vs.map flOf=([.str,.bool,.sl .term]:List Fl).map some:=h;obtain⟨a0,r0,rfl,h1⟩:=za1 h0;obtain⟨a1,r1,rfl,h2⟩:=z6v h1;obtain⟨a2,r2,rfl,h3⟩:=z2g h2;obtain rfl:=z3d h3;exact⟨_,rfl⟩
theorem z2lp{vs:List (V Un)}(h:vs.map flOf=(fls .rel).map some):∃x,dec .rel vs=some x:=by
 have h0:vs.map flOf=([.int,.str,.sl .col,.sl .rel,.sl .term,.sl .agg,.sl .by_,.int,.int,.bool,.sl .row]:List Fl).map some:=h;obtain⟨a0,r0,rfl,h1⟩:=z25 h0;obtain⟨a1,r1,rfl,h2⟩:=za1 h1;obtain⟨a2,r2,rfl,h3⟩:=z2g h2;obtain⟨a3,r3,rfl,h4⟩:=z2g h3;obtain⟨a4,r4,rfl,h5⟩:=z2g h4;obtain⟨a5,r5,rfl,h6⟩:=z2g h5;obtain⟨a6,r6,rfl,h7⟩:=z2g h6;obtain⟨a7,r7,rfl,h8⟩:=z25 h7;obtain⟨a8,r8,rfl,h9⟩:=z25 h8;obtain⟨a9,r9,rfl,h10⟩:=z6v h9;obtain⟨a10,r10,rfl,h11⟩:=z2g h10;obtain rfl:=z3d h11;exact⟨_,rfl⟩
theorem z2jl{vs:List (V Un)}(h:vs.map flOf=(fls .plan).map some):∃x,dec .plan vs=some x:=by
 have h0:vs.map flOf=([.int,.str,.str,.sl .col,.sl .plan,.sl .term,.sl .term,.sl .term,.sl .agg,.sl .by_,.sl .int,.bool,.bool,.sl .val,.bool,.bool,.sl .val,.int,.int,.bool,.sl .row,.int,.int]:List Fl).map some:=h;obtain⟨a0,r0,rfl,h1⟩:=z25 h0;obtain⟨a1,r1,rfl,h2⟩:=za1 h1;obtain⟨a2,r2,rfl,h3⟩:=za1 h2;obtain⟨a3,r3,rfl,h4⟩:=z2g h3;obtain⟨a4,r4,rfl,h5⟩:=z2g h4;obtain⟨a5,r5,rfl,h6⟩:=z2g h5;obtain⟨a6,r6,rfl,h7⟩:=z2g h6;obtain⟨a7,r7,rfl,h8⟩:=z2g h7;obtain⟨a8,r8,rfl,h9⟩:=z2g h8;obtain⟨a9,r9,rfl,h10⟩:=z2g h9;obtain⟨a10,r10,rfl,h11⟩:=z2g h10;obtain⟨a11,r11,rfl,h12⟩:=z6v h11;obtain⟨a12,r12,rfl,h13⟩:=z6v h12;obtain⟨a13,r13,rfl,h14⟩:=z2g h13;obtain⟨a14,r14,rfl,h15⟩:=z6v h14;obtain⟨a15,r15,rfl,h16⟩:=z6v h15;obtain⟨a16,r16,rfl,h17⟩:=z2g h16;obtain⟨a17,r17,rfl,h18⟩:=z25 h17;obtain⟨a18,r18,rfl,h19⟩:=z25 h18;obtain⟨a19,r19,rfl,h20⟩:=z6v h19;obtain⟨a20,r20,rfl,h21⟩:=z2g h20;obtain⟨a21,r21,rfl,h22⟩:=z25 h21;obtain⟨a22,r22,rfl,h23⟩:=z25 h22;obtain rfl:=z3d h23;exact⟨_,rfl⟩
theorem z2jm{vs:List (V Un)}(h:vs.map flOf=(fls .span).map some):∃x,dec .span vs=some x:=by
 have h0:vs.map flOf=([.sl .val,.bool,.bool,.sl .val,.bool,.bool,.sl .val,.int,.sl .term]:List Fl).map some:=h;obtain⟨a0,r0,rfl,h1⟩:=z2g h0;obtain⟨a1,r1,rfl,h2⟩:=z6v h1;obtain⟨a2,r2,rfl,h3⟩:=z6v h2;obtain⟨a3,r3,rfl,h4⟩:=z2g h3;obtain⟨a4,r4,rfl,h5⟩:=z6v h4;obtain⟨a5,r5,rfl,h6⟩:=z6v h5;obtain⟨a6,r6,rfl,h7⟩:=z2g h6;obtain⟨a7,r7,rfl,h8⟩:=z25 h7;obtain⟨a8,r8,rfl,h9⟩:=z2g h8;obtain rfl:=z3d h9;exact⟨_,rfl⟩
theorem z2mx{vs:List (V Un)}(h:vs.map flOf=(fls .u8).map some):∃x,dec .u8 vs=some x:=by
 have h0:vs.map flOf=([.num .u8]:List Fl).map some:=h;obtain⟨a0,r0,rfl,h1⟩:=z2e7 h0;obtain rfl:=z3d h1;exact⟨_,rfl⟩
theorem z2lq{vs:List (V Un)}(h:vs.map flOf=(fls .bol).map some):∃x,dec .bol vs=some x:=by
 have h0:vs.map flOf=([.bool]:List Fl).map some:=h;obtain⟨a0,r0,rfl,h1⟩:=z6v h0;obtain rfl:=z3d h1;exact⟨_,rfl⟩
theorem z2jn{vs:List (V Un)}(h:vs.map flOf=(fls .sign).map some):∃x,dec .sign vs=some x:=by
 have h0:vs.map flOf=([.int,.num .u8]:List Fl).map some:=h;obtain⟨a0,r0,rfl,h1⟩:=z25 h0;obtain⟨a1,r1,rfl,h2⟩:=z2e7 h1;obtain rfl:=z3d h2;exact⟨_,rfl⟩
theorem z2h0{vs:List (V Un)}(h:vs.map flOf=(fls .bunch).map some):∃x,dec .bunch vs=some x:=by
 have h0:vs.map flOf=([.sl .val,.sl .row]:List Fl).map some:=h;obtain⟨a0,r0,rfl,h1⟩:=z2g h0;obtain⟨a1,r1,rfl,h2⟩:=z2g h1;obtain rfl:=z3d h2;exact⟨_,rfl⟩
theorem z2lr{vs:List (V Un)}(h:vs.map flOf=(fls .wld).map some):∃x,dec .wld vs=some x:=by
 have h0:vs.map flOf=([.sl .row,.sl .data]:List Fl).map some:=h;obtain⟨a0,r0,rfl,h1⟩:=z2g h0;obtain⟨a1,r1,rfl,h2⟩:=z2g h1;obtain rfl:=z3d h2;exact⟨_,rfl⟩
theorem z250:z2e9:=by
 intro τ vs h;cases τ with
 |int=>exact z2lh h
 |str=>exact z2li h
 |row=>exact z2lj h
 |ints=>exact z2jf h
 |trms=>exact z2jg h
 |colss=>exact z2gw h
 |rowss=>exact z2gx h
 |pair=>exact z2jh h
 |u8=>exact z2mx h
 |bol=>exact z2lq h
 |val=>exact z2lk h
 |col=>exact z2ll h
 |by_=>exact z2lm h
 |bound=>exact z2gy h
 |often=>exact z2gz h
 |colStat=>exact z28c h
 |data=>exact z2ji h
 |acc=>exact z2ln h
 |stat=>exact z2jj h
 |column=>exact z2d0 h
 |term=>exact z2jk h
 |agg=>exact z2lo h
 |rel=>exact z2lp h
 |plan=>exact z2jl h
 |sign=>exact z2jn h
 |bunch=>exact z2h0 h
 |wld=>exact z2lr h
 |span=>exact z2jm h
theorem z2my:∀(τ:Ty)(x:Den τ),(B.enc τ x).map flOf=(fls τ).map some:=by intro τ x;cases τ<;>rfl
theorem z1cg{x y:Val}(h:B.enc .val x=B.enc .val y):x=y:=by
 cases x;cases y;simp only[B.enc,y1j,V.s.injEq,V.dat.injEq,Value.int.injEq,Value.bool.injEq,Value.string.injEq,heq_eq_eq,true_and,and_true,ci,cb,cs]at h;grind
theorem z2ls{x y:Col}(h:B.enc .col x=B.enc .col y):x=y:=by
 cases x;cases y;simp only[B.enc,y1j,V.s.injEq,V.dat.injEq,Value.int.injEq,Value.bool.injEq,Value.string.injEq,heq_eq_eq,true_and,and_true,ci,cb,cs]at h;grind
theorem z2lt{x y:By}(h:B.enc .by_ x=B.enc .by_ y):x=y:=by
 cases x;cases y;simp only[B.enc,y1j,V.s.injEq,V.dat.injEq,Value.int.injEq,Value.bool.injEq,Value.string.injEq,heq_eq_eq,true_and,and_true,ci,cb,cs]at h;grind
theorem zr9{x y:Bound}(h:B.enc .bound x=B.enc .bound y):x=y:=by
 cases x;cases y;simp only[B.enc,y1j,V.s.injEq,V.dat.injEq,Value.int.injEq,Value.bool.injEq,Value.string.injEq,heq_eq_eq,true_and,and_true,ci,cb,cs]at h;grind
theorem z2h1{x y:Often}(h:B.enc .often x=B.enc .often y):x=y:=by
 cases x;cases y;simp only[B.enc,y1j,V.s.injEq,V.dat.injEq,Value.int.injEq,Value.bool.injEq,Value.string.injEq,heq_eq_eq,true_and,and_true,ci,cb,cs]at h;simp;obtain⟨e0,e1,e2,e3⟩:=h;exact⟨z1cg (by simp_all[B.enc,ci,cb,cs]),e3⟩
theorem z1ga{x y:ColStat}(h:B.enc .colStat x=B.enc .colStat y):x=y:=by
 cases x;cases y;simp only[B.enc,y1j,V.s.injEq,V.dat.injEq,Value.int.injEq,Value.bool.injEq,Value.string.injEq,heq_eq_eq,true_and,and_true,ci,cb,cs]at h;grind
theorem z2jo{x y:Data}(h:B.enc .data x=B.enc .data y):x=y:=by
 cases x;cases y;simp only[B.enc,y1j,V.s.injEq,V.dat.injEq,Value.int.injEq,Value.bool.injEq,Value.string.injEq,heq_eq_eq,true_and,and_true,ci,cb,cs]at h;grind
theorem z2lu{x y:Acc}(h:B.enc .acc x=B.enc .acc y):x=y:=by
 cases x;cases y;simp only[B.enc,y1j,V.s.injEq,V.dat.injEq,Value.int.injEq,Value.bool.injEq,Value.string.injEq,heq_eq_eq,true_and,and_true,ci,cb,cs]at h;simp;obtain⟨e0,e1,e2,e3,e4,e5,e6,e7,e8⟩:=h;exact⟨e0,e1,e2,e3,e4,z1cg (by simp_all[B.enc,ci,cb,cs]),e8⟩
theorem z2jp{x y:Stat}(h:B.enc .stat x=B.enc .stat y):x=y:=by
 cases x;cases y;simp only[B.enc,y1j,V.s.injEq,V.dat.injEq,Value.int.injEq,Value.bool.injEq,Value.string.injEq,heq_eq_eq,true_and,and_true,ci,cb,cs]at h;grind
theorem z2d1{x y:Column}(h:B.enc .column x=B.enc .column y):x=y:=by
 cases x;cases y;simp only[B.enc,y1j,V.s.injEq,V.dat.injEq,Value.int.injEq,Value.bool.injEq,Value.string.injEq,heq_eq_eq,true_and,and_true,ci,cb,cs]at h;simp;obtain⟨e0,e1,e2,e3,e4,e5,e6⟩:=h;exact⟨z1ga (by simp_all[B.enc,ci,cb,cs]),e4,e5,e6⟩
theorem z2jq{x y:Term}(h:B.enc .term x=B.enc .term y):x=y:=by
 cases x;cases y;simp only[B.enc,Term.op_mk,Term.v_mk,Term.depth_mk,Term.at__mk,Term.name_mk,Term.kids_mk,Term.sub_mk,Term.type_mk,y1j,V.s.injEq,V.dat.injEq,Value.int.injEq,Value.bool.injEq,Value.string.injEq,heq_eq_eq,true_and,and_true,ci,cb,cs]at h;simp;obtain⟨e0,e1,e2,e3,e4,e5,e6,e7,e8,e9⟩:=h;exact⟨e0,z1cg (by simp_all[B.enc,ci,cb,cs]),e4,e5,e6,e7,e8,e9⟩
theorem z2lv{x y:Agg}(h:B.enc .agg x=B.enc .agg y):x=y:=by
 cases x;cases y;simp only[B.enc,Agg.name_mk,Agg.distinct_mk,Agg.t_mk,y1j,V.s.injEq,V.dat.injEq,Value.int.injEq,Value.bool.injEq,Value.string.injEq,heq_eq_eq,true_and,and_true,ci,cb,cs]at h;grind
theorem z2lw{x y:Rel}(h:B.enc .rel x=B.enc .rel y):x=y:=by
 cases x;cases y;simp only[B.enc,Rel.op_mk,Rel.table_mk,Rel.cols_mk,Rel.kids_mk,Rel.terms_mk,Rel.aggs_mk,Rel.keys_mk,Rel.limit_mk,Rel.skip_mk,Rel.all_mk,Rel.rows_mk,y1j,V.s.injEq,V.dat.injEq,Value.int.injEq,Value.bool.injEq,Value.string.injEq,heq_eq_eq,true_and,and_true,ci,cb,cs]at h;grind
theorem z2jr{x y:Plan}(h:B.enc .plan x=B.enc .plan y):x=y:=by
 cases x;cases y;simp only[B.enc,Plan.op_mk,Plan.table_mk,Plan.index_mk,Plan.cols_mk,Plan.kids_mk,Plan.terms_mk,Plan.lkeys_mk,Plan.rkeys_mk,Plan.aggs_mk,Plan.keys_mk,Plan.out_mk,Plan.lo_mk,Plan.hi_mk,Plan.limit_mk,Plan.skip_mk,Plan.all_mk,Plan.rows_mk,Plan.est_mk,Plan.cost_mk,y1j,V.s.injEq,V.dat.injEq,Value.int.injEq,Value.bool.injEq,Value.string.injEq,heq_eq_eq,true_and,and_true,ci,cb,cs]at h;simp;obtain⟨e0,e1,e2,e3,e4,e5,e6,e7,e8,e9,e10,e11,e12,e13,e14,e15,e16,e17,e18,e19,e20,e21,e22⟩:=h;exact⟨e0,e1,e2,e3,e4,e5,e6,e7,e8,e9,e10,zr9 (by simp_all[B.enc,ci,cb,cs]),zr9 (by simp_all[B.enc,ci,cb,cs]),e17,e18,e19,e20,e21,e22⟩
theorem z2js{x y:Span}(h:B.enc .span x=B.enc .span y):x=y:=by
 cases x;cases y;simp only[B.enc,y1j,V.s.injEq,V.dat.injEq,Value.int.injEq,Value.bool.injEq,Value.string.injEq,heq_eq_eq,true_and,and_true,ci,cb,cs]at h;simp;obtain⟨e0,e1,e2,e3,e4,e5,e6,e7,e8⟩:=h;exact⟨e0,zr9 (by simp_all[B.enc,ci,cb,cs]),zr9 (by simp_all[B.enc,ci,cb,cs]),e7,e8⟩
theorem z2jt{x y:Sign}(h:B.enc .sign x=B.enc .sign y):x=y:=by
 cases x;cases y;simp only[B.enc,y1j,V.s.injEq,V.dat.injEq,Value.int.injEq,Value.bool.injEq,Value.string.injEq,heq_eq_eq,true_and,and_true,ci,cu8,cb,cs]at h;grind
theorem z2h2{x y:Bunch}(h:B.enc .bunch x=B.enc .bunch y):x=y:=by
 cases x;cases y;simp only[B.enc,y1j,V.s.injEq,V.dat.injEq,Value.int.injEq,Value.bool.injEq,Value.string.injEq,heq_eq_eq,true_and,and_true,ci,cu8,cb,cs]at h;grind
theorem z2lx{x y:Wld}(h:B.enc .wld x=B.enc .wld y):x=y:=by
 cases x;cases y;simp only[B.enc,y1j,V.s.injEq,V.dat.injEq,Value.int.injEq,Value.bool.injEq,Value.string.injEq,heq_eq_eq,true_and,and_true,ci,cu8,cb,cs]at h;grind
theorem z2ly:∀{τ:Ty}{x y:Den τ},B.enc τ x=B.enc τ y→x=y:=by
 intro τ x y h;cases τ with
 |int=>simp_all[B.enc,ci,cs]
 |str=>simp_all[B.enc,ci,cs]
 |row=>simp_all[B.enc,ci,cs]
 |ints=>simp_all[B.enc,ci,cs]
 |trms=>simp_all[B.enc,ci,cs]
 |colss=>simp_all[B.enc,ci,cs]
 |rowss=>simp_all[B.enc,ci,cs]
 |pair=>grind[B.enc,ci]
 |u8=>simp_all[B.enc,cu8]
 |bol=>simp_all[B.enc,cb]
 |val=>exact z1cg h
 |col=>exact z2ls h
 |by_=>exact z2lt h
 |bound=>exact zr9 h
 |often=>exact z2h1 h
 |colStat=>exact z1ga h
 |data=>exact z2jo h
 |acc=>exact z2lu h
 |stat=>exact z2jp h
 |column=>exact z2d1 h
 |term=>exact z2jq h
 |agg=>exact z2lv h
 |rel=>exact z2lw h
 |plan=>exact z2jr h
 |sign=>exact z2jt h
 |bunch=>exact z2h2 h
 |wld=>exact z2lx h
 |span=>exact z2js h
theorem z2mz:∀τ,0<sz τ:=by intro τ;cases τ<;>decide
def byt:Ty→Nat
 | .int=>8
 | .str=>16
 | .row=>24
 | .ints=>24
 | .trms=>24
 | .colss=>24
 | .rowss=>24
 | .pair=>16
 | .u8=>1
 | .bol=>1
 | .sign=>16
 | .bunch=>48
 | .wld=>48
 | .val=>32
 | .col=>40
 | .by_=>16
 | .bound=>32
 | .often=>40
 | .colStat=>64
 | .data=>40
 | .acc=>104
 | .stat=>56
 | .column=>88
 | .term=>128
 | .agg=>48
 | .rel=>192
 | .plan=>360
 | .span=>120
def tl:Option (TI Un)→TI Un
 |some (.sl _ .pair _)=>.oth
 |some x=>x
 |none=>.oth
theorem z2ka{x:TI Un}{e:TypeId}{τ:Ty}{b:Nat}(h:tl (some x)=.sl e τ b):x=.sl e τ b∧τ≠.pair:=by
 cases x with
 |sl e' τ' b'=>
  cases τ'<;>simp[tl]at h<;>(obtain⟨rfl,rfl,rfl⟩:=h;exact⟨rfl,by simp⟩)
 |_=>simp[tl]at h
def tiL(t:TypeId):TI Un:=tl (look t tab)
noncomputable def lay1:TI Un→Bool
 | .sl _ .pair _=>true
 | .sl e τ b=>lay Tryz.prog tiL 8 e==some (fls τ)&&Tryz.prog.cellsOf e==sz τ&&Tryz.prog.bytesOf e==byt τ&&b==byt τ
 |_=>true
theorem z29o{e:TypeId}{τ:Ty}{b:Nat}(h:lay1 (.sl e τ b)=true)(hp:τ≠.pair)   :(lay Tryz.prog tiL 8 e=some (fls τ)∧Tryz.prog.cellsOf e=sz τ)∧Tryz.prog.bytesOf e=byt τ:=by
 cases τ<;>first|exact absurd rfl hp|(simp only[lay1,yn,beq_iff_eq]at h;exact h.1)
noncomputable def layB:Bool:=tab.all fun x=>lay1 x.2
theorem z1x7:layB=true:=by rfl
theorem z2d2{t e:TypeId}{τ:Ty}{b:Nat}(h:tiL t=.sl e τ b):(lay Tryz.prog tiL 8 e=some (fls τ)∧Tryz.prog.cellsOf e=sz τ)∧Tryz.prog.underlying t=some (.slice e):=by
 have hb:=z1x7;unfold layB at hb;rw[y19]at hb;unfold tiL at h;cases hl:look t tab with
 |none=>simp_all[tl]
 |some x=>
  rw[hl]at h;have hm:=hb _ (zjo hl);obtain⟨rfl,hp⟩:=z2ka h;have ht:=(z1zv (fun _=>none) (fun _=>none) (fun _=>none) (fun _=>none) (fun _=>none)).ti t;have hti:(mach (fun _=>none) (fun _=>none) (fun _=>none) (fun _=>none) (fun _=>none)).ti t=.sl e τ b:=by
   simp_all[Mc.ti,mach]
  rw[hti]at ht;exact⟨(z29o hm hp).1,ht.2.1⟩
theorem z2nr{t e:TypeId}{τ:Ty}{b:Nat}(h:tiL t=.sl e τ b):Tryz.prog.bytesOf e=byt τ:=by
 have hb:=z1x7;unfold layB at hb;rw[y19]at hb;unfold tiL at h;cases hl:look t tab with
 |none=>simp_all[tl]
 |some x=>
  rw[hl]at h;have hm:=hb _ (zjo hl);obtain⟨rfl,hp⟩:=z2ka h;exact(z29o hm hp).2
section
variable {H:Type} {enc':TypeId×Value→H} {w:World} {spare:Nat→Bool} {held:Bool} {base:Nat} {r:Reach} {b0:Nat}
theorem z1x8{t:TypeId}{cs:List Value}{d:DataW H}{ps:List MemPlace}{k:Nat}{fl:List Fl}(h:∃n,DataW.trod enc' Tryz.prog w 0 spare held n t cs=some (d,ps))(hl:lay Tryz.prog tiL k t=some fl):
  ∃vs,All2 (VRel En (StA w) w) cs vs∧vs.map flOf=fl.map some∧((∀q∈d.weights Tryz.prog t,q≤reachBytes)→∀v∈vs,VB byt v)∧BKS vs (Rows.uptoBulk d- 1):=by
 obtain⟨n,h⟩:=h;exact z2eb (fun t e τ b ht=>z2nr ht) (fun t e τ b ht=>⟨8,(z2d2 ht).1.1⟩) z250 z2mz (fun t e τ b ht=>(z2d2 ht).1.2) n t cs _ k fl h hl
theorem z2lz{t e:TypeId}{τ:Ty}{b:Nat}(ht:tiL t=.sl e τ b){v:Value}{d:DataW H}{ps:List MemPlace}(hval:Value.okWide Tryz.prog w r b0 t v)(hd:DataW.Trod enc' Tryz.prog w 0 spare held t v d ps):
  ∃l:List (Den τ),DRel Tryz.prog En (StA w) w v (.d (.v (.dat (U:=Un) τ l)))∧((∀q∈d.weights Tryz.prog t,q≤reachBytes)→VB byt (.dat (U:=Un) τ l))∧BKL τ l (Rows.uptoBulk d- 1):=by
 have hu:=(z2d2 ht).2;obtain⟨a,len,cap,rfl⟩:=Go.WideShapes.okWide_slice hu hval;obtain⟨vs,h1,h2,h4,h5⟩:=z1x8 (k:=1) (fl:=[.sl τ]) hd (by simp_all[lay,if_true]);obtain⟨l,rs,rfl,h3⟩:=z2g h2;refine⟨l,h1.1,fun hq=>h4 hq _ y10,?_⟩;cases h5 with
 |cons _ _ a c _ g1 g2 hn=>
  cases g1 with
  |dat _ _ _ g3=>exact g3.mono (by omega)
theorem z29p{t:TypeId}(τ:Ty){fs:Array Field}(hu:Tryz.prog.underlying t=some (.struct fs))(hl:lay Tryz.prog tiL 8 t=some (fls τ)){v:Value}{d:DataW H}{ps:List MemPlace}(hval:Value.okWide Tryz.prog w r b0 t v)(hd:DataW.Trod enc' Tryz.prog w 0 spare held t v d ps):
  ∃x:Den τ,DRel Tryz.prog En (StA w) w v (.d (.agg (B.enc τ x)))∧((∀q∈d.weights Tryz.prog t,q≤reachBytes)→∀c∈B.enc τ x,VB byt c)∧BKS (B.enc τ x) (Rows.uptoBulk d- 1):=by
 obtain⟨cs,rfl,_⟩:=Go.WideShapes.okWide_struct hu hval;obtain⟨vs,h1,h2,h4,h5⟩:=z1x8 hd hl;obtain⟨x,hx⟩:=z250 τ vs h2;refine⟨x,?_⟩;rw[zu8 τ vs x hx];exact⟨⟨cs,rfl,h1⟩,h4,h5⟩
end
def isSl(τ:Ty):TI Un→Bool
 | .sl _ τ' _=>decide (τ'=τ)
 |_=>false
theorem z2n0{t:TypeId}{τ:Ty}(h:isSl τ (tiL t)=true):tiL t=.sl (match tiL t with| .sl e _ _=>e|_=>0) τ (match tiL t with| .sl _ _ b=>b|_=>0):=by
 cases hx:tiL t with
 |sl e τ' b=>
  rw[hx]at h;have:τ'=τ:=of_decide_eq_true h;grind
 |_=>rw[hx]at h;simp[isSl]at h
def isSt:Option TypeDesc→Bool
 |some (.struct _)=>true
 |_=>false
theorem z2h3{t:TypeId}(h:isSt (Tryz.prog.underlying t)=true):∃fs,Tryz.prog.underlying t=some (.struct fs):=by
 unfold isSt at h;grind
theorem z2ns(τ:Ty)(x:Den τ):dS τ (.d (.agg (B.enc τ x)))=some x:=by
 obtain⟨y,hy⟩:=z250 τ (B.enc τ x) (z2my τ x);show dec τ (B.enc τ x)=some x;rw[hy];exact congrArg some (z2ly (zu8 τ _ y hy))
theorem z2h4{f:FuncId}{F:FnC Un}(hok:FnOK f F){args:List (D Un)}{ob:List Prop}(hF:F args=some (ob,[.c (.s (.bool true))],[]))(hob:∀p∈ob,p){w:World}{vs:List Value}(hrel:All2 (DRel Tryz.prog En (StA w) w) vs args)(hld:Laid w:=by exact Laid.none _):
  Calls Tryz.prog f vs.toArray w fun e w'=>e=.returned (.bool true)∧Ext w w':=by
 refine((hok args ob _ [] hF hob).1 w (StA w) vs (fun b o h=>h) hrel hld).mono ?_;rintro e w' ⟨v,rfl,hx,g,-,-,-,hr,-⟩;exact⟨by rw[show v=.bool true from hr.1],hx⟩
end B
end Go.Proofs.YtjfpbchdcbhfgaaGreat
