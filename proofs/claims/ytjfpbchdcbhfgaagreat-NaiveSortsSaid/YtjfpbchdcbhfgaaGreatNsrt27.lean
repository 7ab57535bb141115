/- Part 27 of the proof: Ldelete Lnlim Lbun Snaivb. -/
import Derived.Shelf.SlicesE.Delete
import Derived.Test.YtjfpbchdcbhfgaaGreatNsrt26
namespace Go.Proofs.YtjfpbchdcbhfgaaGreat.B
open Go Go.RowKit Go.Shelf Go.Sort Go.Lib
set_option maxRecDepth 1000000
set_option linter.unusedVariables false
theorem z22e {St:Nat→Nat→Prop} {w:World} {v:Value} {τ:Ty} {xs:List (Den τ)} (h:VRel En St w v (.dat (U:=Un) τ xs)) : ∃ a n c,v=.slice a n c:=by
 rcases h.inv with ⟨_,a,c,rfl⟩ | ⟨b,o,c,cv,rfl,_⟩
 ·exact⟨_,_,_,rfl⟩
 ·exact⟨_,_,_,rfl⟩
abbrev OV : Type:={ v : Value // v.oneCell'=true }
instance : Inhabited OV:=⟨⟨.slice none 0 0,rfl⟩⟩
theorem ObAt.rowsHold {g:G} {w:World} {k ver:Nat} {live:Bool} {xs:List (List Val)} {b off cap:Nat} {cv:Nat→Nat→Value} (hA:ObAt En g w k ⟨ver,.row,xs,some 0,live⟩ b off cap cv) :
  ∃ cl : List OV,cl.length=xs.length∧Holds (fun a:OV=>a.1) w b off cl.toArray∧All2 (fun (a:OV) x=>VRel En g.St w a.1 (.dat (U:=Un) Ty.val x)) cl xs:=by
 have hcl:∀ i (hi:i<xs.length),w.cell? ⟨b,off+i,none⟩=some (cv i 0)∧w.frozen? ⟨b,off+i,none⟩=false∧VRel En g.St w (cv i 0) (.dat (U:=Un) Ty.val xs[i]):=fun i hi=>by
  have hc:=hA.cell i 0 hi (show (0:Nat)<1 from Nat.one_pos)
  have hr:=hA.rel i hi 0 (.dat (U:=Un) Ty.val xs[i]) rfl
  have e:off+i*Un.sz Ty.row+0=off+i:=by show off+i*1+0=off+i;omega
  rw[e] at hc
  exact⟨hc.1,zjn (hc.2.2 (Nat.zero_le _)).2,hr⟩
 have h1:∀ q : Fin xs.length,(cv q.1 0).oneCell'=true:=fun q=>by
  obtain⟨a,n,c,e⟩:=z22e (hcl q.1 q.2).2.2
  rw[e];rfl
 refine⟨(List.finRange xs.length).map fun q=>⟨cv q.1 0,h1 q⟩,by simp,fun j hj=>?_,All2.of_get (by simp) fun i a x ha hx=>?_⟩
 ·have hj':j<xs.length:=by simpa using hj
  rw[getElem!_pos _ j hj]
  have:=hcl j hj'
  simp only[List.getElem_toArray,List.getElem_map,List.getElem_finRange]
  exact⟨this.1,this.2.1⟩
 ·have hi:i<xs.length:=(List.getElem?_eq_some_iff.1 hx).1
  rw[List.getElem?_map,List.getElem?_eq_getElem (by simpa using hi)] at ha
  simp only[Option.map_some,Option.some.injEq,List.getElem_finRange] at ha
  subst ha
  rw[List.getElem?_eq_getElem hi] at hx
  obtain rfl:=Option.some.inj hx
  exact (hcl i hi).2.2
set_option maxHeartbeats 4000000 in
theorem z1x3 {ρ:Ren} (L:SlLaysE.n45 Tryz.prog ρ) (v23:∀ w,(zeroValue (ρ.t 23)).run Tryz.prog w=.ok (.slice none 0 0) w) (i0:TypeInfo) (hi0:Tryz.prog.info? (ρ.t 23)=some i0) (hz1:i0.size=1) (blk off cap i j:Nat) (d:Array OV) (w:World) (hH:Holds (fun a:OV=>a.1) w blk off d) (hcap:d.size≤cap) (hlt:i<j) (hj:j≤d.size) :
  Calls Tryz.prog (ρ.f 45) #[.slice (some ⟨blk,off,none⟩) d.size cap,.int .i64 i,.int .i64 j] w fun e w'=>e=.returned (.slice (some ⟨blk,off,none⟩) (d.size - (j - i)) cap)∧∃ q,w'=putRow (fun a:OV=>a.1) (Sort.ahead w q) blk off (d.toList.take i++d.toList.drop j++List.replicate (j - i) default).toArray:=by
 have mixed:=L.mixed;have t0:=L.t0;have a0:=L.a0;have z0:=L.z0;have v0:=L.v0;have t3:=L.t3;have a3:=L.a3;have z3:=L.z3;have v3:=L.v3;have t4:=L.t4;have a4:=L.a4;have z4:=L.z4;have v4:=L.v4;have t22:=L.t22;have a22:=L.a22;have z22:=L.z22;have v22:=L.v22;have a23:=L.a23;have z23:=L.z23
 obtain⟨ec,hec⟩ : ∃ ec : OV→Value,ec=fun a : OV=>a.1:=⟨_,rfl⟩
 have h1:OneCell ec:=by rw[hec];exact fun a=>a.2
 have hdf:ec default=.slice none 0 0:=by rw[hec];rfl
 rw[← hec] at hH ⊢
 rw[← hdf] at v23
 obtain⟨news,hnews⟩ : ∃ news,news=(d.toList.drop j).map ec:=⟨_,rfl⟩
 have hlen:news.length=d.size - j:=by rw[hnews];simp
 have hget:∀ t,t<d.size - j→news[t]? = some (ec d[j+t]!):=by
  intro t ht
  rw[hnews,List.getElem?_map,List.getElem?_drop,Array.getElem?_toList,getElem!_pos d (j+t) (by omega),Array.getElem?_eq_getElem (by omega)]
  rfl
 obtain⟨A,hA,hsrc⟩ : ∃ A : Addr,(if cap=j then some (⟨blk,off,none⟩ : Addr) else some ⟨blk,off+j,none⟩)=some A∧Hid (∀ t u,news[t]? = some u→w.drew.cell? (A.add t)=some u):=by
  by_cases h : cap=j
  ·refine⟨⟨blk,off,none⟩,by simp [h],fun t u hu=>?_⟩
   have h0:news.length=0:=by rw[hlen];omega
   rw[List.length_eq_zero_iff.1 h0] at hu
   simp at hu
  ·refine⟨⟨blk,off+j,none⟩,by simp [h],fun t u hu=>?_⟩
   have ht:t<d.size - j:=by
    have:=(List.getElem?_eq_some_iff.1 hu).1
    rwa [hlen] at this
   rw[hget t ht] at hu
   rw[Addr.add_lit,show off+j+t=off+(j+t) by omega]
   exact (hH (j+t) (by omega)).1.trans hu
 have s1:Hid (news.length=(d.size - j)*1):=by rw[Nat.mul_one];exact hlen
 have s2:Hid (∀ u∈news,u.oneCell'=true):=by
  intro u hu
  rw[hnews] at hu
  obtain⟨x,_,rfl⟩:=List.mem_map.1 hu
  exact h1 x
 have s3:Hid (∀ t,t<news.length→(w.drew.cell? ⟨blk,off+i*1+t,none⟩).isSome=true∧w.drew.frozen? ⟨blk,off+i*1+t,none⟩=false):=by
  intro t ht
  rw[hlen] at ht
  rw[Nat.mul_one,Nat.add_assoc]
  exact⟨by show (w.cell? _).isSome=true;rw[(hH (i+t) (by omega)).1];rfl,(hH (i+t) (by omega)).2⟩
 obtain⟨W1,hW1⟩ : ∃ W1,W1=w.drew.setCells blk (off+i*1) news:=⟨_,rfl⟩
 have hW1':W1=putRow ec (Sort.ahead w 1) blk off (Go.Lib.lay d i (d.toList.drop j)):=by
  rw[hW1,hnews,Nat.mul_one,← putRow_setCells ec (Sort.ahead w 1) blk off _ d i (by simp;omega),putRow_self ec (Sort.ahead w 1) blk off d (holds_ahead ec w 1 blk off d hH)]
  rfl
 have hH1:Holds ec W1 blk off (Go.Lib.lay d i (d.toList.drop j)):=by rw[hW1'];exact holds_putRow ec _ blk off d _ (holds_ahead ec w 1 blk off d hH) (lay_size _ _ _)
 have hcl:∀ ty,(Builtin.clear_ #[ρ.t 22] ty #[.slice (some ⟨blk,off+(i+(d.size - j)),none⟩) (d.size - (i+(d.size - j))) (cap - (i+(d.size - j)))]).run Tryz.prog W1=.ok (.tuple #[]) (W1.setCells blk (off+(i+(d.size - j))) (List.replicate (d.size - (i+(d.size - j))) (ec default))) :=
  fun ty=>Lib.run_clear_slice W1 _ _ ty _ t22 v23 (h1.cells default) (h1 default) blk (off+(i+(d.size - j))) _ _ (by omega) (fun t ht=>by rw[show off+(i+(d.size - j))+t=off+(i+(d.size - j)+t) by omega,(hH1 _ (by rw[lay_size];omega)).1];rfl) (fun t ht=>by rw[show off+(i+(d.size - j))+t=off+(i+(d.size - j)+t) by omega];exact (hH1 _ (by rw[lay_size];omega)).2)
 have X:Aside (W1=putRow ec (Sort.ahead w 1) blk off (Go.Lib.lay d i (d.toList.drop j))):=hW1'
 have hW:Hid (W1=w.drew.setCells blk (off+i*1) news):=hW1
 have hic:i≤cap:=by omega
 have hjc:j≤cap:=by omega
 clear hW1 hW1' hH1 hH hget hnews hlen hec hdf
 obtain⟨_,_,FG⟩:=L.f45
 go_enter FG,SlBodyN.n45_ntmps ρ
 go_wp2_with fail
 go_region_law_o (refine step_append_room rfl (.tmp 22) (.tmp 25) (ρ.t 22) rfl (ρ.t 23) i0 1 t22 hi0 hz1 blk off i cap (by simp [Act.eval,Act.put]) A (d.size - j) (cap - j) news (by simp [Act.eval,Act.put]) s1.out hsrc.out s2.out (by omega) s3.out ?_;rw[← hW.out])
 go_wp2
 go_ret
 refine⟨by rw[show d.size - (j - i)=i+(d.size - j) by omega];rfl,1,?_⟩
 rw[← delete_arr d i j default (by omega) hj,← putRow_setCells ec _ blk off _ _ (i+(d.size - j)) (by rw[lay_size];simp;omega),← X.out,List.map_replicate,show d.size - (i+(d.size - j))=j - i by omega]
def z1e5 : Ren:=⟨fun | 45=>144 | n=>n,fun | 0=>0 | 3=>3 | 4=>4 | 22=>27 | 23=>57 | n=>n,fun | n=>n⟩
theorem z1a5 : SlLaysE.n45 Tryz.prog z1e5:={
  mixed:=by kernel_rfl
  f45:=⟨Tryz.f144.name,by kernel_rfl,Tryz.func144.trans (congrArg some (by kernel_rfl))⟩
  t0:=Tryz.underlying0
  a0:=Tryz.isAgg0
  z0:=Tryz.sizeOf0
  v0:=Tryz.zeroValue0
  t3:=Tryz.underlying3
  a3:=Tryz.isAgg3
  z3:=Tryz.sizeOf3
  v3:=Tryz.zeroValue3
  t4:=Tryz.underlying4
  a4:=Tryz.isAgg4
  z4:=Tryz.sizeOf4
  v4:=Tryz.zeroValue4
  t22:=Tryz.underlying27
  a22:=Tryz.isAgg27
  z22:=Tryz.sizeOf27
  v22:=Tryz.zeroValue27
  a23:=Tryz.isAgg57
  z23:=Tryz.sizeOf57 }
def zgx : List Bool×FnG Un:=([true],fun args bxs os=>match args,bxs,os with
 | [.c (.ob 0 0),x1,x2],[],[o]=>(oM .row o).bind fun xs=>(aI .i64 x1).bind fun i=>(aI .i64 x2).bind fun j=>some ([0≤i∧i<j∧j≤(xs.length:Int)],[.c (.ob 0 0)],[],[⟨0,.row,xs.take i.toNat++xs.drop j.toNat,some 0,true⟩])
 | _,_,_=>none)
theorem z1e6 : GnOK 144 zgx:=by
 intro args bxs obs ob rs bxs' obs' h hob
 unfold zgx at h
 dsimp only at h
 split at h
 ·rename_i x1 x2 o
  simp only[Option.bind_eq_some_iff,Option.some.injEq,Prod.mk.injEq] at h
  obtain⟨xs,e0,i,e1,j,e2,rfl,rfl,rfl,rfl⟩:=h
  obtain rfl:=z1ne e0
  obtain rfl:=z1bd e1
  obtain rfl:=z1bd e2
  obtain⟨hi0,hij,hj⟩:=hob _ (List.mem_singleton.2 rfl)
  refine⟨?_,zb Tryz.func144 (by kernel_rfl) (by kernel_rfl)⟩
  obtain⟨i,rfl⟩ : ∃ k : Nat,i=k:=⟨i.toNat,(Int.toNat_of_nonneg hi0).symm⟩
  obtain⟨j,rfl⟩ : ∃ k : Nat,j=k:=⟨j.toNat,(Int.toNat_of_nonneg (by omega)).symm⟩
  rw[Int.toNat_natCast,Int.toNat_natCast]
  intro w g vals hp hvals
  match vals,hvals with
  | [v0,v1,v2],⟨h0,h1,h2,_⟩ =>
   obtain⟨_,o',ho',_,hv⟩:=h0
   simp at ho';subst ho'
   have hv:v0=.slice (g.tk 0).1 xs.length (g.tk 0).2:=hv rfl
   subst hv
   obtain rfl : v1=.int .i64 i:=h1.1
   obtain rfl : v2=.int .i64 j:=h2.1
   obtain⟨hO,_⟩:=hp.obs 0 _ rfl
   have hpos:0<xs.length:=by omega
   have hne:xs≠[]:=List.length_pos_iff.1 hpos
   obtain⟨b,off,htk,hcap,hA⟩:=hO.open1 hne
   have hmax:xs.length≤9223372036854775807:=hO.1.1.2
   have hb:b<w.heap.size:=z6l (hA.cell 0 0 hpos (show (0:Nat)<1 from Nat.one_pos)).1
   have h0:(g.tk 0).1=some ⟨b,off,none⟩:=by rw[htk]
   have hmine:∀ x,x<(g.tk 0).2→g.ω b (off+x)=some (.obj 0):=fun x hx=>by
    rcases Nat.lt_or_ge x xs.length with g1 | g1
    ·have hc:=(hA.cell x 0 g1 (show (0:Nat)<1 from Nat.one_pos)).2.2 (Nat.zero_le _)
     have e:off+x*Un.sz Ty.row+0=off+x:=by show off+x*1+0=off+x;omega
     rw[e] at hc
     exact hc.1
    ·exact (hA.spare rfl x (by show xs.length*1≤x;omega) (by show x<_*1;omega)).1
   obtain⟨cl,hcl,hH,hR⟩:=hA.rowsHold
   obtain⟨bytes,i0,z,_,_,_,_,hi2,hi3,_⟩:=slOf (t:=27) (e:=57) (τ:=.row) (by kernel_rfl)
   rw[h0]
   have hsz:cl.toArray.size=xs.length:=by simp [hcl]
   rw[← hsz]
   refine (z1x3 z1a5 Tryz.zeroValue57 i0 hi2 hi3 b off (g.tk 0).2 i j cl.toArray w hH (by omega) (by omega) (by omega)).mono ?_
   rintro e w' ⟨rfl,q,rfl⟩
   obtain⟨us,hus⟩ : ∃ us : List OV,us=cl.take i++cl.drop j++List.replicate (j - i) default:=⟨_,rfl⟩
   have hul:us.length=xs.length:=by rw[hus];simp [hcl];omega
   have hp2:=z1ul (n:=q) (os:=#[]) hb hH (d:=us.toArray) (by simp [hul,hcl])
   rw[grow_empty] at hp2
   have e1:(cl.toArray.toList.take i++cl.toArray.toList.drop j++List.replicate (j - i) default).toArray=us.toArray:=by rw[hus]
   rw[e1]
   generalize putRow (fun a:OV=>a.1) (Sort.ahead w q) b off us.toArray=w' at hp2 ⊢
   have hyl:(xs.take i++xs.drop j).length=xs.length - (j - i):=by simp only[List.length_append,List.length_take,List.length_drop];omega
   have hRy:All2 (fun (a:OV) x=>VRel En g.St w a.1 (.dat (U:=Un) Ty.val x)) (cl.take i++cl.drop j) (xs.take i++xs.drop j):=All2.append (All2.take i hR) (All2.drop j hR)
   have e2:(us.toArray.toList.map fun a : OV=>a.1)=us.map fun a : OV=>a.1:=by simp
   rw[e2] at hp2
   have hul2:(us.map fun a : OV=>a.1).length=xs.length:=by rw[List.length_map,hul]
   obtain⟨r1,r2⟩:=ObRel.put (w':=w') (ys:=xs.take i++xs.drop j) (τ:=.row) rfl htk hb hp.own hA hp2 hul2 (by omega) hcap hmax (fun t ht d hd=>by
    have hd':some (V.dat (U:=Un) Ty.val (xs.take i++xs.drop j)[t])=some d:=hd
    cases hd'
    obtain⟨a,ha,hr⟩:=All2.get (l:=cl.take i++cl.drop j) t hRy (List.getElem?_eq_getElem ht)
    refine⟨a.1,?_,hr⟩
    rw[List.getElem?_map,hus,List.getElem?_append_left (List.getElem?_eq_some_iff.1 ha).1,ha];rfl)
   have hnl:∀ b o,LB b=true→¬ g.mine b o:=fun b o hb ⟨y,hy,e⟩=>hy (hp.nlb b o y hb e)
   have hfx:FExt ⟨w,g.mine,g.St,0,g.β⟩ w':=FExt.put (fr:=⟨w,g.mine,g.St,0,g.β⟩) hp2 (fun t ht=>⟨_,by simp,hmine t (by omega)⟩) (by omega) hp.laid hnl
   refine⟨_,rfl,g,hfx,⟨fun k fz cells hk'=>by simp at hk',hp.lbs,fun k o ho=>?_,fun b' o x hx=>Nat.lt_of_lt_of_le (hp.own b' o x hx) hp2.size,hfx.laid,hp.nlb⟩,fun _ _=>rfl,fun b' o x _ hx=>?_,?_⟩
   ·cases k with
    | zero=>simp at ho;subst ho;exact⟨r1,rfl⟩
    | succ k=>simp at ho
   ·cases x with
    | st=>exact .inr ⟨rfl,hx⟩
    | box k=>exact .inl ⟨_,by simp,hx⟩
    | obj k=>exact .inl ⟨_,by simp,hx⟩
   ·refine⟨rfl,_,rfl,Nat.le_refl _,fun _=>?_⟩
    show Value.slice _ _ _=Value.slice (g.tk 0).1 (xs.take i++xs.drop j).length (g.tk 0).2
    rw[h0,hyl,hsz]
 ·simp at h
end Go.Proofs.YtjfpbchdcbhfgaaGreat.B
namespace Go.Proofs.YtjfpbchdcbhfgaaGreat.B
open Go Go.RowKit Go.Shelf
set_option maxRecDepth 1000000
set_option linter.unusedVariables false
noncomputable section
set_option maxHeartbeats 4000000 in
theorem z1r0 (b off n c k:Nat) (limit skip:Int) (w:World) (hnc:n≤c) (hn:n≤100000000) (hk:k=(min skip n).toNat) (hl:WI limit) (hs:WI skip) :
  Calls Tryz.prog 94 #[.slice (some ⟨b,off,none⟩) n c,.int .i64 limit,.int .i64 skip] w fun e w'=>e=.returned (.slice (some ⟨b,if c=k then off else off+k,none⟩) (if 0≤limit∧limit<((n - k:Nat):Int) then limit.toNat else n - k) (c - k))∧w'=w:=by
 have mixed:Tryz.prog.follows .mixedOrders=true:=by kernel_rfl
 have hkn:k≤n:=by omega
 have hmx:(max 0 (min skip (n:Int))).toNat=k:=by omega
 clear hk
 go_enter Tryz.func94,Tryz.ntmps94
 go_wp2
 all_goals (go_ret;exact⟨rfl,rfl⟩)
set_option maxHeartbeats 4000000 in
theorem z1ta (a:Option Addr) (limit skip:Int) (w:World) (hl:WI limit) (hs:WI skip) :
  Calls Tryz.prog 94 #[.slice a 0 0,.int .i64 limit,.int .i64 skip] w fun e w'=>e=.returned (.slice a 0 0)∧w'=w:=by
 have mixed:Tryz.prog.follows .mixedOrders=true:=by kernel_rfl
 have hmx:(max 0 (min skip (0:Int))).toNat=0:=by omega
 have hmy:max 0 (min skip (0:Int))=0:=by omega
 cases a with
 | none =>
  go_enter Tryz.func94,Tryz.ntmps94
  go_wp2
  all_goals (go_ret;exact⟨rfl,rfl⟩)
 | some p =>
  go_enter Tryz.func94,Tryz.ntmps94
  go_wp2
  all_goals (go_ret;exact⟨rfl,rfl⟩)
theorem z12z (xs:Rows) (limit skip:Int) : z2v xs limit skip=(xs.drop (min skip xs.length).toNat).take (if 0≤limit∧limit<((xs.length - (min skip xs.length).toNat:Nat):Int) then limit.toNat else xs.length - (min skip xs.length).toNat):=by
 unfold z2v
 rw[List.length_drop]
 split
 ·rfl
 ·rw[List.take_of_length_le (by rw[List.length_drop];exact Nat.le_refl _)]
theorem ObRel.part {g:G} {w:World} {xs:Rows} {b off c k m:Nat} (htk:g.tk 0=(some ⟨b,off,none⟩,c)) (hO:ObRel En g w 0 ⟨0,.row,xs,some 0,true⟩) (hk:k≤xs.length) (hm:m≤xs.length - k) :
  ObRel En { g with tk:=fun q=>if q=0 then (some ⟨b,if c=k then off else off+k,none⟩,c - k) else g.tk q } w 0 ⟨0,.row,(xs.drop k).take m,some 0,true⟩:=by
 obtain⟨⟨⟨hcap,hmax⟩,_⟩,hrow⟩:=hO
 have hcap':xs.length≤c:=by rw[htk] at hcap;exact hcap
 have hmax':xs.length≤9223372036854775807:=hmax
 have hlen:((xs.drop k).take m).length=m:=by rw[List.length_take,List.length_drop];omega
 refine⟨⟨⟨by show ((xs.drop k).take m).length≤c - k;omega,by show ((xs.drop k).take m).length≤_;omega⟩,fun f hf=>by simp at hf;subst hf;exact Nat.zero_le _⟩,fun hc=>?_⟩
 have hc':0<c - k:=hc
 obtain⟨b',off',cv,hbase,hA⟩:=hrow (by rw[htk];show 0<c;omega)
 rw[htk] at hbase hA
 have hbase':some (⟨b,off,none⟩ : Addr)=some ⟨b',off',none⟩:=hbase
 simp only[Option.some.injEq,Addr.mk.injEq,and_true] at hbase'
 obtain⟨rfl,rfl⟩:=hbase'
 refine⟨b,off+k,fun i j=>cv (k+i) j,by show (some (⟨b,if c=k then off else off+k,none⟩ : Addr))=_;rw[if_neg (by omega)],⟨fun i j hi hj=>?_,fun i hi j d hd=>?_,fun hl x hx hx'=>?_⟩⟩
 ·have hi':i<((xs.drop k).take m).length:=hi
  have:=hA.cell (k+i) j (show k+i<xs.length by omega) hj
  have e:off+k+i*Un.sz Ty.row+j=off+(k+i)*Un.sz Ty.row+j:=by show off+k+i*1+j=off+(k+i)*1+j;omega
  show w.cell? ⟨b,off+k+i*Un.sz Ty.row+j,none⟩=_∧_
  rw[e]
  exact⟨this.1,fun h=>absurd h (Nat.not_lt_zero _),fun _=>this.2.2 (Nat.zero_le _)⟩
 ·have hi':i<((xs.drop k).take m).length:=hi
  refine hA.rel (k+i) (show k+i<xs.length by omega) j d ?_
  have e:(xs[k+i]'(by omega))=((xs.drop k).take m)[i]'hi':=by simp
  rw[show ((⟨0,Ty.row,xs,some 0,true⟩ : Ob Un).xs[k+i]'(show k+i<xs.length by omega))=((xs.drop k).take m)[i]'hi' from e]
  exact hd
 ·have hx1:((xs.drop k).take m).length*1≤x:=hx
  have hx2:x<(c - k)*1:=hx'
  have e:off+k+x=off+(k+x):=by omega
  rw[e]
  rcases Nat.lt_or_ge (k+x) xs.length with g1 | g1
  ·have hc:=hA.cell (k+x) 0 g1 (show (0:Nat)<1 from Nat.one_pos)
   have e:off+(k+x)*Un.sz Ty.row+0=off+(k+x):=by show off+(k+x)*1+0=_;omega
   rw[e] at hc
   exact⟨(hc.2.2 (Nat.zero_le _)).1,⟨_,hc.1⟩,(hc.2.2 (Nat.zero_le _)).2⟩
  ·exact hA.spare rfl (k+x) (show xs.length*1≤k+x by omega) (show k+x<c*1 by omega)
def zds : List Bool×FnG Un:=([true],fun args bxs os=>match args,bxs,os with
 | [.c (.ob 0 0),x1,x2],[],[o]=>(oM .row o).bind fun xs=>(aI .i64 x1).bind fun i=>(aI .i64 x2).bind fun j=>some ([xs.length≤100000000],[.c (.ob 0 0)],[],[⟨0,.row,z2v xs i j,some 0,true⟩])
 | _,_,_=>none)
theorem z14y : GnOK 94 zds:=by
 intro args bxs obs ob rs bxs' obs' h hob
 unfold zds at h
 dsimp only at h
 split at h
 ·rename_i x1 x2 o
  simp only[Option.bind_eq_some_iff,Option.some.injEq,Prod.mk.injEq] at h
  obtain⟨xs,e0,limit,e1,skip,e2,rfl,rfl,rfl,rfl⟩:=h
  obtain rfl:=z1ne e0
  obtain rfl:=z1bd e1
  obtain rfl:=z1bd e2
  have hlen:xs.length≤100000000:=hob _ (List.mem_singleton.2 rfl)
  refine⟨?_,zb Tryz.func94 (by kernel_rfl) (by kernel_rfl)⟩
  intro w g vals hp hvals
  match vals,hvals with
  | [v0,v1,v2],⟨h0,h1,h2,_⟩ =>
   obtain⟨_,o',ho',_,hv⟩:=h0
   simp at ho';subst ho'
   have hv:v0=.slice (g.tk 0).1 xs.length (g.tk 0).2:=hv rfl
   subst hv
   have w1:WI limit:=by have:=h1.2;unfold oneC at this;exact of_decide_eq_true this
   have w2:WI skip:=by have:=h2.2;unfold oneC at this;exact of_decide_eq_true this
   obtain rfl : v1=.int .i64 limit:=h1.1
   obtain rfl : v2=.int .i64 skip:=h2.1
   obtain⟨hO,_⟩:=hp.obs 0 _ rfl
   have hcap:xs.length≤(g.tk 0).2:=hO.1.1.1
   have hnl:∀ b o,LB b=true→¬ g.mine b o:=fun b o hb ⟨y,hy,e⟩=>hy (hp.nlb b o y hb e)
   have hfx:FExt ⟨w,g.mine,g.St,0,g.β⟩ w:=⟨rfl,rfl,rfl,Nat.le_refl _,fun _ _ _=>rfl,fun _ _ _ _=>rfl,fun _ _ _ _=>rfl,hp.laid,fun b hb=>hp.laid.lt b hb,hnl⟩
   by_cases hc : (g.tk 0).2=0
   ·have hx:xs=[]:=List.eq_nil_of_length_eq_zero (by omega)
    subst hx
    have hn:z2v [] limit skip=[]:=by rw[z12z];simp
    rw[hn,hc]
    refine (z1ta (g.tk 0).1 limit skip w w1 w2).mono ?_
    rintro e w' ⟨rfl,rfl⟩
    refine⟨_,rfl,g,hfx,hp,fun _ _=>rfl,fun b o x _ hx=>?_,?_⟩
    ·cases x with
     | st=>exact .inr ⟨rfl,hx⟩
     | box k=>exact .inl ⟨_,by simp,hx⟩
     | obj k=>exact .inl ⟨_,by simp,hx⟩
    ·exact⟨rfl,_,rfl,Nat.le_refl _,fun _=>by rw[hc];rfl⟩
   ·obtain⟨b,off,cv,hbase,_⟩:=hO.2 (by omega)
    obtain⟨c,hcc⟩ : ∃ c,c=(g.tk 0).2:=⟨_,rfl⟩
    have htk:g.tk 0=(some ⟨b,off,none⟩,c):=by rw[hcc,← hbase]
    rw[← hcc] at hc hcap
    rw[htk]
    obtain⟨k,hk⟩ : ∃ k,k=(min skip xs.length).toNat:=⟨_,rfl⟩
    obtain⟨m,hm⟩ : ∃ m,m=(if 0≤limit∧limit<((xs.length - k:Nat):Int) then limit.toNat else xs.length - k):=⟨_,rfl⟩
    have hkn:k≤xs.length:=by omega
    have hmn:m≤xs.length - k:=by rw[hm];split<;>omega
    have hnl2:z2v xs limit skip=(xs.drop k).take m:=by rw[z12z,hm,hk]
    have hln:((xs.drop k).take m).length=m:=by rw[List.length_take,List.length_drop];omega
    rw[hnl2]
    have hO2:=ObRel.part htk hO hkn hmn
    refine (z1r0 b off xs.length c k limit skip w hcap hlen hk w1 w2).mono ?_
    rintro e w' ⟨rfl,rfl⟩
    rw[← hm]
    obtain⟨g',hg'⟩ : ∃ g' : G,g'={ g with tk:=fun q=>if q=0 then (some ⟨b,if c=k then off else off+k,none⟩,c - k) else g.tk q }:=⟨_,rfl⟩
    rw[← hg'] at hO2
    have hω:g'.ω=g.ω:=by rw[hg']
    have hlb:g'.lb=g.lb:=by rw[hg']
    have hβ:g'.β=g.β:=by rw[hg']
    have ht0:g'.tk 0=(some ⟨b,if c=k then off else off+k,none⟩,c - k):=by rw[hg'];rfl
    refine⟨_,rfl,g',hfx,⟨fun k fz cells hk'=>by simp at hk',fun q hq=>hp.lbs q (by rw[← hlb];exact hq),fun q o ho=>?_,fun b' o x hx=>hp.own b' o x (by rw[← hω];exact hx),hp.laid,fun b' o x hl hx=>hp.nlb b' o x hl (by rw[← hω];exact hx)⟩,fun q _=>by rw[hβ],fun b' o x _ hx=>?_,?_⟩
    ·cases q with
     | zero=>simp at ho;subst ho;exact⟨hO2,rfl⟩
     | succ q=>simp at ho
    ·rw[hω] at hx
     cases x with
     | st=>exact .inr ⟨rfl,hx⟩
     | box k=>exact .inl ⟨_,by simp,hx⟩
     | obj k=>exact .inl ⟨_,by simp,hx⟩
    ·refine⟨rfl,_,rfl,Nat.le_refl _,fun _=>?_⟩
     show Value.slice _ _ _=Value.slice (g'.tk 0).1 ((xs.drop k).take m).length (g'.tk 0).2
     rw[ht0,hln]
 ·simp at h
end
end Go.Proofs.YtjfpbchdcbhfgaaGreat.B
namespace Go.Proofs.YtjfpbchdcbhfgaaGreat.B
open Go Go.RowKit
set_option linter.unusedVariables false
set_option maxRecDepth 100000
theorem z23w {α:Type} {l:List α} {a:Nat} {d:α} (h:a<l.length) : l[a]? = some (l.getD a d):=by rw[List.getD_eq_getElem?_getD,List.getElem?_eq_getElem h];rfl
def StB (St:Nat→Nat→Prop) (w W:World) (v:Value) (cs:List Value) (b o:Nat) : Prop :=
 (b<w.heap.size∧St b o)∨(w.heap.size≤b∧b<W.heap.size∧v.ownBlock≠some b∧∀ j u,cs[j*2+1]? = some u→u.ownBlock≠some b)
def lenZ (z:List Value) : Nat×List Value:=(z.length,z)
structure BN (St:Nat→Nat→Prop) (w W:World) (v:Value) (cs:List Value) (bs:List Bunch) (zs:List (List Value)) : Prop where
 ext : Ext w W
 len : zs.length=bs.length
 nest : Nest W w.heap.size 160 57 2 1 1 v cs (zs.map lenZ)
 key : ∀ j,j<bs.length→∃ u,cs[j*2]? = some u∧VRel En (StB St w W v cs) W u (.dat (U:=Un) Ty.val (bs.getD j zl).key)
 row : ∀ j,j<bs.length→All2 (fun u x=>VRel En (StB St w W v cs) W u (.dat (U:=Un) Ty.val x)) (zs.getD j []) (bs.getD j zl).rows
section
variable {St:Nat→Nat→Prop} {w W W':World} {v:Value} {cs:List Value} {bs:List Bunch} {zs:List (List Value)}
theorem BN.start (hbd:∀ b o,St b o→b<w.heap.size) (h:Ext w W) : BN St w W (.slice none 0 0) [] [] [] :=
 ⟨h,rfl,Nest.nil _ _ _ _ _ _ _,fun j hj=>absurd hj (Nat.not_lt_zero _),fun j hj=>absurd hj (Nat.not_lt_zero _)⟩
theorem BN.low (h:BN St w W v cs bs zs) : ∀ g,v.ownBlock=some g→w.heap.size≤g∧g<W.heap.size:=fun g hg=>h.nest.outer.lt g hg
theorem BN.inner (h:BN St w W v cs bs zs) {j:Nat} {u:Value} (hu:cs[j*2+1]? = some u) : (∀ g,u.ownBlock=some g→w.heap.size≤g∧g<W.heap.size)∧(u.ownBlock=none∨u.ownBlock≠v.ownBlock):=by
 have hl:(zs.map lenZ).length=zs.length:=by simp
 have hcl:cs.length=zs.length*2:=by have:=h.nest.outer.1;rw[hl] at this;exact this
 have hj:j<zs.length:=by have:=(List.getElem?_eq_some_iff.1 hu).1;omega
 obtain⟨x,h1,h2,h3⟩:=h.nest.inner j (zs[j]).length zs[j] (by rw[List.getElem?_map,List.getElem?_eq_getElem hj];rfl)
 rw[hu] at h1
 obtain rfl:=Option.some.inj h1
 exact⟨fun g hg=>h2.lt g hg,h3⟩
theorem StB.lt (hx:Ext w W) {b o:Nat} (h:StB St w W v cs b o) : b<W.heap.size:=by
 rcases h with ⟨h1,_⟩ | ⟨_,h1,_⟩
 ·exact Nat.lt_of_lt_of_le h1 hx.le
 ·exact h1
theorem StB.keep (h:Ext w W) (hx:Ext W W') : Keeps (StB St w W v cs) W (StB St w W' v cs) W':=fun b o hs=>by
 refine⟨?_,hx.cell (p:=⟨b,o,none⟩) (StB.lt h hs)⟩
 rcases hs with hs | ⟨h1,h2,h3⟩
 ·exact .inl hs
 ·exact .inr ⟨h1,Nat.lt_of_lt_of_le h2 hx.le,h3⟩
theorem BN.step (h:BN St w W v cs bs zs) (hx:Ext W W') : BN St w W' v cs bs zs:=by
 have hk:Keeps (StB St w W v cs) W (StB St w W' v cs) W':=fun b o hs=>by
  refine⟨?_,hx.cell (p:=⟨b,o,none⟩) (StB.lt h.ext hs)⟩
  rcases hs with hs | ⟨h1,h2,h3⟩
  ·exact .inl hs
  ·exact .inr ⟨h1,Nat.lt_of_lt_of_le h2 hx.le,h3⟩
 refine⟨h.ext.trans hx,h.len,h.nest.kept (zpi hx) (fun b hb=>by simp at hb),fun j hj=>?_,fun j hj=>(h.row j hj).imp fun _ _ hv=>hv.mono hk⟩
 obtain⟨u,h1,h2⟩:=h.key j hj
 exact⟨u,h1,h2.mono hk⟩
theorem BN.push (h:BN St w W v cs bs zs) {kv:Value} {key:List Val} {g cap:Nat} (hk:VRel En (StB St w W v cs) W kv (.dat (U:=Un) Ty.val key))
  (ho:W'.ownsRow w.heap.size 160 2 (.slice (some ⟨g,0,none⟩) (bs.length+1) cap) (bs.length+1) (cs++[kv,.slice none 0 0])) (hg:W.grownBy W' v.ownBlock) (hat:v.ownBlock=some g∨W.heap.size≤g) :
  BN St w W' (.slice (some ⟨g,0,none⟩) (bs.length+1) cap) (cs++[kv,.slice none 0 0]) (bs++[⟨key,[]⟩]) (zs++[[]]):=by
 have hcl:cs.length=bs.length*2:=by have:=h.nest.outer.1;rw[List.length_map,h.len] at this;exact this
 have hy:(zs.map lenZ).length=bs.length:=by rw[List.length_map,h.len]
 have hK:Keeps (StB St w W v cs) W (StB St w W' (.slice (some ⟨g,0,none⟩) (bs.length+1) cap) (cs++[kv,.slice none 0 0])) W':=fun b o hs=>by
  rcases hs with ⟨h1,h2⟩ | ⟨h1,h2,h3,h4⟩
  ·refine⟨.inl ⟨h1,h2⟩,World.cell?_of_block (hg.block b (Nat.lt_of_lt_of_le h1 h.ext.le) fun e=>?_)⟩
   have:=(h.low b e.symm).1;omega
  ·refine⟨.inr ⟨h1,Nat.lt_of_lt_of_le h2 hg.size,fun e=>?_,fun j u hu=>?_⟩,World.cell?_of_block (hg.block b h2 fun e=>h3 e.symm)⟩
   ·have e2:g=b:=by simpa [Value.ownBlock] using e
    subst e2
    rcases hat with e3 | e3
    ·exact h3 e3
    ·omega
   ·rcases Nat.lt_or_ge (j*2+1) cs.length with hl | hl
    ·rw[List.getElem?_append_left hl] at hu;exact h4 j u hu
    ·rw[List.getElem?_append_right hl] at hu
     have h5:=(List.getElem?_eq_some_iff.1 hu).1
     simp only[List.length_cons,List.length_nil] at h5
     have e6:j*2+1 - cs.length=1:=by omega
     rw[e6] at hu
     simp only[List.getElem?_cons_succ,List.getElem?_cons_zero,Option.some.injEq] at hu
     subst hu
     simp [Value.ownBlock]
 refine⟨z1l1 h.ext hg (fun b hb=>(h.low b hb).1),by simp [h.len],?_,fun j hj=>?_,fun j hj=>?_⟩
 ·have:=h.nest.push (w':=W') (v':=.slice (some ⟨g,0,none⟩) (bs.length+1) cap) [kv,.slice none 0 0] rfl rfl (World.ownsRow_nil _ _ _ _) (fun b hb=>by simp [Value.ownBlock] at hb) (by rw[hy];exact ho) hg (hat.elim (fun e=>.inl (by rw[e];rfl)) fun e=>.inr ⟨g,rfl,e⟩)
  rw[List.map_append]
  exact this
 ·rcases Nat.lt_or_ge j bs.length with hl | hl
  ·obtain⟨u,h1,h2⟩:=h.key j hl
   refine⟨u,by rw[List.getElem?_append_left (by omega)];exact h1,?_⟩
   rw[List.getD_eq_getElem?_getD,List.getElem?_append_left hl,← List.getD_eq_getElem?_getD]
   exact h2.mono hK
  ·have hj':j=bs.length:=by rw[List.length_append,List.length_singleton] at hj;omega
   subst hj'
   refine⟨kv,by rw[List.getElem?_append_right (by omega),hcl,Nat.sub_self];rfl,?_⟩
   rw[List.getD_eq_getElem?_getD,List.getElem?_append_right (Nat.le_refl _),Nat.sub_self]
   exact hk.mono hK
 ·rcases Nat.lt_or_ge j bs.length with hl | hl
  ·rw[List.getD_eq_getElem?_getD,List.getElem?_append_left (by rw[h.len];exact hl),← List.getD_eq_getElem?_getD,List.getD_eq_getElem?_getD (l:=bs++_),List.getElem?_append_left hl,← List.getD_eq_getElem?_getD]
   exact (h.row j hl).imp fun _ _ hv=>hv.mono hK
  ·have hj':j=bs.length:=by rw[List.length_append,List.length_singleton] at hj;omega
   subst hj'
   rw[List.getD_eq_getElem?_getD,List.getElem?_append_right (by rw[h.len];exact Nat.le_refl _),h.len,Nat.sub_self,List.getD_eq_getElem?_getD (l:=bs++_),List.getElem?_append_right (Nat.le_refl _),Nat.sub_self]
   trivial
theorem BN.at (h:BN St w W v cs bs zs) {i:Nat} (hi:i<bs.length) : ∃ g cap u,v=.slice (some ⟨g,0,none⟩) bs.length cap∧bs.length≤cap∧w.heap.size≤g∧g<W.heap.size∧cs[i*2+1]? = some u∧W.cell? ⟨g,i*2+1,none⟩=some u∧W.frozen? ⟨g,i*2+1,none⟩=false ∧
  W.ownsRow w.heap.size 57 1 u (zs.getD i []).length (zs.getD i [])∧(u.ownBlock=none∨u.ownBlock≠some g):=by
 have hiz:i<zs.length:=by rw[h.len];exact hi
 have hy:(zs.map lenZ)[i]? = some ((zs.getD i []).length,zs.getD i []):=by
  rw[List.getElem?_map,List.getElem?_eq_getElem hiz,List.getD_eq_getElem?_getD,List.getElem?_eq_getElem hiz];rfl
 obtain⟨g,cap,u,h1,h2,h3,h4,h5,h6,h7⟩:=h.nest.get (by omega) (by omega) hy
 rw[List.length_map,h.len] at h1
 have hc:bs.length≤cap:=by
  have ho:=h.nest.outer
  rw[List.length_map,h.len,h1] at ho
  obtain⟨_,⟨e,_⟩ | ⟨g2,cap2,cur,e,_,_,hcc,_⟩⟩:=ho
  ·simp at e
  ·simp only[Value.slice.injEq] at e;omega
 exact⟨g,cap,u,h1,hc,h2,z6l h4,h3,h4,h5,h6,by rw[h1] at h7;exact h7⟩
theorem BN.app (h:BN St w W v cs bs zs) {i:Nat} (hi:i<bs.length) {g cap:Nat} {u u' xv:Value} {x:List Val} {W5:World} (hv:v=.slice (some ⟨g,0,none⟩) bs.length cap) (hu:cs[i*2+1]? = some u)
  (ho:W5.ownsRow w.heap.size 57 1 u' ((zs.getD i []).length+1) (zs.getD i []++[xv])) (hg:W.grownBy W5 u.ownBlock) (hb:u'.ownBlock=u.ownBlock∨u'.ownBlock=some W.heap.size) (hx:VRel En (StB St w W v cs) W xv (.dat (U:=Un) Ty.val x)) :
  BN St w (W5.setCell ⟨g,i*2+1,none⟩ u') v (cs.set (i*2+1) u') (bs.set i ⟨(bs.getD i zl).key,(bs.getD i zl).rows++[x]⟩) (zs.set i (zs.getD i []++[xv])):=by
 have hiz:i<zs.length:=by rw[h.len];exact hi
 have hy:(zs.map lenZ)[i]? = some ((zs.getD i []).length,zs.getD i []):=by
  rw[List.getElem?_map,List.getElem?_eq_getElem hiz,List.getD_eq_getElem?_getD,List.getElem?_eq_getElem hiz];rfl
 obtain⟨iu1,iu2⟩:=h.inner hu
 have hvb:v.ownBlock=some g:=by rw[hv];rfl
 have hgl:=h.low g hvb
 have hcl:cs.length=bs.length*2:=by have:=h.nest.outer.1;rw[List.length_map,h.len] at this;exact this
 have hcell:∀ b o,b<W.heap.size→u.ownBlock≠some b→b≠g→(W5.setCell ⟨g,i*2+1,none⟩ u').cell? ⟨b,o,none⟩=W.cell? ⟨b,o,none⟩:=fun b o h1 h2 h3=>by
  refine (World.cell?_setCell_other (w:=W5) (a:=⟨g,i*2+1,none⟩) (b:=⟨b,o,none⟩) (v:=u') (fun e=>h3 (congrArg Addr.block e).symm)).trans ?_
  exact World.cell?_of_block (hg.block b h1 fun e=>h2 e.symm)
 have hsz:(W5.setCell ⟨g,i*2+1,none⟩ u').heap.size=W5.heap.size:=by simp
 have hK:Keeps (StB St w W v cs) W (StB St w (W5.setCell ⟨g,i*2+1,none⟩ u') v (cs.set (i*2+1) u')) (W5.setCell ⟨g,i*2+1,none⟩ u'):=fun b o hs=>by
  rcases hs with ⟨h1,h2⟩ | ⟨h1,h2,h3,h4⟩
  ·refine⟨.inl ⟨h1,h2⟩,hcell b o (Nat.lt_of_lt_of_le h1 h.ext.le) (fun e=>?_) (fun e=>by omega)⟩
   have:=(iu1 b e).1;omega
  ·refine⟨.inr ⟨h1,by rw[hsz];exact Nat.lt_of_lt_of_le h2 hg.size,h3,fun j y hy=>?_⟩,hcell b o h2 (h4 i u hu) (fun e=>h3 (by rw[hvb,e]))⟩
   rw[List.getElem?_set] at hy
   split at hy
   ·split at hy
    ·obtain rfl:=Option.some.inj hy
     rcases hb with e | e
     ·rw[e];exact h4 i u hu
     ·rw[e];intro e2;have:=Option.some.inj e2;omega
    ·simp at hy
   ·exact h4 j y hy
 have hlen:(bs.set i ⟨(bs.getD i zl).key,(bs.getD i zl).rows++[x]⟩).length=bs.length:=List.length_set
 refine⟨(z1l1 h.ext hg (fun b hb=>(iu1 b hb).1)).setCell hgl.1 _,by rw[List.length_set,hlen,h.len],?_,fun j hj=>?_,fun j hj=>?_⟩
 ·have:=h.nest.app (by omega) (by omega) hy (by rw[List.length_map,h.len];exact hv) hu ho hg hb
  rw[List.map_set]
  have e:lenZ (zs.getD i []++[xv])=((zs.getD i []).length+1,zs.getD i []++[xv]):=by simp [lenZ]
  rw[e]
  exact this
 ·rw[hlen] at hj
  obtain⟨y,h1,h2⟩:=h.key j hj
  refine⟨y,by rw[List.getElem?_set,if_neg (by omega)];exact h1,?_⟩
  have e:((bs.set i ⟨(bs.getD i zl).key,(bs.getD i zl).rows++[x]⟩).getD j zl).key=(bs.getD j zl).key:=by
   rw[List.getD_eq_getElem?_getD,List.getElem?_set]
   by_cases e : i=j
   ·subst e;rw[if_pos rfl,if_pos hi];rfl
   ·rw[if_neg e,← List.getD_eq_getElem?_getD]
  rw[e]
  exact h2.mono hK
 ·rw[hlen] at hj
  by_cases e : i=j
  ·subst e
   have e1:(zs.set i (zs.getD i []++[xv])).getD i []=zs.getD i []++[xv]:=by rw[List.getD_eq_getElem?_getD,List.getElem?_set,if_pos rfl,if_pos hiz];rfl
   have e2:(bs.set i ⟨(bs.getD i zl).key,(bs.getD i zl).rows++[x]⟩).getD i zl=⟨(bs.getD i zl).key,(bs.getD i zl).rows++[x]⟩:=by rw[List.getD_eq_getElem?_getD,List.getElem?_set,if_pos rfl,if_pos hi];rfl
   rw[e1,e2]
   exact All2.append ((h.row i hj).imp fun _ _ hv=>hv.mono hK) ⟨hx.mono hK,trivial⟩
  ·have e1:(zs.set i (zs.getD i []++[xv])).getD j []=zs.getD j []:=by rw[List.getD_eq_getElem?_getD,List.getElem?_set,if_neg e,← List.getD_eq_getElem?_getD]
   have e2:(bs.set i ⟨(bs.getD i zl).key,(bs.getD i zl).rows++[x]⟩).getD j zl=bs.getD j zl:=by rw[List.getD_eq_getElem?_getD,List.getElem?_set,if_neg e,← List.getD_eq_getElem?_getD]
   rw[e1,e2]
   exact (h.row j hj).imp fun _ _ hv=>hv.mono hK
theorem BN.vrel (h:BN St w W v cs bs zs) (hbl:bs.length≤9223372036854775807) (hrl:∀ j,j<bs.length→(bs.getD j zl).rows.length≤9223372036854775807) : VRel En (StN St w W .nilFunc) W v (.dat (U:=Un) Ty.bunch bs):=by
 have hS:∀ b o,StB St w W v cs b o→StN St w W .nilFunc b o:=fun b o hs=>by
  rcases hs with hs | ⟨h1,h2,_⟩
  ·exact .inl hs
  ·exact .inr ⟨h1,h2,by simp [Value.ownBlock]⟩
 have hK:Keeps (StB St w W v cs) W (StN St w W .nilFunc) W:=fun b o hs=>⟨hS b o hs,rfl⟩
 by_cases h0 : bs=[]
 ·subst h0
  obtain⟨_,⟨e,_⟩ | ⟨g,cap,cur,e,_⟩⟩:=h.nest.outer
  ·rw[e];exact .nil _ _ _
  ·rw[e,List.length_map,h.len];exact .nil _ _ _
 ·have hpos:0<bs.length:=List.length_pos_iff.2 h0
  obtain⟨g,cap,u0,hv,hcap,hge,hgl,_⟩:=h.at hpos
  have hcl:cs.length=bs.length*2:=by have:=h.nest.outer.1;rw[List.length_map,h.len] at this;exact this
  have ho:=h.nest.outer
  rw[List.length_map,h.len,hv] at ho
  rw[hv]
  refine VRel.dat (U:=Un) Ty.bunch bs g 0 cap (fun i j=>cs.getD (i*2+j) undef) ⟨hcap,hbl⟩ (fun i j hi hj=>?_) (fun i hi j d hd=>?_)
  ·have hj':j<2:=hj
   have hlt:i*2+j<bs.length*2:=by omega
   have e:0+i*Un.sz Ty.bunch+j=i*2+j:=by show 0+i*2+j=_;omega
   rw[e]
   refine⟨.inr ⟨hge,hgl,by simp [Value.ownBlock]⟩,?_⟩
   rw[ho.cellAt _ hlt,List.getD_eq_getElem?_getD,List.getElem?_eq_getElem (by omega)];rfl
  ·have hb:bs.getD i zl=bs[i]:=by rw[List.getD_eq_getElem?_getD,List.getElem?_eq_getElem hi];rfl
   have hd':([.dat (U:=Un) Ty.val (bs[i]'hi).key,.dat (U:=Un) Ty.row (bs[i]'hi).rows] : List (V Un))[j]? = some d:=hd
   cases j with
   | zero =>
    simp at hd';subst hd'
    obtain⟨u,h1,h2⟩:=h.key i hi
    show VRel En _ W (cs.getD (i*2+0) undef) _
    rw[Nat.add_zero,List.getD_eq_getElem?_getD,h1]
    rw[hb] at h2
    exact h2.mono hK
   | succ j =>
    cases j with
    | succ j=>simp at hd'
    | zero =>
     simp at hd';subst hd'
     obtain⟨g',cap',u,hv',_,_,_,h1,_,_,h4,h5⟩:=h.at hi
     show VRel En _ W (cs.getD (i*2+1) undef) _
     rw[List.getD_eq_getElem?_getD,h1]
     show VRel En _ W u _
     have hr:=h.row i hi
     have hzl:=hr.length
     have hrl':=hrl i hi
     rw[hb] at hr hzl hrl'
     rcases hrr : (bs[i]'hi).rows with _ | ⟨x0,r0⟩
     ·rw[hrr,List.length_nil] at hzl
      obtain⟨_,⟨e,_⟩ | ⟨g2,cap2,cur2,e,_⟩⟩:=h4
      ·rw[e];exact .nil _ _ _
      ·rw[e,hzl];exact .nil _ _ _
     ·rw[← hrr]
      have h4':=h4
      obtain⟨hzc,⟨_,e⟩ | ⟨g2,cap2,cur2,e,hg2,_,hc2,_⟩⟩:=h4
      ·rw[hzl,hrr] at e;simp at e
      ·have hlt2:=(h4'.lt g2 (by rw[e];rfl)).2
       rw[e] at h4' ⊢
       rw[hzl] at h4' hc2 ⊢
       refine VRel.dat (U:=Un) Ty.row (bs[i]'hi).rows g2 0 cap2 (fun a b=>(zs.getD i []).getD a undef) ⟨hc2,hrl'⟩ (fun a b ha hb=>?_) (fun a ha b d hd=>?_)
       ·have hb0:b=0:=by have : b<1:=hb;omega
        subst hb0
        have e:0+a*Un.sz Ty.row+0=a:=by show 0+a*1+0=a;omega
        rw[e]
        refine⟨.inr ⟨hg2,hlt2,by simp [Value.ownBlock]⟩,?_⟩
        rw[h4'.cellAt a (by omega)]
        exact z23w (by omega)
       ·have hd':([.dat (U:=Un) Ty.val ((bs[i]'hi).rows[a]'ha)] : List (V Un))[b]? = some d:=hd
        cases b with
        | succ b=>simp at hd'
        | zero =>
         simp at hd';subst hd'
         obtain⟨y,hy,hyr⟩:=All2.get a hr (List.getElem?_eq_getElem ha)
         show VRel En _ W ((zs.getD i []).getD a undef) _
         rw[List.getD_eq_getElem?_getD,hy]
         exact hyr.mono hK
end
end Go.Proofs.YtjfpbchdcbhfgaaGreat.B
namespace Go.Proofs.YtjfpbchdcbhfgaaGreat.B
open Go Go.RowKit
set_option maxRecDepth 100000
noncomputable section
attribute [local irreducible] awp ctxK z12 z1o retQ z2i awf ctxF zt
def z1g (o:Bunch→Prop) (p:Bunch→Bool) : FV Un:=fun args=>match args with
 | [x0]=>(dS .bunch (.d x0)).bind fun a0=>some ([o a0],[.v (cb (p a0))])
 | _=>none
def z3z (φ:FV Un) : Bunch→Prop:=fun a0=>match φ [.agg (enc Ty.bunch a0)] with
 | some ([q],_)=>q
 | _=>False
def z5k (φ:FV Un) : Bunch→Bool:=fun a0=>match φ [.agg (enc Ty.bunch a0)] with
 | some (_,[.v (.s (.bool b))])=>b
 | _=>false
theorem zm8 (o:Bunch→Prop) (p:Bunch→Bool) : z5k (z1g o p)=p:=by
 funext a0
 unfold z5k z1g
 simp only[zfq,Option.bind_some]<;>rfl
theorem zeb (o:Bunch→Prop) (p:Bunch→Bool) : z3z (z1g o p)=o:=by
 funext a0
 unfold z3z z1g
 simp only[zfq,Option.bind_some]<;>rfl
def zf5 : Mc Un:=mach (tbl []) (tbl []) (tbl []) (tbl []) (tbl [])
def z1e7 (r:Int) : List (A Un):=[.c (.s (.int .i64 r))]
def z1e8 (_r:Int) : List (Ob Un):=[]
def znn (r:Int) : RF Un:=(z1e7 r,z1e8 r)
def zf6 : Nat→NS:=fun l=>(look l [(2,{ ts:=bl 19 403,bs:=bl 19 0,nm:=[] })]).getD ⟨[],[],[],[],[],false⟩
def z5t (s:List Bunch) (f_o:Bunch→Prop) (f:Bunch→Bool) (v0:Int) : S Un:=(st 19 19 76 0 [(0,al .bunch s),(1,AV.one (A.c (C.fv (z1g f_o f)))),(4,ai (0:Int)),(7,ai (↑s.length:Int)),(8,ai v0)] [] [])
def zjf (s:List Bunch) (f_o:Bunch→Prop) (f:Bunch→Bool) (v0:Int) (v1:Int) : S Un:=(st 19 19 76 0 [(0,al .bunch s),(1,AV.one (A.c (C.fv (z1g f_o f)))),(4,ai v1),(7,ai (↑s.length:Int)),(8,ai v0)] [] [])
noncomputable def z16p : Code:=sub (z8 Tryz.f183) [1,0,1,2,2]
def z8w : S Un→Option (EX Un):=zt (zf6 2) (fun s Q=>awf zf5 zf6 z16p s Q)
def zl3 : Exit→S Un→Option (RF Un):=ctxF zf5 zf6 (z8 Tryz.f183) [1,0,1,2] (retF zf5 Tryz.f183.results.toList [.d])
def z16q (s:List Bunch) (f_o:Bunch→Prop) (f:Bunch→Bool) : Option (RF Un):=awf zf5 zf6 (z8 Tryz.f183) (zg Tryz.f183.ntmps 0 [.d (.v (.dat (U:=Un) Ty.bunch s)),.fn (z1g f_o f)]) (retF zf5 Tryz.f183.results.toList [.d])
theorem z1tb (s:List Bunch) (f_o:Bunch→Prop) (f:Bunch→Bool) : z16q s f_o f=(z8w (z5t s f_o f (0:Int))).bind (zx zl3):=by kernel_rfl
theorem zt3 (s:List Bunch) (f_o:Bunch→Prop) (f:Bunch→Bool) (v0:Int) : z8w (z5t s f_o f v0)=cndO (decide (v0<(↑s.length:Int))) (obO (0≤v0∧v0<(↑s.length:Int)) (obO (f_o (s.getD v0.toNat zl)) (cndO (f (s.getD v0.toNat zl)) (some (.ret,(zjf s f_o f v0 v0))) (z8w (z5t s f_o f (IntKind.i64.wrap (v0+1))))))) (some (.exit 0,(z5t s f_o f v0))):=(z11 (zf6 2) z16p _).trans (by kernel_rfl)
theorem z1e9 (s:List Bunch) (f_o:Bunch→Prop) (f:Bunch→Bool) (v0:Int) (v1:Int) : zl3 .ret (zjf s f_o f v0 v1)=some (znn (v1)):=by kernel_rfl
theorem z1hr (s:List Bunch) (f_o:Bunch→Prop) (f:Bunch→Bool) (v0:Int) : zl3 (.exit 0) (z5t s f_o f v0)=some (znn ((-1:Int))):=by kernel_rfl
def z1a6 (o:Bunch→Prop) (s:List Bunch) : Prop:=∀ x∈s,o x
def zpn (s:List Bunch) (_o:Bunch→Prop) (f:Bunch→Bool) : Int:=match s.findIdx? f with | some i=>(i:Int) | none=>-1
theorem z1mp (s:List Bunch) (o:Bunch→Prop) (f:Bunch→Bool) (hs:WL .bunch s) (ho:z1a6 o s) : z16q s o f=some (znn (zpn s o f)):=by
 have key:∀ (r:List Bunch) (i:Nat),s.drop i=r→i≤s.length→(z8w (z5t s o f i)).bind (zx zl3)=some (znn (match r.findIdx? f with | some k=>((i+k:Nat):Int) | none=>-1)):=by
  intro r
  induction r with
  | nil =>
   intro i hr hi
   have : s.length≤i:=by rw[← List.drop_eq_nil_iff];exact hr
   have e:z8w (z5t s o f i)=some (.exit 0,z5t s o f i):=by rw[zt3,za,if_neg (by simp;omega)]
   rw[zn e,z1hr];rfl
  | cons x r ih =>
   intro i hr hi
   obtain⟨a1,a2,a3,hm⟩:=z31 hr
   have hx:s.getD i zl=x:=a2 zl
   by_cases hf : f x=true
   ·have e:z8w (z5t s o f i)=some (.ret,zjf s o f i i):=by
     rw[zt3,za,if_pos (by simp;omega),z6 (by omega),Int.toNat_natCast,hx,z6 (ho x hm),za,if_pos hf]
    rw[zn e,z1e9]
    simp [List.findIdx?_cons,hf]
   ·have e:z8w (z5t s o f i)=z8w (z5t s o f ((i+1:Nat):Int)):=by
     rw[zt3,za,if_pos (by simp;omega),z6 (by omega),Int.toNat_natCast,hx,z6 (ho x hm),za,if_neg hf,z4v a1 hs.len]
    rw[e,ih (i+1) a3 (by omega)]
    congr 2
    simp only[List.findIdx?_cons,hf]
    cases r.findIdx? f with
    | none=>rfl
    | some k=>simp;omega
 rw[z1tb]
 have:=key s 0 rfl (Nat.zero_le _)
 refine Eq.trans this ?_
 unfold zpn
 cases s.findIdx? f<;>simp
def zno : FnC Un:=fun args=>match args with
 | [x0,x1]=>(dL .bunch x0).bind fun s=>(dF x1).bind fun f=>some ([f=(z1g (z3z f) (z5k f)),z1a6 (z3z f) s],z1e7 (zpn s (z3z f) (z5k f)),z1e8 (zpn s (z3z f) (z5k f)))
 | _=>none
theorem z1tc : FnOK 183 zno:=by
 intro args ob rs os h hob
 unfold zno at h
 split at h
 ·simp only[Option.bind_eq_some_iff,Option.some.injEq,Prod.mk.injEq] at h
  obtain⟨s,e0,f,e1,rfl,rfl,rfl⟩:=h
  obtain rfl:=z1i e0
  obtain rfl:=zki e1
  have hfv0:=hob _ (List.mem_of_getElem? (i:=0) rfl)
  generalize z5k f=pp0 at *
  generalize z3z f=qq0 at *
  subst hfv0
  exact⟨zd (M:=zf5) rfl (zf (l1:=[]) (l2:=[]) (l3:=[]) (l4:=[]) (l5:=[]) trivial trivial trivial trivial trivial) Tryz.func183 (by kernel_rfl) zf6 0 [.d] (fun hwf=>(z1mp s qq0 pp0 (ze hwf (a:=.d (.v (.dat (U:=Un) Ty.bunch s))) (List.mem_of_getElem? (i:=0) rfl)) (hob _ (List.mem_of_getElem? (i:=1) rfl)))),zb Tryz.func183 (by kernel_rfl) (by kernel_rfl)⟩
 ·simp at h
def z1r1 : Mc Un:=mach (tbl [(149,z66)]) (tbl []) (tbl []) (tbl []) (tbl [])
def z24o (r:Bool) : List (A Un):=[.c (.s (.bool r))]
def z24p (_r:Bool) : List (Ob Un):=[]
def z201 (r:Bool) : RF Un:=(z24o r,z24p r)
def z202 : Nat→NS:=fun l=>(look l []).getD ⟨[],[],[],[],[],false⟩
def z1un (b:Bunch) (q:List Val) : Option (RF Un):=awf z1r1 z202 (z8 Tryz.f184) (zg Tryz.f184.ntmps 0 [.d (.agg (enc Ty.bunch b)),.box [.v (.dat (U:=Un) Ty.val q)]]) (retF z1r1 Tryz.f184.results.toList [.d])
theorem z23x (b:Bunch) (q:List Val) : z1un b q=some (z201 (z3v b.key q == 0)):=by kernel_rfl
def bun1 (b:Bunch) (q:List Val) : Bool:=z3v b.key q == 0
theorem z203 (b:Bunch) (q:List Val) (_hb:WS .bunch b) (_hq:WL .val q) (_h:True) : z1un b q=some (z201 (bun1 b q)):=by
 rw[z23x];rfl
def z1ea : List (List (DC Un))→Option (FV Un):=fun dl=>match dl with
 | [b0]=>(bL .val b0).bind fun q=>some (z1g (fun b=>True) (fun b=>bun1 b q))
 | _=>none
theorem z22f : ClOK 184 z1ea:=by
 refine⟨zb Tryz.func184 (by kernel_rfl) (by kernel_rfl),fun dl φ args ob rs hF hφ hob=>?_⟩
 unfold z1ea at hF
 split at hF
 ·simp only[Option.bind_eq_some_iff,Option.some.injEq] at hF
  obtain⟨q,g0,hE⟩:=hF
  subst hE
  obtain rfl:=z1ve g0
  unfold z1g at hφ
  split at hφ
  ·simp only[Option.bind_eq_some_iff,Option.some.injEq,Prod.mk.injEq] at hφ
   obtain⟨b,e0,rfl,rfl⟩:=hφ
   simp only[List.map_cons,List.map_nil,List.cons_append,List.nil_append]
   rw[z18 e0]
   exact Contract.data (zd (M:=z1r1) rfl (zf (l1:=[(149,z66)]) (l2:=[]) (l3:=[]) (l4:=[]) (l5:=[]) ⟨zig,trivial⟩ trivial trivial trivial trivial) Tryz.func184 (by kernel_rfl) z202 0 [.d] (fun hwf=>(z203 b q (ze hwf (a:=.d (.agg (enc Ty.bunch b))) (List.mem_of_getElem? (i:=0) rfl)) (ze hwf (a:=.box [.v (.dat (U:=Un) Ty.val q)]) (List.mem_of_getElem? (i:=1) rfl)) (hob _ (List.mem_of_getElem? (i:=0) rfl)))))
  ·simp at hφ
 ·simp at hF
end
end Go.Proofs.YtjfpbchdcbhfgaaGreat.B
