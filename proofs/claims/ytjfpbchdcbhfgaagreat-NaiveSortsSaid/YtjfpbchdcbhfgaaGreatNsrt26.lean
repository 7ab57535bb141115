/- Part 26 of the proof: Snaive4 Snvspec Sconjspec Lgrow Sconcv. -/
import Derived.Shelf.Spec.SlicesGrow
import Derived.Test.YtjfpbchdcbhfgaaGreatNsrt25
namespace Go.Proofs.YtjfpbchdcbhfgaaGreat.B
open Go Go.RowKit
set_option maxRecDepth 100000
noncomputable section
attribute [local irreducible] awp ctxK z12 z1o retQ z2i awf ctxF zt
def zjc : Mc Un:=mach (tbl []) (tbl []) (tbl [(146,z1dq)]) (tbl []) (tbl [(145,zjb)])
def zrn (r:List (List Val)) : List (A Un):=[.c (.ob 0 0)]
def zro (r:List (List Val)) : List (Bool×List (C Un)):=[]
def zrp (r:List (List Val)) : List (Ob Un):=[⟨0,Ty.row,r,some 0,true⟩]
def zrq (r:List (List Val)) : RGF Un:=(zrn r,zro r,zrp r)
def zrr : Nat→NS:=fun l=>(look l []).getD ⟨[],[],[],[],[],false⟩
def zpk (l:List (List Val)) (keys:List By) : Option (RGF Un):=awf zjc zrr (z8 Tryz.f93) (z1ak Tryz.f93.ntmps 0 [.c (.ob 0 0),.c (.sl (U:=Un) Ty.by_ keys false)] [] [⟨0,Ty.row,l,(some 0),true⟩]) (z1ni zjc 0 Tryz.f93.results.toList [.m])
theorem z1a1 (l:List (List Val)) (keys:List By) : zpk l keys=obO (l.length≤(1000000000:Nat)) (obO ((zu (fun a b=>True) fun a b=>ord1 a b keys)=zu (z2l (zu (fun a b=>True) fun a b=>ord1 a b keys)) (z1r (zu (fun a b=>True) fun a b=>ord1 a b keys))) (obO (∀ (x:Un.Den Ty.row),x∈l→∀ (y:Un.Den Ty.row),y∈l→z2l (zu (fun a b=>True) fun a b=>ord1 a b keys) x y) (obO (Pre (leP (z1r (zu (fun a b=>True) fun a b=>ord1 a b keys)))) (some (zrq (z2f (leP (z1r (zu (fun a b=>True) fun a b=>ord1 a b keys))) l)))))):=by kernel_rfl
def z2b (l:List (List Val)) (keys:List By) : List (List Val):=z2f (leP fun a b=>ord1 a b keys) l
theorem z12p (l:List (List Val)) (keys:List By) (_hl:WL .row l) (_hk:WL .by_ keys) (h:l.length≤100000000) : zpk l keys=some (zrq (z2b l keys)):=by
 rw[z1a1]
 simp only[zmh,zmg]
 rw[z6 (by omega),z6 trivial,z6 (fun _ _ _ _=>trivial),z6 (zpj keys)]
 rfl
def zdq : List Bool×FnG Un:=([true,false],fun args bxs os=>match args,bxs,os with
 | [.c (.ob 0 0),x1],[],[o0]=>(oM .row o0).bind fun l=>(aL .by_ x1).bind fun keys=>some ([l.length≤100000000],zrn (z2b l keys),zro (z2b l keys),zrp (z2b l keys))
 | _,_,_=>none)
theorem z14v : GnOK 93 zdq:=by
 intro args bxs os ob rs bxs' os' h hob
 unfold zdq at h
 dsimp only at h
 split at h
 ·rename_i x1 o0
  simp only[Option.bind_eq_some_iff,Option.some.injEq,Prod.mk.injEq] at h
  obtain⟨l,e0,keys,e1,rfl,rfl,rfl,rfl⟩:=h
  have q0:=z1ne e0
  obtain rfl:=z22q e1
  refine⟨GContract.weak ?_,zb Tryz.func93 (by kernel_rfl) (by kernel_rfl)⟩
  rw[q0]
  refine z1sd (M:=zjc) rfl (nb:=0) rfl (zf (l1:=[]) (l2:=[]) (l3:=[(146,z1dq)]) (l4:=[]) (l5:=[(145,zjb)]) trivial trivial ⟨z21z,trivial⟩ trivial ⟨z1hp,trivial⟩) Tryz.func93 (by kernel_rfl) zrr 0 [.m] (fun ha hb ho=>?_)
  have hsp:=z12p l keys (z257 (τ:=.row) (l:=l) (fr:=some 0) ho (by simp)) (z24d ha (a:=.c (.sl (U:=Un) Ty.by_ keys false)) (by simp)) (hob _ (List.mem_of_getElem? (i:=0) rfl))
  exact z1sh (r:=(_,_,_)) hsp
 ·simp at h
end
end Go.Proofs.YtjfpbchdcbhfgaaGreat.B
namespace Go.Proofs.YtjfpbchdcbhfgaaGreat.B
open Go Go.RowKit
set_option maxRecDepth 100000
noncomputable section
attribute [local irreducible] awp ctxK z12 z1o retQ z2i awf ctxF zt
def capQ {α:Type} (l:List α) : Option (List α):=if l.length≤100000000 then some l else none
open Classical in
def chkQ {α:Type} (p:Prop) (o:Option α) : Option α:=if p then o else none
theorem chkQ_some {α:Type} {p:Prop} {o:Option α} {x:α} : chkQ p o=some x↔p∧o=some x:=by
 unfold chkQ
 split
 ·rename_i h;exact⟨fun e=>⟨h,e⟩,fun e=>e.2⟩
 ·rename_i h;exact⟨fun e=>by simp at e,fun e=>(h e.1).elim⟩
theorem zxo {α:Type} {p:Prop} {o:Option α} (h:p) : chkQ p o=o:=by unfold chkQ;rw[if_pos h]
def mapQ {α β:Type} (f:α→Option β) : List α→Option (List β)
 | []=>some []
 | x::l=>(f x).bind fun y=>(mapQ f l).bind fun s=>some (y::s)
def zf2 {α:Type} (f:α→Option Bool) : List α→Option (List α)
 | []=>some []
 | x::l=>(f x).bind fun b=>(zf2 f l).bind fun s=>some (if b=true then x::s else s)
def z1dw (left:Bool) (none_:List Val) (f:List Val→Option Bool) (right:List (List Val)) : List (List Val)→Option (List (List Val))
 | []=>some []
 | a::l=>(zf2 f (right.map (a++·))).bind fun u=>(if u.length=0∧left=true then (if (a++none_).length≤100000000 then some [a++none_] else none) else some u).bind fun u=>(z1dw left none_ f right l).bind fun s=>some (u++s)
def zea (out:List Bunch) (key x:List Val) : List Bunch:=match out.findIdx? (fun b=>z3v b.key key == 0) with
 | some i=>out.set i ⟨(out.getD i zl).key,(out.getD i zl).rows++[x]⟩
 | none=>out++[⟨key,[x]⟩]
def bunQ (f:List Val→Option (List Val)) : List (List Val)→List Bunch→Option (List Bunch)
 | [],out=>some out
 | x::l,out=>(f x).bind fun key=>bunQ f l (zea out key x)
def setL (inter:Bool) : List (List Val)→List (List Val)→List (List Val)
 | [],_=>[]
 | x::l,left=>(if decide (0≤z13 left x)=inter then [x] else [])++setL inter l (if 0≤z13 left x then left.eraseIdx (z13 left x).toNat else left)
def setE (op:Int) (all:Bool) (a b:List (List Val)) : List (List Val) :=
 if op=9 then (if all=true then a else z30 a) else setL (decide (op=10)) (if all=true then a else z30 a) b
def z2v (l:List (List Val)) (limit skip:Int) : List (List Val) :=
 if 0≤limit∧limit<((l.drop (min skip l.length).toNat).length:Int) then (l.drop (min skip l.length).toNat).take limit.toNat else l.drop (min skip l.length).toNat
abbrev Rows : Type:=List (List Val)
def filO (kid:Wld→Option Rows) (so:Wld→Option Bool) (w:Wld) : Option Rows :=
 if w.env.length≤100000000 then (kid w).bind fun l=>zf2 (fun x=>so (zp w x)) l else none
def z1nj (kid:Wld→Option Rows) (ts:Wld→Option (List Val)) (n:Nat) (w:Wld) : Option Rows :=
 if w.env.length≤100000000∧n≤100000000 then (kid w).bind fun l=>mapQ (fun x=>ts (zp w x)) l else none
def z1nk (kid0 kid1:Wld→Option Rows) (so:Wld→Option Bool) (n cols:Nat) (left:Bool) (w:Wld) : Option Rows :=
 if n<2 then some [] else if w.env.length≤100000000∧cols≤100000000 then (kid1 w).bind fun right=>(kid0 w).bind fun l=>(z1dw left (List.replicate cols z7) (fun x=>if x.length≤100000000 then so (zp w x) else none) right l).bind capQ else none
def bunO (ts:Wld→Option (List Val)) (n:Nat) (w:Wld) (l:Rows) : Option (List Bunch) :=
 if w.env.length≤100000000∧n≤100000000∧l.length≤100000000 then bunQ (fun x=>ts (zp w x)) l (if n=0 then [⟨[],[]⟩] else []) else none
def grpO (kid:Wld→Option Rows) (ts:Wld→Option (List Val)) (as_:Wld→Rows→Option (List Val)) (n k:Nat) (w:Wld) : Option Rows :=
 if k≤100000000 then (kid w).bind fun l=>(bunO ts n w l).bind fun bs=>(mapQ (fun b=>(as_ w b.rows).bind fun vs=>some (b.key++vs)) bs) else none
def setO (kid0 kid1:Wld→Option Rows) (op:Int) (all:Bool) (w:Wld) : Option Rows :=
 (kid0 w).bind fun a=>(kid1 w).bind fun b=>(if op=9 then capQ (a++b) else some a).bind fun a=>some (setE op all a b)
mutual
def nT : Term→Wld→Option Val
 | .mk op v depth at_ name kids sub type,w =>
  if op=1∨op=2 then chkQ ((Term.mk op v depth at_ name kids sub type).sz≤2000000∧strT (.mk op v depth at_ name kids sub type)∧zex w.env) (some (z3d (.mk op v depth at_ name kids sub type) w.env))
  else if op=26 then (nSub sub w).bind fun l=>some (if l.length=1∧0<(l.getD 0 []).length then (l.getD 0 []).getD 0 z7 else z7)
  else if op=27 then (nSub sub w).bind fun l=>some (z2z (decide (0<l.length)))
  else if op=28 then (if kids.length=0 then some z7 else (nHd kids w).bind fun v=>(nSub sub w).bind fun l=>some (zd9 v l))
  else if kids.length≤2000000 then (nTs kids w).bind fun l=>chkQ (txts l) (some (z1x op name l))
  else none
def nHd : List Term→Wld→Option Val
 | [],_=>some z7
 | t::_,w=>nT t w
def nTs : List Term→Wld→Option (List Val)
 | [],_=>some []
 | t::l,w=>(nT t w).bind fun v=>(nTs l w).bind fun s=>some (v::s)
def nSo : List Term→Wld→Option Bool
 | [],_=>some true
 | t::l,w=>(nT t w).bind fun v=>if z3e v=2 then nSo l w else some false
def nSub : List Rel→Wld→Option Rows
 | [],_=>some []
 | r::_,w=>nR r w
def nKid : List Rel→Nat→Wld→Option Rows
 | [],_,_=>some []
 | r::_,0,w=>nR r w
 | _::l,n+1,w=>nKid l n w
def nA : Agg→Wld→Rows→Option Val
 | .mk name distinct t,w,rows=>if w.env.length≤100000000 then (mapQ (fun x=>nHd t (zp w x)) rows).bind fun l=>(if l.length≤400000 then some (zbp (.mk name distinct t) l) else none) else none
def nAs : List Agg→Wld→Rows→Option (List Val)
 | [],_,_=>some []
 | a::l,w,rows=>(nA a w rows).bind fun v=>(nAs l w rows).bind fun s=>some (v::s)
def nR : Rel→Wld→Option Rows
  | .mk op table cols kids terms aggs keys limit skip all rows,w =>
    (if op=1 then chkQ (dbOK w.db) (some (z8s w table))
     else if op=2 then some rows
     else if op=3 then filO (fun w=>nKid kids 0 w) (fun w=>nSo terms w) w
     else if op=4 then z1nj (fun w=>nKid kids 0 w) (fun w=>nTs terms w) terms.length w
     else if op=5∨op=6 then z1nk (fun w=>nKid kids 0 w) (fun w=>nKid kids 1 w) (fun w=>nSo terms w) kids.length (kids.getD 1 zi).cols.length (decide (op=6)) w
     else if op=7 then grpO (fun w=>nKid kids 0 w) (fun w=>nTs terms w) (fun w l=>nAs aggs w l) terms.length aggs.length w
     else if op=8 then (nKid kids 0 w).bind fun l=>some (z30 l)
     else if op=9∨op=10∨op=11 then setO (fun w=>nKid kids 0 w) (fun w=>nKid kids 1 w) op all w
     else if op=12 then (nKid kids 0 w).bind fun l=>some (z2b l keys)
     else if op=13 then (nKid kids 0 w).bind fun l=>some (z2v l limit skip)
     else some []).bind capQ
end
theorem z1nl (t:Term) (w:Wld) : nT t w=if t.op=1∨t.op=2 then chkQ (t.sz≤2000000∧strT t∧zex w.env) (some (z3d t w.env))
  else if t.op=26 then (nSub t.sub w).bind fun l=>some (if l.length=1∧0<(l.getD 0 []).length then (l.getD 0 []).getD 0 z7 else z7)
  else if t.op=27 then (nSub t.sub w).bind fun l=>some (z2z (decide (0<l.length)))
  else if t.op=28 then (if t.kids.length=0 then some z7 else (nHd t.kids w).bind fun v=>(nSub t.sub w).bind fun l=>some (zd9 v l))
  else if t.kids.length≤2000000 then (nTs t.kids w).bind fun l=>chkQ (txts l) (some (z1x t.op t.name l))
  else none:=by cases t;simp only[nT,Term.op_mk,Term.kids_mk,Term.sub_mk,Term.name_mk];rfl
theorem zxp (r : Rel) (w : Wld) : nR r w = (if r.op = 1 then chkQ (dbOK w.db) (some (z8s w r.table))
     else if r.op=2 then some r.rows
     else if r.op=3 then filO (fun w=>nKid r.kids 0 w) (fun w=>nSo r.terms w) w
     else if r.op=4 then z1nj (fun w=>nKid r.kids 0 w) (fun w=>nTs r.terms w) r.terms.length w
     else if r.op=5∨r.op=6 then z1nk (fun w=>nKid r.kids 0 w) (fun w=>nKid r.kids 1 w) (fun w=>nSo r.terms w) r.kids.length (r.kids.getD 1 zi).cols.length (decide (r.op=6)) w
     else if r.op=7 then grpO (fun w=>nKid r.kids 0 w) (fun w=>nTs r.terms w) (fun w l=>nAs r.aggs w l) r.terms.length r.aggs.length w
     else if r.op=8 then (nKid r.kids 0 w).bind fun l=>some (z30 l)
     else if r.op=9∨r.op=10∨r.op=11 then setO (fun w=>nKid r.kids 0 w) (fun w=>nKid r.kids 1 w) r.op r.all w
     else if r.op=12 then (nKid r.kids 0 w).bind fun l=>some (z2b l r.keys)
     else if r.op=13 then (nKid r.kids 0 w).bind fun l=>some (z2v l r.limit r.skip)
     else some []).bind capQ:=by cases r;simp only[nR,Rel.op_mk,Rel.kids_mk,Rel.terms_mk,Rel.aggs_mk,Rel.keys_mk,Rel.limit_mk,Rel.skip_mk,Rel.all_mk,Rel.rows_mk,Rel.table_mk];rfl
theorem z23t (l:List Rel) (w:Wld) : nSub l w=if l.length=0 then some [] else nR (l.getD 0 zi) w:=by
 cases l with
 | nil=>simp only[nSub,List.length_nil,if_true]
 | cons r l=>simp only[nSub,List.length_cons,Nat.add_eq_zero_iff,Nat.one_ne_zero,and_false,if_false,List.getD_cons_zero]
theorem z1qs (l:List Term) (w:Wld) : nHd l w=if l.length=0 then some z7 else nT (l.getD 0 z1h) w:=by
 cases l with
 | nil=>simp only[nHd,List.length_nil,if_true]
 | cons r l=>simp only[nHd,List.length_cons,Nat.add_eq_zero_iff,Nat.one_ne_zero,and_false,if_false,List.getD_cons_zero]
theorem zoc (w:Wld) : ∀ (l:List Rel) (n:Nat),nKid l n w=if n<l.length then nR (l.getD n zi) w else some []
 | [],n=>by simp [nKid]
 | r::l,0=>by simp [nKid]
 | _::l,n+1=>by rw[nKid,zoc w l n];simp
theorem z1qt (w:Wld) : ∀ l : List Term,nTs l w=mapQ (fun t=>nT t w) l
 | []=>by simp only[nTs,mapQ]
 | t::l=>by simp only[nTs,mapQ,z1qt w l]
theorem z1zy (w:Wld) (rows:Rows) : ∀ l : List Agg,nAs l w rows=mapQ (fun a=>nA a w rows) l
 | []=>by simp only[nAs,mapQ]
 | t::l=>by simp only[nAs,mapQ,z1zy w rows l]
theorem z25l (a:Agg) (w:Wld) (rows:Rows) : nA a w rows=if w.env.length≤100000000 then (mapQ (fun x=>nHd a.t (zp w x)) rows).bind fun l=>(if l.length≤400000 then some (zbp a l) else none) else none:=by cases a;simp only[nA,Agg.t_mk]
def okT (w:Wld) (t:Term) : Prop:=∃ v,nT t w=some v
def okTs (w:Wld) (l:List Term) : Prop:=l.length≤100000000∧∃ v,nTs l w=some v
def z1dx (w:Wld) (t:Term) : Prop:=∃ v,nSub t.sub w=some v
def okSo (w:Wld) (l:List Term) (x:List Val) : Prop:=w.env.length≤100000000∧∃ v,nSo l (zp w x)=some v
def zdr (w:Wld) (r:Rel) (n:Int) : Prop:=0≤n∧∃ v,nKid r.kids n.toNat w=some v
def okRl (w:Wld) (r:Rel) : Prop:=∃ v,nR r w=some v
def z14d (w:Wld) (r:Rel) : Option Rows:=filO (fun w=>nKid r.kids 0 w) (fun w=>nSo r.terms w) w
def zxq (w:Wld) (r:Rel) : Option Rows:=z1nj (fun w=>nKid r.kids 0 w) (fun w=>nTs r.terms w) r.terms.length w
def z1nm (w:Wld) (r:Rel) : Option Rows:=z1nk (fun w=>nKid r.kids 0 w) (fun w=>nKid r.kids 1 w) (fun w=>nSo r.terms w) r.kids.length (r.kids.getD 1 zi).cols.length (decide (r.op=6)) w
def z1dy (w:Wld) (r:Rel) : Option Rows:=grpO (fun w=>nKid r.kids 0 w) (fun w=>nTs r.terms w) (fun w l=>nAs r.aggs w l) r.terms.length r.aggs.length w
def nSet (w:Wld) (r:Rel) : Option Rows:=setO (fun w=>nKid r.kids 0 w) (fun w=>nKid r.kids 1 w) r.op r.all w
def nBun (w:Wld) (rows:Rows) (terms:List Term) : Option (List Bunch):=bunO (fun w=>nTs terms w) terms.length w rows
def z1a2 (w:Wld) (r:Rel) : Prop:=∃ v,z14d w r=some v
def z12q (w:Wld) (r:Rel) : Prop:=∃ v,zxq w r=some v
def z1dz (w:Wld) (r:Rel) : Prop:=∃ v,z1nm w r=some v
def z1hq (w:Wld) (r:Rel) : Prop:=∃ v,z1dy w r=some v
def z1e0 (w:Wld) (r:Rel) : Prop:=∃ v,nSet w r=some v
def z1x2 (w:Wld) (rows:Rows) (terms:List Term) : Prop:=∃ v,nBun w rows terms=some v
def z62 (w:Wld) (t:Term) : Val:=(nT t w).getD z7
def z55 (w:Wld) (l:List Term) : List Val:=(nTs l w).getD []
def z5a (w:Wld) (t:Term) : Rows:=(nSub t.sub w).getD []
def zb4 (w:Wld) (l:List Term) (x:List Val) : Bool:=(nSo l (zp w x)).getD false
def zm (w:Wld) (r:Rel) (n:Int) : Rows:=(nKid r.kids n.toNat w).getD []
def z75 (w:Wld) (r:Rel) : Rows:=(nR r w).getD []
def z80 (w:Wld) (r:Rel) : Rows:=(z14d w r).getD []
def z76 (w:Wld) (r:Rel) : Rows:=(zxq w r).getD []
def z8m (w:Wld) (r:Rel) : Rows:=(z1nm w r).getD []
def z8u (w:Wld) (r:Rel) : Rows:=(z1dy w r).getD []
def z8v (w:Wld) (r:Rel) : Rows:=(nSet w r).getD []
def z19 (w:Wld) (rows:Rows) (terms:List Term) : List Bunch:=(nBun w rows terms).getD []
theorem zrs {α:Type} {l s:List α} (h:capQ l=some s) : l=s∧s.length≤100000000:=by
 unfold capQ at h
 split at h
 ·rename_i hl;obtain rfl:=Option.some.inj h;exact⟨rfl,hl⟩
 ·simp at h
theorem z1qu {r:Rel} {w:Wld} {l:Rows} (h:nR r w=some l) : l.length≤100000000:=by
 rw[zxp,Option.bind_eq_some_iff] at h
 obtain⟨s,_,h2⟩:=h
 exact (zrs h2).2
theorem zb5 {l:List Rel} {n:Nat} {w:Wld} {s:Rows} (h:nKid l n w=some s) : s.length≤100000000:=by
 rw[zoc] at h
 split at h
 ·exact z1qu h
 ·obtain rfl:=Option.some.inj h;simp
theorem zm7 {α β:Type} {f:α→Option β} {x:α} {l:List α} {s:List β} (h:mapQ f (x::l)=some s) : ∃ y r,f x=some y∧mapQ f l=some r∧s=y::r:=by
 simp only[mapQ,Option.bind_eq_some_iff,Option.some.injEq] at h
 obtain⟨y,h1,r,h2,h3⟩:=h
 exact⟨y,r,h1,h2,h3.symm⟩
theorem zk6 {α β:Type} {f:α→Option β} : ∀ {l:List α} {s:List β},mapQ f l=some s→s.length=l.length
 | [],s,h=>by simp only[mapQ,Option.some.injEq] at h;subst h;rfl
 | x::l,s,h=>by
  obtain⟨y,r,_,h2,rfl⟩:=zm7 h
  rw[List.length_cons,List.length_cons,zk6 h2]
theorem zpl {α β:Type} {f:α→Option β} : ∀ {l:List α} {s:List β},mapQ f l=some s→∀ x∈l,∃ y,f x=some y
 | x::l,s,h,z,hz=>by
  obtain⟨y,r,h1,h2,rfl⟩:=zm7 h
  rcases List.mem_cons.1 hz with rfl | hz
  ·exact⟨y,h1⟩
  ·exact zpl h2 z hz
theorem zpm {α β:Type} {f:α→Option β} (g:α→β) : ∀ {l:List α} {s:List β},mapQ f l=some s→(∀ x∈l,∀ y,f x=some y→g x=y)→l.map g=s
 | [],s,h,_=>by simp only[mapQ,Option.some.injEq] at h;subst h;rfl
 | x::l,s,h,hg=>by
  obtain⟨y,r,h1,h2,rfl⟩:=zm7 h
  rw[List.map_cons,hg x List.mem_cons_self y h1,zpm g h2 fun z hz=>hg z (List.mem_cons_of_mem _ hz)]
theorem zxr {α:Type} {f:α→Option Bool} {x:α} {l s:List α} (h:zf2 f (x::l)=some s) : ∃ b r,f x=some b∧zf2 f l=some r∧s=if b=true then x::r else r:=by
 simp only[zf2,Option.bind_eq_some_iff,Option.some.injEq] at h
 obtain⟨y,h1,r,h2,h3⟩:=h
 exact⟨y,r,h1,h2,h3.symm⟩
theorem z1l8 {α:Type} {f:α→Option Bool} : ∀ {l s:List α},zf2 f l=some s→∀ x∈l,∃ b,f x=some b
 | x::l,s,h,z,hz=>by
  obtain⟨y,r,h1,h2,rfl⟩:=zxr h
  rcases List.mem_cons.1 hz with rfl | hz
  ·exact⟨y,h1⟩
  ·exact z1l8 h2 z hz
theorem z1e1 {α:Type} {f:α→Option Bool} (g:α→Bool) : ∀ {l s:List α} (o:List α),zf2 f l=some s→(∀ x∈l,∀ b,f x=some b→g x=b)→l.foldl (fun o x=>if g x=true then o++[x] else o) o=o++s
 | [],s,o,h,_=>by simp only[zf2,Option.some.injEq] at h;subst h;simp
 | x::l,s,o,h,hg=>by
  obtain⟨b,r,h1,h2,rfl⟩:=zxr h
  rw[List.foldl_cons,hg x List.mem_cons_self b h1,z1e1 g _ h2 fun z hz=>hg z (List.mem_cons_of_mem _ hz)]
  cases b<;>simp
theorem z12r {α:Type} {l:List α} {i:Nat} {d:α} (h:i<l.length) : l.getD i d∈l:=by
 rw[List.getD_eq_getElem?_getD,List.getElem?_eq_getElem h];exact List.getElem_mem h
theorem z1l9 {f:List Val→Option (List Val)} {N:Nat} : ∀ {l:Rows} {out bs:List Bunch},(∀ x∈l,∀ key,f x=some key→key.length≤N)→(∀ b∈out,b.key.length≤N)→bunQ f l out=some bs→(∀ b∈bs,b.key.length≤N)∧bs.length≤out.length+l.length
 | [],out,bs,_,ho,h=>by
  simp only[bunQ,Option.some.injEq] at h
  subst h
  exact⟨ho,by simp⟩
 | x::l,out,bs,hf,ho,h=>by
  simp only[bunQ,Option.bind_eq_some_iff] at h
  obtain⟨key,h1,h2⟩:=h
  have hk:=hf x List.mem_cons_self key h1
  have hb:(∀ b∈zea out key x,b.key.length≤N)∧(zea out key x).length≤out.length+1:=by
   unfold zea
   split
   ·rename_i i hi
    have hil:=(List.findIdx?_eq_some_iff_getElem.1 hi).1
    refine⟨fun b hb=>?_,by rw[List.length_set];omega⟩
    rcases List.mem_or_eq_of_mem_set hb with hb | rfl
    ·exact ho b hb
    ·show (out.getD i zl).key.length≤N
     exact ho _ (z12r hil)
   ·refine⟨fun b hb=>?_,by rw[List.length_append,List.length_singleton];omega⟩
    rcases List.mem_append.1 hb with hb | hb
    ·exact ho b hb
    ·rw[List.mem_singleton] at hb;subst hb;exact hk
  obtain⟨g1,g2⟩:=z1l9 (fun z hz=>hf z (List.mem_cons_of_mem _ hz)) hb.1 h2
  exact⟨g1,by rw[List.length_cons];omega⟩
theorem z23u {l:List Term} {w:Wld} {s:List Val} (h:nTs l w=some s) : s.length=l.length:=by rw[z1qt] at h;exact zk6 h
theorem z12s {terms:List Term} {w:Wld} {l:Rows} {bs:List Bunch} (h:bunO (fun w=>nTs terms w) terms.length w l=some bs) : (w.env.length≤100000000∧terms.length≤100000000∧l.length≤100000000)∧(∀ b∈bs,b.key.length≤terms.length)∧bs.length≤l.length+1:=by
 unfold bunO at h
 split at h
 ·rename_i hc
  refine⟨hc,?_⟩
  obtain⟨g1,g2⟩:=z1l9 (N:=terms.length) (fun x _ key hk=>by rw[z23u hk];exact Nat.le_refl _) (fun b hb=>by
   split at hb
   ·rw[List.mem_singleton] at hb;subst hb;exact Nat.zero_le _
   ·simp at hb) h
  refine⟨g1,Nat.le_trans g2 ?_⟩
  split<;>simp<;>omega
 ·simp at h
theorem z1la {f:List Val→Option (List Val)} : ∀ {l:Rows} {out bs:List Bunch} {N:Nat},(∀ b∈out,b.rows.length≤N)→bunQ f l out=some bs→∀ b∈bs,b.rows.length≤N+l.length
 | [],out,bs,N,ho,h=>by
  simp only[bunQ,Option.some.injEq] at h
  subst h
  exact ho
 | x::l,out,bs,N,ho,h=>by
  simp only[bunQ,Option.bind_eq_some_iff] at h
  obtain⟨key,h1,h2⟩:=h
  have hb:∀ b∈zea out key x,b.rows.length≤N+1:=by
   unfold zea
   split
   ·rename_i i hi
    have hil:=(List.findIdx?_eq_some_iff_getElem.1 hi).1
    intro b hb
    rcases List.mem_or_eq_of_mem_set hb with hb | rfl
    ·have:=ho b hb;omega
    ·have:=ho _ (z12r (d:=zl) hil)
     show ((out.getD i zl).rows++[x]).length≤N+1
     rw[List.length_append,List.length_singleton];omega
   ·intro b hb
    rcases List.mem_append.1 hb with hb | hb
    ·have:=ho b hb;omega
    ·rw[List.mem_singleton] at hb;subst hb;show [x].length≤N+1;rw[List.length_singleton];omega
  intro b hbm
  have:=z1la hb h2 b hbm
  rw[List.length_cons];omega
theorem z1zz {terms:List Term} {w:Wld} {l:Rows} {bs:List Bunch} (h:bunO (fun w=>nTs terms w) terms.length w l=some bs) (j:Nat) (hj:j<bs.length) : (bs.getD j zl).rows.length≤100000000:=by
 unfold bunO at h
 split at h
 ·rename_i hc
  have:=z1la (N:=0) (fun b hb=>by
   split at hb
   ·rw[List.mem_singleton] at hb;subst hb;exact Nat.zero_le _
   ·simp at hb) h _ (z12r (d:=zl) hj)
  omega
 ·simp at h
end
end Go.Proofs.YtjfpbchdcbhfgaaGreat.B
namespace Go.Proofs.YtjfpbchdcbhfgaaGreat.B
open Go Go.RowKit
set_option maxRecDepth 100000
noncomputable section
attribute [local irreducible] awp ctxK z12 z1o retQ z2i awf ctxF zt
theorem z23v (r:Rel) : Rel.mk r.op r.table r.cols r.kids r.terms r.aggs r.keys r.limit r.skip r.all r.rows=r:=by cases r;rfl
theorem zrt {α:Type} {l:List α} {i:Nat} {d:α} (h:i<l.length) : l.drop i=l.getD i d::l.drop (i+1):=by
 rw[List.getD_eq_getElem?_getD,List.getElem?_eq_getElem h]
 exact List.drop_eq_getElem_cons h
end
end Go.Proofs.YtjfpbchdcbhfgaaGreat.B
namespace Go.Proofs.YtjfpbchdcbhfgaaGreat.B
open Go Go.RowKit Go.Shelf
set_option maxRecDepth 1000000
set_option linter.unusedVariables false
theorem z16o {g:G} {w w':World} {v:Value} {rs:List (A Un)} {os:List (Ob Un)} {bxs:List (Bool×List (C Un))} {obs:List (Ob Un)} (hp:Part Tryz.prog En g w bxs obs) (h:Ret Tryz.prog En g.St w w' v rs os) (hlb:∀ k,¬ g.lb k) : RetG Tryz.prog En g w w' v rs [] os:=by
 obtain⟨hx,g',hl,ho,hw,hr,hobs⟩:=h
 have hnl:∀ b o,LB b=true→¬ g.mine b o:=fun b o hb ⟨y,hy,e⟩=>hy (hp.nlb b o y hb e)
 refine⟨g',⟨hx.os,hx.tape,hx.output,hx.le,fun k hk _=>hx.block hk,fun b o hb _=>hx.cell (p:=⟨b,o,none⟩) hb,fun b o hb _=>hx.stuck (p:=⟨b,o,none⟩) hb,hp.laid.ext hx,fun b hb=>hp.laid.lt b hb,hnl⟩,⟨fun k fz cells hk=>by simp at hk,fun k hk=>absurd hk (hl k),fun k o hk=>hobs k o hk,hw,hp.laid.ext hx,fun b o x hb e=>(ho b o x (hp.laid.lt b hb) e).1⟩,fun k hk=>absurd hk (hlb k),fun b o x hb hx=>.inr (ho b o x hb hx),hr⟩
theorem z200 {St:Nat→Nat→Prop} {w:World} {τ:Ty} (a:Option Addr) (hbd:∀ b o,St b o→b<w.heap.size) : Ret Tryz.prog En St w w (.slice a 0 0) [.c (.ob 0 0)] [⟨0,τ,[],some 0,true⟩]:=by
 classical
 refine⟨Ext.refl _,⟨fun _=>0,fun _=>False,fun b o=>if St b o then some .st else none,fun _=>(a,0)⟩,fun _ h=>h,?_,?_,?_,?_⟩
 ·intro b o x _ hx
  have hx':(if St b o then some Own.st else none)=some x:=hx
  split at hx'
  ·rename_i hs;simp at hx';exact⟨hx'.symm,hs⟩
  ·simp at hx'
 ·intro b o x hx
  have hx':(if St b o then some Own.st else none)=some x:=hx
  split at hx'
  ·rename_i hs;exact hbd b o hs
  ·simp at hx'
 ·exact⟨rfl,_,rfl,Nat.le_refl _,fun _=>rfl⟩
 ·intro k o ho
  cases k with
  | zero=>simp at ho;subst ho;exact⟨⟨⟨⟨Nat.le_refl _,by simp⟩,fun f hf=>by simp at hf;subst hf;exact Nat.le_refl _⟩,fun h=>absurd h (Nat.lt_irrefl 0)⟩,rfl⟩
  | succ k=>simp at ho
def z1e2 (τ:Ty) : List Bool×FnG Un:=([true,false],fun args bxs os=>match args,bxs,os with
 | [.c (.sl τ' [] true),.c (.s (.int .i64 n))],[],[]=>match Un.deq τ' τ with
  | .isTrue _=>some ([0≤n∧n≤1000000000],[.c (.ob 0 0)],[],[⟨0,τ,[],some 0,true⟩])
  | .isFalse _=>none
 | _,_,_=>none)
theorem z1qv {ρ:Ren} (L:Lays8.n4 Tryz.prog ρ) {τ:Ty} (hti:z1d4 (ρ.t 22) (ρ.t 25) τ=true) (hB:z3q Tryz.prog (ρ.f 4)) : GnOK (ρ.f 4) (z1e2 τ):=by
 obtain⟨bytes,i0,z,hb,h1',h1,h0,h2,h3,h4,h5,h6⟩:=slOf hti
 intro args bxs obs ob rs bxs' obs' h hob
 unfold z1e2 at h
 dsimp only at h
 split at h
 ·rename_i τ' n
  split at h
  ·rename_i he _
   subst he
   simp only[Option.some.injEq,Prod.mk.injEq] at h
   obtain⟨rfl,rfl,rfl,rfl⟩:=h
   have hn:=hob _ (List.mem_singleton.2 rfl)
   refine⟨?_,hB⟩
   intro w g vals hp hvals
   match vals,hvals with
   | [v0,v1],⟨a0,a1,_⟩ =>
    obtain⟨hV,hfull⟩:=a0
    obtain⟨a,k,rfl⟩:=hfull rfl
    obtain⟨hv1,_⟩:=a1
    subst hv1
    have hk:k=0:=by
     rcases hV.inv with ⟨_,a',c',e⟩ | ⟨b,o,cap,cv,e,_⟩
     ·simp only[Value.slice.injEq] at e;exact e.2.1
     ·simp only[Value.slice.injEq] at e;exact e.2.1
    subst hk
    have hlb:∀ k,¬ g.lb k:=fun k hk=>by have:=hp.lbs k hk;simp at this
    have hbd:∀ b o,g.St b o→b<w.heap.size:=fun b o hs=>hp.own b o _ hs
    obtain⟨m,rfl⟩ : ∃ m : Nat,n=(m:Int):=⟨n.toNat,by omega⟩
    by_cases hz : m=0
    ·subst hz
     refine (Any8.slices_Grow_room L a 0 0 0 w (Nat.le_refl _) (by omega) (by omega) (Nat.le_refl _)).mono ?_
     rintro e w' ⟨rfl,rfl⟩
     exact⟨_,rfl,z16o hp (z200 a hbd) hlb⟩
    ·refine (Any8.slices_Grow_grow L i0 z h2 h5 (by omega) a 0 0 m [] w (Nat.le_refl _) (by omega) (by
      have : (0+m)*i0.bytes≤1000000000*100000:=Nat.mul_le_mul (by omega) (by omega)
      omega) (by omega) (by simp) (fun _=>rfl) (fun _ _ j v hj=>by simp at hj)).mono ?_
     rintro e w' ⟨rfl,rfl⟩
     obtain⟨cur,hcur⟩ : ∃ cur : Array Value,cur=([] : List Value).toArray++Builtin.zeroCells z.cells (0+m - 0)++Builtin.zeroCells z.cells (grownCap w (0+m) 0 (ρ.t 25) - (0+m)):=⟨_,rfl⟩
     rw[← hcur]
     have hext:Ext w (w.drew.alloc (.cells cur (ρ.t 25))):=(Ext.refl w).drew.alloc _
     have hge:=grownCap_ge w (0+m) 0 (ρ.t 25)
     have hsz:cur.size=grownCap w (0+m) 0 (ρ.t 25)*sz τ':=by
      rw[hcur]
      simp only[Array.size_append,List.size_toArray,List.length_nil,size_zeroCells,h6]
      rw[Nat.zero_add,← Nat.add_mul]
      congr 1
      omega
     have hhp:(w.drew.alloc (.cells cur (ρ.t 25))).heap[w.heap.size]? = some (.cells cur (ρ.t 25) (0,0)):=by
      have : ∀ (h:Array Obj) (o:Obj),(h.push o)[h.size]? = some o:=fun h o=>by simp
      exact this w.heap _
     exact⟨_,rfl,z16o hp (z14b (e:=ρ.t 25) (news:=[]) hext hbd (by simp) ⟨by simp,.inr ⟨w.heap.size,grownCap w (0+m) 0 (ρ.t 25),cur,rfl,Nat.le_refl _,hhp,Nat.zero_le _,grownCap_le_maxLen w (0+m) 0 _ (by unfold maxLen;omega),hsz,by simp⟩⟩ (fun i hi=>absurd hi (Nat.not_lt_zero _))) hlb⟩
  ·simp at h
 ·simp at h
def z1qw : Ren:=⟨fun | 4=>182 | n=>n,fun | 0=>0 | 3=>3 | 4=>4 | 9=>9 | 20=>20 | 22=>57 | 25=>37 | n=>n,fun | n=>n⟩
theorem z1mj : Lays8.n4 Tryz.prog z1qw:={
  mixed:=by kernel_rfl
  f4:=⟨Tryz.f182.name,by kernel_rfl,Tryz.func182.trans (congrArg some (by kernel_rfl))⟩
  t0:=Tryz.underlying0
  a0:=Tryz.isAgg0
  z0:=Tryz.sizeOf0
  v0:=Tryz.zeroValue0
  t3:=Tryz.underlying3
  a3:=Tryz.isAgg3
  z3:=Tryz.sizeOf3
  v3:=Tryz.zeroValue3
  t4:=Tryz.underlying4
  a4:=Tryz.isAgg4
  z4:=Tryz.sizeOf4
  v4:=Tryz.zeroValue4
  t9:=Tryz.underlying9
  a9:=Tryz.isAgg9
  z9:=Tryz.sizeOf9
  v9:=Tryz.zeroValue9
  t20:=Tryz.underlying20
  a20:=Tryz.isAgg20
  z20:=Tryz.sizeOf20
  v20:=Tryz.zeroValue20
  t22:=Tryz.underlying57
  a22:=Tryz.isAgg57
  z22:=Tryz.sizeOf57
  v22:=Tryz.zeroValue57 }
def zxs : List Bool×FnG Un:=z1e2 .val
theorem z1qx : GnOK 182 zxs:=z1qv z1mj (by kernel_rfl) (zb Tryz.func182 (by kernel_rfl) (by kernel_rfl))
def z1qy : Ren:=⟨fun | 4=>190 | n=>n,fun | 0=>0 | 3=>3 | 4=>4 | 9=>9 | 20=>20 | 22=>27 | 25=>57 | n=>n,fun | n=>n⟩
theorem z1mk : Lays8.n4 Tryz.prog z1qy:={
  mixed:=by kernel_rfl
  f4:=⟨Tryz.f190.name,by kernel_rfl,Tryz.func190.trans (congrArg some (by kernel_rfl))⟩
  t0:=Tryz.underlying0
  a0:=Tryz.isAgg0
  z0:=Tryz.sizeOf0
  v0:=Tryz.zeroValue0
  t3:=Tryz.underlying3
  a3:=Tryz.isAgg3
  z3:=Tryz.sizeOf3
  v3:=Tryz.zeroValue3
  t4:=Tryz.underlying4
  a4:=Tryz.isAgg4
  z4:=Tryz.sizeOf4
  v4:=Tryz.zeroValue4
  t9:=Tryz.underlying9
  a9:=Tryz.isAgg9
  z9:=Tryz.sizeOf9
  v9:=Tryz.zeroValue9
  t20:=Tryz.underlying20
  a20:=Tryz.isAgg20
  z20:=Tryz.sizeOf20
  v20:=Tryz.zeroValue20
  t22:=Tryz.underlying27
  a22:=Tryz.isAgg27
  z22:=Tryz.sizeOf27
  v22:=Tryz.zeroValue27 }
def zxt : List Bool×FnG Un:=z1e2 .row
theorem z1qz : GnOK 190 zxt:=z1qv z1mk (by kernel_rfl) (zb Tryz.func190 (by kernel_rfl) (by kernel_rfl))
end Go.Proofs.YtjfpbchdcbhfgaaGreat.B
namespace Go.Proofs.YtjfpbchdcbhfgaaGreat.B
open Go Go.RowKit
set_option maxRecDepth 100000
noncomputable section
attribute [local irreducible] awp ctxK z12 z1o retQ z2i awf ctxF zt
theorem zt2 {α:Type} : ∀ (ls:List (List α)) (s:List α),ls.foldl (fun s x=>s++x) s=s++ls.flatten
 | [],s=>by simp
 | x::ls,s=>by rw[List.foldl_cons,zt2 ls,List.flatten_cons,List.append_assoc]
def z6t : Mc Un:=mach (tbl []) (tbl []) (tbl []) (tbl [(182,zxs)]) (tbl [])
def z12t (r:List Val) : List (A Un):=[.c (.ob 0 0)]
def z12u (r:List Val) : List (Ob Un):=[⟨0,Ty.val,r,some 0,true⟩]
def z12v (r:List Val) : RF Un:=(z12t r,z12u r)
def z5r : Nat→NS:=fun l=>(look l [(3,{ ts:=bl 36 3593,bs:=bl 36 0,nm:=[],cs:=true }),(11,{ ts:=bl 36 234881088,bs:=bl 36 0,nm:=[(.sl 6,144)],cs:=true })]).getD ⟨[],[],[],[],[],true⟩
def zab (ls:List (List Val)) (v0:Int) (v1:Int) : S Un:=(st 36 36 145 0 [(0,al .row ls),(3,ai v0),(9,al .row ls),(10,ai (↑ls.length:Int)),(11,ai v1)] [] [])
def z96 (ls:List (List Val)) (v2:Int) (v3:List Val) : S Un:=(st 36 36 145 0 [(6,ao 144),(25,al .row ls),(26,ai (↑ls.length:Int)),(27,ai v2)] [] [(144,some ⟨(0:Nat),Ty.val,v3,some (0:Nat),true⟩)])
noncomputable def zzd : Code:=sub (z8 Tryz.f138) [1,1,0,1,2,2]
def zgv : S Un→Option (EX Un):=zt (z5r 3) (fun s Q=>awf z6t z5r zzd s Q)
noncomputable def zvk : Code:=sub (z8 Tryz.f138) [1,1,1,1,0,1,2,2]
def zf3 : S Un→Option (EX Un):=zt (z5r 11) (fun s Q=>awf z6t z5r zvk s Q)
def zze : Exit→S Un→Option (RF Un):=ctxF z6t z5r (z8 Tryz.f138) [1,1,0,1,2] (retF z6t Tryz.f138.results.toList [.m])
def zvl : Exit→S Un→Option (RF Un):=ctxF z6t z5r (z8 Tryz.f138) [1,1,1,1,0,1,2] (retF z6t Tryz.f138.results.toList [.m])
def zzf (ls:List (List Val)) : Option (RF Un):=awf z6t z5r (z8 Tryz.f138) (zg Tryz.f138.ntmps 1 [.d (.v (.dat (U:=Un) Ty.row ls))]) (retF z6t Tryz.f138.results.toList [.m])
theorem z1ml (ls:List (List Val)) : zzf ls=(zgv (zab ls (0:Int) (0:Int))).bind (zx zze):=by kernel_rfl
theorem zzg (ls:List (List Val)) (v0:Int) (v1:Int) : zgv (zab ls v0 v1)=cndO (decide (v1<(↑ls.length:Int))) (obO (0≤v1∧v1<(↑ls.length:Int)) (cndO (decide (IntKind.i64.wrap (v0+(↑(List.length (ls.getD v1.toNat [])):Int))<0)) (none) (zgv (zab ls (IntKind.i64.wrap (v0+(↑(List.length (ls.getD v1.toNat [])):Int))) (IntKind.i64.wrap (v1+1)))))) (some (.exit 0,(zab ls v0 v1))):=(z11 (z5r 3) zzd _).trans (by kernel_rfl)
theorem z1a3 (ls:List (List Val)) (v0:Int) (v1:Int) : zze (.exit 0) (zab ls v0 v1)=obO (0≤v0∧v0≤1000000000) ((zf3 (z96 ls (0:Int) ([]))).bind (zx zvl)):=by kernel_rfl
theorem zvm (ls:List (List Val)) (v2:Int) (v3:List Val) : zf3 (z96 ls v2 v3)=cndO (decide (v2<(↑ls.length:Int))) (obO (0≤v2∧v2<(↑ls.length:Int)) (obO ((v3.length+List.length (ls.getD v2.toNat []))*(32:Nat)≤zw) (zf3 (z96 ls (IntKind.i64.wrap (v2+1)) (v3++ls.getD v2.toNat []))))) (some (.exit 2,(z96 ls v2 v3))):=(z11 (z5r 11) zvk _).trans (by kernel_rfl)
theorem z14w (ls:List (List Val)) (v2:Int) (v3:List Val) : zvl (.exit 2) (z96 ls v2 v3)=some (z12v (v3)):=by kernel_rfl
def z7o (ls:List (List Val)) : List Val:=ls.flatten
theorem z1e3 (ls:List (List Val)) (hl:WL .row ls) (h:ls.flatten.length≤1000000000) : zzf ls=some (z12v (z7o ls)):=by
 obtain⟨n,hn⟩ : ∃ n,n=ls.flatten.length:=⟨_,rfl⟩
 rw[← hn] at h
 obtain⟨lp,h0⟩:=z42 (e:=.exit 0) (L:=zgv) (st:=fun (s:Int) i=>zab ls s i) (l:=ls) (d:=[]) (g:=fun s x=>s+(x.length:Int)) (fun i s=>0≤s∧s+((ls.drop i).flatten.length:Int)=(n:Int)) hl.len
  (fun s i x hi hx hI=>by
   have hd:=zrt (d:=[]) (l:=ls) (i:=i) (by omega)
   rw[hx] at hd
   obtain⟨i1,i2⟩ : 0≤s∧s+((ls.drop i).flatten.length:Int)=(n:Int):=hI
   rw[hd,List.flatten_cons,List.length_append] at i2
   refine⟨⟨by show 0≤s+(x.length:Int);omega,by show s+(x.length:Int)+((ls.drop (i+1)).flatten.length:Int)=(n:Int);omega⟩,?_⟩
   rw[zzg]
   simp only[za,hi,decide_true,if_true,and_true,Int.toNat_natCast,hx]
   rw[z2n (by omega:(-9223372036854775808:Int)≤s+(x.length:Int)∧s+(x.length:Int)≤9223372036854775807),z6 (by omega),if_neg (by simp;omega)])
  (fun s _=>by rw[zzg];simp [za]) 0 ⟨Int.le_refl _,by simp [hn]⟩
 obtain⟨z,hz⟩ : ∃ z,z=ls.foldl (fun (s:Int) x=>s+(x.length:Int)) 0:=⟨_,rfl⟩
 rw[← hz] at lp h0
 have h0':0≤z∧z+((ls.drop ls.length).flatten.length:Int)=(n:Int):=h0
 rw[List.drop_length,List.flatten_nil,List.length_nil] at h0'
 obtain⟨lq,_⟩:=z42 (e:=.exit 2) (L:=zf3) (st:=fun (s:List Val) i=>z96 ls i s) (l:=ls) (d:=[]) (g:=fun s x=>s++x) (fun i s=>s.length+(ls.drop i).flatten.length=n) hl.len
  (fun s i x hi hx hI=>by
   have hd:=zrt (d:=[]) (l:=ls) (i:=i) (by omega)
   rw[hx] at hd
   have i2:s.length+(ls.drop i).flatten.length=n:=hI
   rw[hd,List.flatten_cons,List.length_append] at i2
   refine⟨by show (s++x).length+(ls.drop (i+1)).flatten.length=n;rw[List.length_append];omega,?_⟩
   rw[zvm]
   simp only[za,hi,decide_true,if_true,and_true,Int.toNat_natCast,hx]
   rw[z6 (by omega),z6 (by unfold zw;omega)])
  (fun s _=>by rw[zvm];simp [za]) [] (by simp [hn])
 rw[zt2,List.nil_append] at lq
 rw[z1ml]
 refine (zn lp).trans ?_
 rw[z1a3,z6 (by omega)]
 refine (zn lq).trans ?_
 rw[z14w]
 rfl
def zjd : FnC Un:=fun args=>match args with
 | [x0]=>(dL .row x0).bind fun ls=>some ([ls.flatten.length≤1000000000],z12t (z7o ls),z12u (z7o ls))
 | _=>none
theorem z1mm : FnOK 138 zjd:=by
 intro args ob rs os h hob
 unfold zjd at h
 split at h
 ·simp only[Option.bind_eq_some_iff,Option.some.injEq,Prod.mk.injEq] at h
  obtain⟨ls,e0,rfl,rfl,rfl⟩:=h
  obtain rfl:=z1i e0
  exact⟨zd (M:=z6t) rfl (zf (l1:=[]) (l2:=[]) (l3:=[]) (l4:=[(182,zxs)]) (l5:=[]) trivial trivial trivial ⟨z1qx,trivial⟩ trivial) Tryz.func138 (by kernel_rfl) z5r 1 [.m] (fun hwf=>(z1e3 ls (ze hwf (a:=.d (.v (.dat (U:=Un) Ty.row ls))) (List.mem_of_getElem? (i:=0) rfl)) (hob _ (List.mem_of_getElem? (i:=0) rfl)))),zb Tryz.func138 (by kernel_rfl) (by kernel_rfl)⟩
 ·simp at h
def z6u : Mc Un:=mach (tbl []) (tbl []) (tbl []) (tbl [(190,zxt)]) (tbl [])
def z12w (r:List (List Val)) : List (A Un):=[.c (.ob 0 0)]
def z12x (r:List (List Val)) : List (Ob Un):=[⟨0,Ty.row,r,some 0,true⟩]
def z12y (r:List (List Val)) : RF Un:=(z12w r,z12x r)
def z5s : Nat→NS:=fun l=>(look l [(3,{ ts:=bl 36 3593,bs:=bl 36 0,nm:=[],cs:=true }),(11,{ ts:=bl 36 234881088,bs:=bl 36 0,nm:=[(.sl 6,144)],cs:=true })]).getD ⟨[],[],[],[],[],true⟩
def zac (ls:List (List (List Val))) (v0:Int) (v1:Int) : S Un:=(st 36 36 145 0 [(0,al .rowss ls),(3,ai v0),(9,al .rowss ls),(10,ai (↑ls.length:Int)),(11,ai v1)] [] [])
def z97 (ls:List (List (List Val))) (v2:Int) (v3:List (List Val)) : S Un:=(st 36 36 145 0 [(6,ao 144),(25,al .rowss ls),(26,ai (↑ls.length:Int)),(27,ai v2)] [] [(144,some ⟨(0:Nat),Ty.row,v3,some (0:Nat),true⟩)])
noncomputable def zzh : Code:=sub (z8 Tryz.f143) [1,1,0,1,2,2]
def zgw : S Un→Option (EX Un):=zt (z5s 3) (fun s Q=>awf z6u z5s zzh s Q)
noncomputable def zvn : Code:=sub (z8 Tryz.f143) [1,1,1,1,0,1,2,2]
def zf4 : S Un→Option (EX Un):=zt (z5s 11) (fun s Q=>awf z6u z5s zvn s Q)
def zzi : Exit→S Un→Option (RF Un):=ctxF z6u z5s (z8 Tryz.f143) [1,1,0,1,2] (retF z6u Tryz.f143.results.toList [.m])
def zvo : Exit→S Un→Option (RF Un):=ctxF z6u z5s (z8 Tryz.f143) [1,1,1,1,0,1,2] (retF z6u Tryz.f143.results.toList [.m])
def zzj (ls:List (List (List Val))) : Option (RF Un):=awf z6u z5s (z8 Tryz.f143) (zg Tryz.f143.ntmps 1 [.d (.v (.dat (U:=Un) Ty.rowss ls))]) (retF z6u Tryz.f143.results.toList [.m])
theorem z1mn (ls:List (List (List Val))) : zzj ls=(zgw (zac ls (0:Int) (0:Int))).bind (zx zzi):=by kernel_rfl
theorem zzk (ls:List (List (List Val))) (v0:Int) (v1:Int) : zgw (zac ls v0 v1)=cndO (decide (v1<(↑ls.length:Int))) (obO (0≤v1∧v1<(↑ls.length:Int)) (cndO (decide (IntKind.i64.wrap (v0+(↑(List.length (ls.getD v1.toNat [])):Int))<0)) (none) (zgw (zac ls (IntKind.i64.wrap (v0+(↑(List.length (ls.getD v1.toNat [])):Int))) (IntKind.i64.wrap (v1+1)))))) (some (.exit 0,(zac ls v0 v1))):=(z11 (z5s 3) zzh _).trans (by kernel_rfl)
theorem z1a4 (ls:List (List (List Val))) (v0:Int) (v1:Int) : zzi (.exit 0) (zac ls v0 v1)=obO (0≤v0∧v0≤1000000000) ((zf4 (z97 ls (0:Int) ([]))).bind (zx zvo)):=by kernel_rfl
theorem zvp (ls:List (List (List Val))) (v2:Int) (v3:List (List Val)) : zf4 (z97 ls v2 v3)=cndO (decide (v2<(↑ls.length:Int))) (obO (0≤v2∧v2<(↑ls.length:Int)) (obO ((v3.length+List.length (ls.getD v2.toNat []))*(24:Nat)≤zw) (zf4 (z97 ls (IntKind.i64.wrap (v2+1)) (v3++ls.getD v2.toNat []))))) (some (.exit 2,(z97 ls v2 v3))):=(z11 (z5s 11) zvn _).trans (by kernel_rfl)
theorem z14x (ls:List (List (List Val))) (v2:Int) (v3:List (List Val)) : zvo (.exit 2) (z97 ls v2 v3)=some (z12y (v3)):=by kernel_rfl
def zcg (ls:List (List (List Val))) : List (List Val):=ls.flatten
theorem z1e4 (ls:List (List (List Val))) (hl:WL .rowss ls) (h:ls.flatten.length≤1000000000) : zzj ls=some (z12y (zcg ls)):=by
 obtain⟨n,hn⟩ : ∃ n,n=ls.flatten.length:=⟨_,rfl⟩
 rw[← hn] at h
 obtain⟨lp,h0⟩:=z42 (e:=.exit 0) (L:=zgw) (st:=fun (s:Int) i=>zac ls s i) (l:=ls) (d:=[]) (g:=fun s x=>s+(x.length:Int)) (fun i s=>0≤s∧s+((ls.drop i).flatten.length:Int)=(n:Int)) hl.len
  (fun s i x hi hx hI=>by
   have hd:=zrt (d:=[]) (l:=ls) (i:=i) (by omega)
   rw[hx] at hd
   obtain⟨i1,i2⟩ : 0≤s∧s+((ls.drop i).flatten.length:Int)=(n:Int):=hI
   rw[hd,List.flatten_cons,List.length_append] at i2
   refine⟨⟨by show 0≤s+(x.length:Int);omega,by show s+(x.length:Int)+((ls.drop (i+1)).flatten.length:Int)=(n:Int);omega⟩,?_⟩
   rw[zzk]
   simp only[za,hi,decide_true,if_true,and_true,Int.toNat_natCast,hx]
   rw[z2n (by omega:(-9223372036854775808:Int)≤s+(x.length:Int)∧s+(x.length:Int)≤9223372036854775807),z6 (by omega),if_neg (by simp;omega)])
  (fun s _=>by rw[zzk];simp [za]) 0 ⟨Int.le_refl _,by simp [hn]⟩
 obtain⟨z,hz⟩ : ∃ z,z=ls.foldl (fun (s:Int) x=>s+(x.length:Int)) 0:=⟨_,rfl⟩
 rw[← hz] at lp h0
 have h0':0≤z∧z+((ls.drop ls.length).flatten.length:Int)=(n:Int):=h0
 rw[List.drop_length,List.flatten_nil,List.length_nil] at h0'
 obtain⟨lq,_⟩:=z42 (e:=.exit 2) (L:=zf4) (st:=fun (s:List (List Val)) i=>z97 ls i s) (l:=ls) (d:=[]) (g:=fun s x=>s++x) (fun i s=>s.length+(ls.drop i).flatten.length=n) hl.len
  (fun s i x hi hx hI=>by
   have hd:=zrt (d:=[]) (l:=ls) (i:=i) (by omega)
   rw[hx] at hd
   have i2:s.length+(ls.drop i).flatten.length=n:=hI
   rw[hd,List.flatten_cons,List.length_append] at i2
   refine⟨by show (s++x).length+(ls.drop (i+1)).flatten.length=n;rw[List.length_append];omega,?_⟩
   rw[zvp]
   simp only[za,hi,decide_true,if_true,and_true,Int.toNat_natCast,hx]
   rw[z6 (by omega),z6 (by unfold zw;omega)])
  (fun s _=>by rw[zvp];simp [za]) [] (by simp [hn])
 rw[zt2,List.nil_append] at lq
 rw[z1mn]
 refine (zn lp).trans ?_
 rw[z1a4,z6 (by omega)]
 refine (zn lq).trans ?_
 rw[z14x]
 rfl
def zje : FnC Un:=fun args=>match args with
 | [x0]=>(dL .rowss x0).bind fun ls=>some ([ls.flatten.length≤1000000000],z12w (zcg ls),z12x (zcg ls))
 | _=>none
theorem z1mo : FnOK 143 zje:=by
 intro args ob rs os h hob
 unfold zje at h
 split at h
 ·simp only[Option.bind_eq_some_iff,Option.some.injEq,Prod.mk.injEq] at h
  obtain⟨ls,e0,rfl,rfl,rfl⟩:=h
  obtain rfl:=z1i e0
  exact⟨zd (M:=z6u) rfl (zf (l1:=[]) (l2:=[]) (l3:=[]) (l4:=[(190,zxt)]) (l5:=[]) trivial trivial trivial ⟨z1qz,trivial⟩ trivial) Tryz.func143 (by kernel_rfl) z5s 1 [.m] (fun hwf=>(z1e4 ls (ze hwf (a:=.d (.v (.dat (U:=Un) Ty.rowss ls))) (List.mem_of_getElem? (i:=0) rfl)) (hob _ (List.mem_of_getElem? (i:=0) rfl)))),zb Tryz.func143 (by kernel_rfl) (by kernel_rfl)⟩
 ·simp at h
end
end Go.Proofs.YtjfpbchdcbhfgaaGreat.B
